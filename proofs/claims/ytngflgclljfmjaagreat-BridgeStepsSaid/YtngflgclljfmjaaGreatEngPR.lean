/- Plain laws of nets that may be when something is put into them. -/
import Derived.Test.YtngflgclljfmjaaGreatEngGP1
set_option linter.unusedVariables false
set_option linter.unusedSectionVars false
set_option linter.unusedSimpArgs false
namespace Go.Eng
open Go Classical

section
variable {α : Type} [Inhabited α] {l r : List α} {x : α} {i k : Int}
theorem inL_setI : inL (l.set k.toNat x) i ↔ inL l i := by simp [inL]
theorem getI_setI (hk : inL l k) (hi : inL l i) : getI (l.set k.toNat x) i = if i = k then x else getI l i := by
  have h1 := hk.1; have h2 := hi.1; have h3 := hk.2; have h4 := hi.2
  unfold getI
  by_cases h : i = k
  · subst h
    rw [List.getElem?_set_self (by omega)]; simp
  · rw [List.getElem?_set_ne (by omega)]; simp [h]
end
section
variable {n : Api_Net}
end
end Go.Eng
