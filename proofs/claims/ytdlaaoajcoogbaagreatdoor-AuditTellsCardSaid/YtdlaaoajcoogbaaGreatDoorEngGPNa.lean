/- Part of the proof of AuditTells: plain laws of the printed mirrors. No conditions. -/
import Derived.Test.YtdlaaoajcoogbaaGreatDoorEngGP1
import Derived.Test.YtdlaaoajcoogbaaGreatDoorMAM
set_option linter.unusedVariables false
set_option linter.unusedSectionVars false
set_option linter.unusedSimpArgs false
namespace Go.Eng
open Go Classical
attribute [local congr] ite_cg

section

end
end Go.Eng

set_option linter.unusedVariables false
set_option linter.unusedSectionVars false
set_option linter.unusedSimpArgs false
namespace Go.Eng
open Go Classical
attribute [local congr] ite_cg
section
/-! ### A copy -/
end
end Go.Eng

set_option linter.unusedVariables false
set_option linter.unusedSectionVars false
set_option linter.unusedSimpArgs false
namespace Go.Eng
open Go Classical
attribute [local congr] ite_cg

end Go.Eng

set_option linter.unusedVariables false
set_option linter.unusedSectionVars false
set_option linter.unusedSimpArgs false
namespace Go.Eng
open Go Classical
attribute [local congr] ite_cg
end Go.Eng

set_option linter.unusedVariables false
set_option linter.unusedSectionVars false
set_option linter.unusedSimpArgs false
namespace Go.Eng
open Go Classical
attribute [local congr] ite_cg

/-! ### One bit of a number -/
theorem gather_filter {l : List Int} {K : Int → Bool} : gatherI l (fun _ p => K p = true) (fun _ p => p) = l.filter K := by
  unfold gatherI
  have key : ∀ (l : List Int) (k : Nat), (l.zipIdx k).filterMap (fun q => if K q.1 = true then some q.1 else none) = l.filter K := by
    intro l
    induction l with
    | nil => intro k; rfl
    | cons x l ih =>
      intro k
      rw [List.zipIdx_cons, List.filterMap_cons, List.filter_cons, ih]
      cases h : K x <;> simp [h]
  rw [← key l 0]
  congr 1
  funext q
  split <;> rename_i h <;> simp [h]
/-! ### Bytes of an address -/
end Go.Eng

set_option linter.unusedVariables false
set_option linter.unusedSectionVars false
set_option linter.unusedSimpArgs false
namespace Go.Eng
open Go Classical
attribute [local congr] ite_cg
section

end
end Go.Eng
