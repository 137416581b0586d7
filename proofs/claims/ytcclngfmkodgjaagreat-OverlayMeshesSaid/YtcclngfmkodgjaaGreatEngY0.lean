/- Chapter 03: texts of lists, on the reference's side: what is written is read again. -/
import Derived.Test.YtcclngfmkodgjaaGreatEngU2
set_option linter.unusedVariables false
set_option linter.unusedSectionVars false
set_option linter.unusedSimpArgs false
namespace Go.Eng
open Go Classical
/-! ### Loops in parts -/
section
variable {σ ρ : Type} {f : σ → Option (σ ⊕ ρ)} {s s1 s2 : σ} {n k : Nat} {r : ρ}
def Rch (f : σ → Option (σ ⊕ ρ)) (n : Nat) (s s1 : σ) : Prop := ∀ m, iter f (m + n) s = iter f m s1
theorem Rch.refl : Rch f 0 s s := fun m => rfl
theorem Rch.one (h : f s = some (.inl s1)) : Rch f 1 s s1 := fun m => by rw [iter_succ, h]
theorem Rch.trans (h : Rch f n s s1) (h2 : Rch f k s1 s2) : Rch f (n + k) s s2 := fun m => by
  rw [show m + (n + k) = (m + k) + n by omega, h, h2]
theorem Rch.out (h : Rch f n s s1) (hn : n < 18446744073709551616) (he : f s1 = some (.inr r)) : loopM f s = some r := by
  obtain ⟨m, hm⟩ : ∃ m, 18446744073709551616 = (m + 1) + n := ⟨18446744073709551615 - n, by omega⟩
  have : loopM f s = iter f ((m + 1) + n) s := by rw [← hm]; rfl
  rw [this, h, iter_succ, he]
theorem Rch.steps (st : Nat → σ) : ∀ n : Nat, (∀ i, i < n → f (st i) = some (.inl (st (i + 1)))) → Rch f n (st 0) (st n)
  | 0, _ => Rch.refl
  | n + 1, h => (Rch.steps st n fun i hi => h i (by omega)).trans (Rch.one (h n (by omega)))
end
/-! ### What stands between commas -/
section
variable {L : List Int} (hb : ∀ x ∈ L, 0 ≤ x ∧ x < 256) (hL : L.length ≤ 100000)
include hb hL
end
/-! ### Lists of numbers -/
section
variable {l : List Int} (hl : l.length ≤ 16) (ho : ∀ x ∈ l, -9223372036854775808 ≤ x ∧ x < 9223372036854775808)
include hl ho
end
end Go.Eng
