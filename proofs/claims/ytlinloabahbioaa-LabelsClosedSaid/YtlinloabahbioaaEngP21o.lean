/- Plain laws of chapter 17: which domain stands on the other side; peers. -/
import Derived.Test.YtlinloabahbioaaEngP21
import Derived.Test.YtlinloabahbioaaEngL2c
set_option linter.unusedVariables false
set_option linter.unusedSectionVars false
set_option linter.unusedSimpArgs false
namespace Go.Eng
open Go Classical
attribute [local congr] ite_cg
section
variable {n : Api_Net}
theorem links_Domain_ok (hs : SmN n) (hr : RightP n) {p v : Int} : links_Domain n p v = some (if OkX n p v then (toDom n p v, true) else (0, false)) := by
  rw [links_Domain_spec hs hr]
  congr 1
  by_cases h : OkX n p v
  · rw [if_pos h, if_pos (crossI_ok.2 h)]; rfl
  · rw [if_neg h, if_neg (fun g => h (crossI_ok.1 g))]
theorem rDomain_ok (hs : SmN n) (hr : RightP n) {p v : Int} : palingref17_Domain n p v = some (if OkX n p v then (toDom n p v, true) else (0, false)) := by
  rw [rDomain_spec hs hr]
  congr 1
  by_cases h : OkX n p v
  · rw [if_pos h, if_pos (crossI_ok.2 h)]; rfl
  · rw [if_neg h, if_neg (fun g => h (crossI_ok.1 g))]
theorem peer_sym (hr : RightP n) {i k : Int} (hi : inL n.domains i) (hk : k ∈ (getI n.domains i).peers) : inL n.domains k ∧ k ≠ i ∧ i ∈ (getI n.domains k).peers := by
  obtain ⟨j, hj, rfl⟩ := mem_getI hk
  have := (hr.peers i hi j hj).1
  exact ⟨this.1, this.2.1, this.2.2.2.2.2.2.2.2⟩
end
end Go.Eng
