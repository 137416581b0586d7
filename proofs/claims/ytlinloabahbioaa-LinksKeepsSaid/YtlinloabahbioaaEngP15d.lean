/- Plain laws of chapter 15 (names): where a domain is. -/
import Derived.Test.YtlinloabahbioaaEngP15
set_option linter.unusedVariables false
set_option linter.unusedSectionVars false
set_option linter.unusedSimpArgs false
namespace Go.Eng
open Go Classical
attribute [local congr] ite_cg
section
variable {n : Api_Net}
theorem Domain_1_spec {d : Api_Domain} {a b : Int} : names_Domain_1 d a b = some (decide (d.dev = a ∧ d.vlan = b)) := by
  simp only [names_Domain_1, bind_ite, Option.bind_some, dif1, dif2, dif3, dif4, dif5, dif6, dif7, dnot, ibeq, ibne, decide_eq_true_eq, if_not2, ge_iff_le, gt_iff_lt, fst_ret, Bool.false_eq_true, decide_false]
theorem names_Domain_spec (hs : SmN n) {a b : Int} : names_Domain n a b = some (if RightP n then domIx n.domains a b else -1) := by
  simp only [names_Domain, names_find_Domain_Domain_1, names_Right_spec hs, slices_IndexFunc_Domain_Domain_1]
  rw [loop_first n.domains (fun d => d.dev = a ∧ d.vlan = b) hs.domains (fun i h0 h1 h2 => by
    have := hs.domains
    simp (disch := omega) only [slices_IndexFunc_Domain_Domain_1_L1, Domain_1_spec, h1, nth_getI h2, wr64, bind_ite, Option.bind_some, dif1, dif2, dif3, dif4, dif5, dif6, dif7, dnot, ibeq, ibne, decide_eq_true_eq, if_not2, ge_iff_le, gt_iff_lt, fst_ret, Bool.false_eq_true, decide_false, decide_true, if_true]; split <;> rfl) (by simp [slices_IndexFunc_Domain_Domain_1_L1])]
  simp only [bind_ite, Option.bind_some, dif1, dif2, dif3, dif4, dif5, dif6, dif7, dnot, ibeq, ibne, decide_eq_true_eq, if_not2, ge_iff_le, gt_iff_lt, fst_ret, Bool.false_eq_true, decide_false]
  split <;> rfl

end
end Go.Eng
