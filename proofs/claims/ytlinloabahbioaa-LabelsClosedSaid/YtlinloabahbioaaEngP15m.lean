/- Plain laws of chapter 15: a domain's ports. -/
import Derived.Test.YtlinloabahbioaaEngP15n
import Derived.Test.YtlinloabahbioaaEngP15d
set_option linter.unusedVariables false
set_option linter.unusedSectionVars false
set_option linter.unusedSimpArgs false
namespace Go.Eng
open Go Classical
attribute [local congr] ite_cg
section
variable {n : Api_Net}
theorem names_Members_spec (hs : SmN n) {k : Int} : names_Members n k = some (if RightP n ∧ inL n.domains k then membersL n k else []) := by
  by_cases hr : RightP n
  case neg => simp [names_Members, names_Right_spec hs, hr]
  by_cases hk : inL n.domains k
  case neg => simp [names_Members, names_Right_spec hs, place_Domain_spec, hr, hk]
  simp only [names_Members, names_Right_spec hs, place_Domain_spec, hr, hk, decide_true, and_self, if_true, Option.bind_some]
  rw [loop_gather n.ports (fun _ p => InDom n k p) (fun i _ => i) (out := id) hs.ports (fun i s h0 h1 h2 h3 => by
    have h4 := hs.ports
    have h5 : roomy 8 (s ++ [i]) = true := roomy_few (by simp; omega)
    simp (disch := omega) only [names_Members_L1, h1, nth_getI h2, nth_getI hk, Member_spec (hs.tagged _ (getI_mem h2)), wr64, h5, bind_ite, Option.bind_some, dif1, dif2, dif3, dif4, dif5, dif6, dif7, dnot, ibeq, ibne, decide_eq_true_eq, if_not2, ge_iff_le, gt_iff_lt, fst_ret, Bool.false_eq_true, decide_false, decide_true, if_true, InDom]
    grind) (fun s => by simp [names_Members_L1])]
  rfl

end
end Go.Eng
