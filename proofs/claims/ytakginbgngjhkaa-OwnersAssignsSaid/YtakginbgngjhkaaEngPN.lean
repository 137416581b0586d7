/- Plain laws of names: devices and ports by their names, by the document. -/
import Derived.Test.YtakginbgngjhkaaEngPNa
import Derived.Test.YtakginbgngjhkaaEngP21b
set_option linter.unusedVariables false
set_option linter.unusedSectionVars false
set_option linter.unusedSimpArgs false
namespace Go.Eng
open Go Classical
attribute [local congr] ite_cg

section
variable {n : Api_Net}
theorem rDevice_spec (hs : SmN n) {s : ByteArray} : palingref15_Device n s = some (devI n s) := by
  unfold palingref15_Device
  rw [loop_first n.devices (fun d => d.name = s) hs.devices (fun i h0 h1 h2 => by
    have := hs.devices
    simp (disch := omega) only [palingref15_Device_L1, seqB_dec, h1, nth_getI h2, wr64, bind_ite, Option.bind_some, dif1, dif2, dif3, dif4, dif5, dif6, dif7, dnot, ibeq, ibne, decide_eq_true_eq, if_not2, ge_iff_le, gt_iff_lt, fst_ret, Bool.false_eq_true, decide_false, decide_true, if_true]; split <;> rfl) (by simp [palingref15_Device_L1])]
  simp only [bind_ite, Option.bind_some, dif1, dif2, dif3, dif4, dif5, dif6, dif7, dnot, ibeq, ibne, decide_eq_true_eq, if_not2, ge_iff_le, gt_iff_lt, fst_ret, Bool.false_eq_true, decide_false]
  rfl
theorem rPort_spec (hs : SmN n) {d : Int} {s : ByteArray} : palingref15_Port n d s = some (portI n d s) := by
  unfold palingref15_Port
  rw [loop_first n.ports (fun p => p.dev = d ∧ p.name = s) hs.ports (fun i h0 h1 h2 => by
    have := hs.ports
    simp (disch := omega) only [palingref15_Port_L1, seqB_dec, h1, nth_getI h2, wr64, bind_ite, Option.bind_some, dif1, dif2, dif3, dif4, dif5, dif6, dif7, dnot, ibeq, ibne, decide_eq_true_eq, if_not2, ge_iff_le, gt_iff_lt, fst_ret, Bool.false_eq_true, decide_false, mrg1, mrg2, mrg3, mrg4, mrg5, mrg6, mrg7, decide_true, if_true]; first | exact fpos Iff.rfl | (split <;> rfl)) (by simp [palingref15_Port_L1])]
  simp only [bind_ite, Option.bind_some, dif1, dif2, dif3, dif4, dif5, dif6, dif7, dnot, ibeq, ibne, decide_eq_true_eq, if_not2, ge_iff_le, gt_iff_lt, fst_ret, Bool.false_eq_true, decide_false]
  rfl
end
end Go.Eng
