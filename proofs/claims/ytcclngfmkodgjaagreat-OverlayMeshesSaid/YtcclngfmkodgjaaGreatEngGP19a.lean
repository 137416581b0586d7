/- Part of the proof of OverlayMeshes: plain laws of the printed mirrors. No conditions. -/
import Derived.Test.YtcclngfmkodgjaaGreatEngGR15
import Derived.Test.YtcclngfmkodgjaaGreatEngGP1
set_option linter.unusedVariables false
set_option linter.unusedSectionVars false
set_option linter.unusedSimpArgs false
namespace Go.Eng
open Go Classical
attribute [local congr] ite_cg
section
variable {n : Api_Net}
noncomputable def vniI (n : Api_Net) (dev vni : Int) : Int := fstI n.domains fun d => d.dev = dev ∧ d.vni = vni ∧ vni ≠ 0
noncomputable def floodI (n : Api_Net) (dev vni : Int) : Int := fstI n.floods fun f => f.dev = dev ∧ f.vni = vni
noncomputable def ownI (n : Api_Net) (a : Int) : Int := fstI n.devices fun d => d.vtep = a
theorem overlay_find_spec (hs : SmN n) {a b : Int} : overlay_find n a b = some (vniI n a b) := by
  simp only [overlay_find, slices_IndexFunc_Domain_find_1]
  rw [loop_first n.domains (fun d => d.dev = a ∧ d.vni = b ∧ b ≠ 0) hs.domains (fun i h0 h1 h2 => by
    have := hs.domains
    simp (disch := omega) only [slices_IndexFunc_Domain_find_1_L1, overlay_find_1, h1, nth_getI h2, wr64, bind_ite, Option.bind_some, dif1, dif2, dif3, dif4, dif5, dif6, dif7, dnot, ibeq, ibne, decide_eq_true_eq, if_not2, ge_iff_le, gt_iff_lt, fst_ret, Bool.false_eq_true, decide_false, mrg1, mrg2, mrg3, mrg4, mrg5, mrg6, mrg7, decide_true, if_true]; first | exact fpos Iff.rfl | (split <;> rfl)) (by simp [slices_IndexFunc_Domain_find_1_L1])]
  simp only [bind_ite, Option.bind_some, dif1, dif2, dif3, dif4, dif5, dif6, dif7, dnot, ibeq, ibne, decide_eq_true_eq, if_not2, ge_iff_le, gt_iff_lt, fst_ret, Bool.false_eq_true, decide_false]
  rfl
theorem overlay_list_spec (hs : SmN n) {a b : Int} : overlay_list n a b = some (floodI n a b) := by
  simp only [overlay_list, slices_IndexFunc_Flood_list_1]
  rw [loop_first n.floods (fun d => d.dev = a ∧ d.vni = b) hs.floods (fun i h0 h1 h2 => by
    have := hs.floods
    simp (disch := omega) only [slices_IndexFunc_Flood_list_1_L1, overlay_list_1, h1, nth_getI h2, wr64, bind_ite, Option.bind_some, dif1, dif2, dif3, dif4, dif5, dif6, dif7, dnot, ibeq, ibne, decide_eq_true_eq, if_not2, ge_iff_le, gt_iff_lt, fst_ret, Bool.false_eq_true, decide_false, mrg1, mrg2, mrg3, mrg4, mrg5, mrg6, mrg7, decide_true, if_true]; first | exact fpos Iff.rfl | (split <;> rfl)) (by simp [slices_IndexFunc_Flood_list_1_L1])]
  simp only [bind_ite, Option.bind_some, dif1, dif2, dif3, dif4, dif5, dif6, dif7, dnot, ibeq, ibne, decide_eq_true_eq, if_not2, ge_iff_le, gt_iff_lt, fst_ret, Bool.false_eq_true, decide_false]
  rfl
theorem overlay_owner_spec (hs : SmN n) {a : Int} : overlay_owner n a = some (ownI n a) := by
  simp only [overlay_owner, slices_IndexFunc_Device_owner_1]
  rw [loop_first n.devices (fun d => d.vtep = a) hs.devices (fun i h0 h1 h2 => by
    have := hs.devices
    simp (disch := omega) only [slices_IndexFunc_Device_owner_1_L1, overlay_owner_1, h1, nth_getI h2, wr64, bind_ite, Option.bind_some, dif1, dif2, dif3, dif4, dif5, dif6, dif7, dnot, ibeq, ibne, decide_eq_true_eq, if_not2, ge_iff_le, gt_iff_lt, fst_ret, Bool.false_eq_true, decide_false, mrg1, mrg2, mrg3, mrg4, mrg5, mrg6, mrg7, decide_true, if_true]; first | exact fpos Iff.rfl | (split <;> rfl)) (by simp [slices_IndexFunc_Device_owner_1_L1])]
  simp only [bind_ite, Option.bind_some, dif1, dif2, dif3, dif4, dif5, dif6, dif7, dnot, ibeq, ibne, decide_eq_true_eq, if_not2, ge_iff_le, gt_iff_lt, fst_ret, Bool.false_eq_true, decide_false]
  rfl
theorem Contains_u32_spec {l : List Int} {x : Int} (hl : Few l) : slices_Contains_uint32 l x = some (decide (x ∈ l)) := by
  have : slices_Index_uint32 l x = some (fstI l (fun y => x = y)) := by
    unfold slices_Index_uint32
    rw [loop_first l (fun y => x = y) hl (fun i h0 h1 h2 => by simp (disch := omega) only [slices_Index_uint32_L1, h1, nth_getI h2, wr64, bind_ite, Option.bind_some, dif1, dif2, dif3, dif4, dif5, dif6, dif7, dnot, ibeq, ibne, decide_eq_true_eq, if_not2, ge_iff_le, gt_iff_lt, fst_ret, Bool.false_eq_true, decide_false, decide_true, if_true]; split <;> rfl) (by simp [slices_Index_uint32_L1])]
    simp only [bind_ite, Option.bind_some, dif1, dif2, dif3, dif4, dif5, dif6, dif7, dnot, ibeq, ibne, decide_eq_true_eq, if_not2, ge_iff_le, gt_iff_lt, fst_ret, Bool.false_eq_true, decide_false]
  unfold slices_Contains_uint32
  rw [this]
  simp only [bind_ite, Option.bind_some, dif1, dif2, dif3, dif4, dif5, dif6, dif7, dnot, ibeq, ibne, decide_eq_true_eq, if_not2, ge_iff_le, gt_iff_lt, fst_ret, Bool.false_eq_true, decide_false]
  refine sdec ?_
  have := fstI_none_mem (l := l) (P := fun y => x = y)
  constructor
  · intro h
    apply Classical.byContradiction
    intro hn
    have := this.2 (fun y hy e => hn (e ▸ hy)); omega
  · intro h
    apply Classical.byContradiction
    intro hn
    exact this.1 (by omega) x h rfl
end
end Go.Eng

set_option linter.unusedVariables false
set_option linter.unusedSectionVars false
set_option linter.unusedSimpArgs false
namespace Go.Eng
open Go Classical
attribute [local congr] ite_cg
section

end
end Go.Eng

set_option linter.unusedVariables false
set_option linter.unusedSectionVars false
set_option linter.unusedSimpArgs false
namespace Go.Eng
open Go Classical
attribute [local congr] ite_cg
section
variable {n : Api_Net} {l : Api_Line}
theorem works19 : palinglaw19_works = some true := by kernel_rfl
theorem overlay_Find_spec (hs : SmN n) {a b : Int} : overlay_Find n a b = some (if RightP n then vniI n a b else -1) := by
  simp only [overlay_Find, names_Right_spec hs, overlay_find_spec hs, Option.bind_some]
  by_cases h : RightP n <;> simp [h]
end
end Go.Eng
