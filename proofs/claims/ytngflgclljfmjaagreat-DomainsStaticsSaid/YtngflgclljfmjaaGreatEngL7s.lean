/- Static entries on both sides. -/
import Derived.Test.YtngflgclljfmjaaGreatEngGP1
import Derived.Test.YtngflgclljfmjaaGreatEngGL7a
set_option linter.unusedVariables false
set_option linter.unusedSectionVars false
set_option linter.unusedSimpArgs false
namespace Go.Eng
open Go Classical
attribute [local congr] ite_cg
section
variable {n : Api_Net}
noncomputable def statI (n : Api_Net) (d x : Int) : Int := fstI n.statics fun s => s.domain = d ∧ s.mac = x
noncomputable def statP (n : Api_Net) (d x : Int) : Int := if 0 ≤ statI n d x then (getI n.statics (statI n d x)).port else -1
theorem statI_in {d x : Int} (h : 0 ≤ statI n d x) : inL n.statics (statI n d x) := fstI_inL.1 h
theorem domains_entry_spec (hs : SmN n) {d x : Int} : domains_entry n d x = some (statI n d x) := by
  unfold domains_entry slices_IndexFunc_Static_entry_1
  rw [loop_first n.statics (fun s => s.domain = d ∧ s.mac = x) hs.statics (fun i h0 h1 h2 => by
    have := hs.statics
    simp (disch := omega) only [slices_IndexFunc_Static_entry_1_L1, domains_entry_1, h1, nth_getI h2, wr64, bind_ite, Option.bind_some, dif1, dif2, dif3, dif4, dif5, dif6, dif7, dnot, ibeq, ibne, decide_eq_true_eq, if_not2, ge_iff_le, gt_iff_lt, fst_ret, Bool.false_eq_true, decide_false, mrg1, mrg2, mrg3, mrg4, mrg5, mrg6, mrg7, decide_true, if_true]; first | exact fpos Iff.rfl | exact fneg Iff.rfl) (by simp [slices_IndexFunc_Static_entry_1_L1])]
  simp only [bind_ite, Option.bind_some, dif1, dif2, dif3, dif4, dif5, dif6, dif7, dnot, ibeq, ibne, decide_eq_true_eq, if_not2, ge_iff_le, gt_iff_lt, fst_ret, Bool.false_eq_true, decide_false]
  rfl
theorem r18Lookup_spec (hs : SmN n) {d x : Int} : palingref18_Lookup n d x = some (statP n d x) := by
  unfold palingref18_Lookup statP
  rw [loop_firstv n.statics (fun s => s.domain = d ∧ s.mac = x) (fun _ s => s.port) hs.statics (fun i h0 h1 h2 => by
    have := hs.statics
    simp (disch := omega) only [palingref18_Lookup_L1, h1, nth_getI h2, wr64, bind_ite, Option.bind_some, dif1, dif2, dif3, dif4, dif5, dif6, dif7, dnot, ibeq, ibne, decide_eq_true_eq, if_not2, ge_iff_le, gt_iff_lt, fst_ret, Bool.false_eq_true, decide_false, mrg1, mrg2, mrg3, mrg4, mrg5, mrg6, mrg7, decide_true, if_true]; exact fpos Iff.rfl) (by simp [palingref18_Lookup_L1])]
  by_cases h : 0 ≤ statI n d x
  · have h' : 0 ≤ fstI n.statics (fun s => s.domain = d ∧ s.mac = x) := h
    simp only [h, h', if_true, Option.bind_some]; rfl
  · have h' : ¬ 0 ≤ fstI n.statics (fun s => s.domain = d ∧ s.mac = x) := h
    simp only [h, h', if_false, Option.bind_some]
end
end Go.Eng
