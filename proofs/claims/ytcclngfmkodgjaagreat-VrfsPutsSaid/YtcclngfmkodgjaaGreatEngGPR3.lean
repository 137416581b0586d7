/- Part of the proof of VrfsPuts: plain laws of the printed mirrors. No conditions. -/
import Derived.Test.YtcclngfmkodgjaaGreatEngGP1
import Derived.Test.YtcclngfmkodgjaaGreatEngGR15
set_option linter.unusedVariables false
set_option linter.unusedSectionVars false
set_option linter.unusedSimpArgs false
namespace Go.Eng
open Go Classical
attribute [local congr] ite_cg
section

end
end Go.Eng

set_option linter.unusedVariables false
set_option linter.unusedSectionVars false
set_option linter.unusedSimpArgs false
namespace Go.Eng
open Go Classical
attribute [local congr] ite_cg
section
variable {n : Api_Net} {l : Api_Line}
noncomputable def vrfI (n : Api_Net) (d : Int) (s : ByteArray) : Int := fstI n.vrfs fun v => v.dev = d ∧ v.name = s
theorem names_Vrf_spec (hs : SmN n) {d : Int} {s : ByteArray} : names_Vrf n d s = some (if RightP n then vrfI n d s else -1) := by
  simp only [names_Vrf, names_find_Vrf_Vrf_1, names_Right_spec hs, slices_IndexFunc_Vrf_Vrf_1]
  rw [loop_first n.vrfs (fun p => p.dev = d ∧ p.name = s) hs.vrfs (fun i h0 h1 h2 => by
    have := hs.vrfs
    simp (disch := omega) only [slices_IndexFunc_Vrf_Vrf_1_L1, names_Vrf_1, seqB_dec, h1, nth_getI h2, wr64, bind_ite, Option.bind_some, dif1, dif2, dif3, dif4, dif5, dif6, dif7, dnot, ibeq, ibne, decide_eq_true_eq, if_not2, ge_iff_le, gt_iff_lt, fst_ret, Bool.false_eq_true, decide_false, mrg1, mrg2, mrg3, mrg4, mrg5, mrg6, mrg7, decide_true, if_true]; first | exact fpos Iff.rfl | (split <;> rfl)) (by simp [slices_IndexFunc_Vrf_Vrf_1_L1])]
  simp only [bind_ite, Option.bind_some, dif1, dif2, dif3, dif4, dif5, dif6, dif7, dnot, ibeq, ibne, decide_eq_true_eq, if_not2, ge_iff_le, gt_iff_lt, fst_ret, Bool.false_eq_true, decide_false]
  split <;> rfl
theorem works20 : palinglaw20_works = some true := by kernel_rfl
end
end Go.Eng

set_option linter.unusedVariables false
set_option linter.unusedSectionVars false
set_option linter.unusedSimpArgs false
namespace Go.Eng
open Go Classical
attribute [local congr] ite_cg
section
variable {n : Api_Net} {l : Api_Line}
theorem sm_vrf (hs : SmN n) {x : Api_Vrf} (hn : n.vrfs.length ≤ 1000) (h1 : Few x.imports) (h2 : Few x.exports) : SmN { n with vrfs := n.vrfs ++ [x] } :=
  { hs with vrfs := (by unfold Few; simp; omega), imports := (fun d hd => by
      rcases List.mem_append.1 hd with h | h
      · exact hs.imports d h
      · rw [List.mem_singleton] at h; rw [h]; exact h1), exports := (fun d hd => by
      rcases List.mem_append.1 hd with h | h
      · exact hs.exports d h
      · rw [List.mem_singleton] at h; rw [h]; exact h2) }
theorem sm_irb (hs : SmN n) {k : Nat} {x : Api_Domain} {y : Api_Irb} (hx : Few x.peers) (hn : n.irbs.length ≤ 1000) : SmN { n with domains := n.domains.set k x, irbs := n.irbs ++ [y] } :=
  { hs with domains := (by have := hs.domains; unfold Few at *; simpa using this), irbs := (by unfold Few; simp; omega), peers := (fun d hd => by
      rcases List.mem_or_eq_of_mem_set hd with h | h
      · exact hs.peers d h
      · rw [h]; exact hx) }
end
end Go.Eng
