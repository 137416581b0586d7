/- Chapter 28 (leave): what goes to a peer, and what comes from one. -/
import Derived.Test.YtakijieekhbhfaaGreatEngB7p
set_option linter.unusedVariables false
set_option linter.unusedSectionVars false
set_option linter.unusedSimpArgs false
namespace Go.Eng
open Go Classical
attribute [local congr] ite_cg
section
variable {n : Api_Net}
/-- A domain's device's VTEP. -/
noncomputable def vtI (n : Api_Net) (d : Int) : Int := (getI n.devices (getI n.domains d).dev).vtep
theorem vtep_spec (hr : RightP n) {d : Int} (hd : inL n.domains d) : leave_whole_vtep ⟨n⟩ d = some (vtI n d) := by
  have hb := (hr.bare d hd).1
  unfold leave_whole_vtep vtI
  simp only [nth_getI hd, nth_getI hb, Option.bind_some]
theorem rvtep_spec (hr : RightP n) {d : Int} (hd : inL n.domains d) : palingref28_vtep n d = some (vtI n d) := by
  have hb := (hr.bare d hd).1
  unfold palingref28_vtep vtI
  simp only [nth_getI hd, nth_getI hb, Option.bind_some]
theorem vtI_ok (hn : n.Ok) (hr : RightP n) {d : Int} (hd : inL n.domains d) : okI .u32 (vtI n d) := by
  have hb := (hr.bare d hd).1
  exact (hn.1.2 _ (getI_mem hb)).2.2.2.2.1
noncomputable def meshS (n : Api_Net) (d q : Int) (f : Api_Frame) : List Int × Int :=
  if ¬ (RightP n ∧ inL n.domains d ∧ inL n.domains q) then ([], 2)
  else if q ∉ (getI n.domains d).peers then ([], 17)
  else wrapS (vtI n d) (vtI n q) (getI n.domains d).vni f
theorem leave_Mesh_spec (hs : SmN n) (hn : n.Ok) {d q : Int} {f : Api_Frame} (hf : f.Ok) (hb : f.body.length ≤ 4000) : leave_Mesh n d q f = some (meshS n d q f) := by
  unfold leave_Mesh meshS
  rw [lplace_spec, lplace_spec, names_Right_spec hs]
  simp only [Option.bind_some]
  by_cases hq : inL n.domains q
  case neg => rw [if_pos (by simpa using hq), if_pos (by simp [hq])]
  rw [if_neg (by simpa using hq)]
  by_cases hd : inL n.domains d
  case neg => rw [if_pos (by simpa using hd), if_pos (by simp [hd])]
  rw [if_neg (by simpa using hd)]
  by_cases hr : RightP n
  case neg => rw [if_pos (by simpa using hr), if_pos (by simp [hr])]
  rw [if_neg (by simpa using hr), if_neg (c := ¬ (RightP n ∧ _)) (by simp [hq, hd, hr]), nth_getI hd]
  simp only [Option.bind_some, Contains_int_spec (hs.peers _ (getI_mem hd)), vtep_spec hr hd, vtep_spec hr hq]
  by_cases c : q ∈ (getI n.domains d).peers
  case neg => rw [if_pos (by simpa using c), if_pos c]
  rw [if_neg (by simpa using c), if_neg (show ¬ ¬ q ∈ (getI n.domains d).peers from not_not.2 c), vxlan_Wrap_spec (vtI_ok hn hr hd) (vtI_ok hn hr hq) hf hb]
  rfl
theorem rLeave_Mesh_spec (hs : SmN n) (hn : n.Ok) {d q : Int} {f : Api_Frame} (hf : f.Ok) (hb : f.body.length ≤ 4000) : palingref28_Mesh n d q f = some (meshS n d q f) := by
  unfold palingref28_Mesh meshS
  rw [rPlace_spec, rPlace_spec, rRight_spec hs]
  simp only [Option.bind_some]
  by_cases hr : RightP n
  case neg => rw [if_pos (by simpa using hr), if_pos (by simp [hr])]
  rw [if_neg (by simpa using hr)]
  by_cases hq : inL n.domains q
  case neg => rw [if_pos (by simpa using hq), if_pos (by simp [hq])]
  rw [if_neg (by simpa using hq)]
  by_cases hd : inL n.domains d
  case neg => rw [if_pos (by simpa using hd), if_pos (by simp [hd])]
  rw [if_neg (by simpa using hd), if_neg (c := ¬ (RightP n ∧ _)) (by simp [hq, hd, hr]), nth_getI hd]
  simp only [Option.bind_some, rIn_spec (hs.peers _ (getI_mem hd)), rvtep_spec hr hd, rvtep_spec hr hq]
  by_cases c : q ∈ (getI n.domains d).peers
  case neg => rw [if_pos (by simpa using c), if_pos c]
  rw [if_neg (by simpa using c), if_neg (show ¬ ¬ q ∈ (getI n.domains d).peers from not_not.2 c), rWrap_spec (vtI_ok hn hr hd) (vtI_ok hn hr hq) hf hb]
  rfl
/-- The device of a VTEP, its domain of a VNI, the first peer with a VTEP. -/
noncomputable def devV (n : Api_Net) (y : Int) : Int := fstI n.devices fun d => d.vtep = y
noncomputable def domV (n : Api_Net) (y v : Int) : Int := fstI n.domains fun d => d.dev = devV n y ∧ d.vni = v
noncomputable def peerV (n : Api_Net) (x y v : Int) : Int := fstI (getI n.domains (domV n y v)).peers fun k => vtI n k = x
noncomputable def endsS (n : Api_Net) (x y v : Int) : Int × Int :=
  if devV n y < 0 ∨ domV n y v < 0 then (-1, -1)
  else if peerV n x y v < 0 then (-1, -1)
  else (getI (getI n.domains (domV n y v)).peers (peerV n x y v), domV n y v)
theorem peer_in (hr : RightP n) {d : Int} (hd : inL n.domains d) {k : Int} (hk : k ∈ (getI n.domains d).peers) : inL n.domains k := by
  obtain ⟨i, hi, rfl⟩ := mem_getI hk
  exact ((hr.peers d hd) i hi).1.1
theorem ends_spec (hs : SmN n) (hr : RightP n) {x y v : Int} : leave_whole_ends ⟨n⟩ x y v = some (endsS n x y v) := by
  have h1 : slices_IndexFunc_Device_whole_ends_1 n.devices y = some (devV n y) := by
    unfold slices_IndexFunc_Device_whole_ends_1
    rw [loop_first n.devices (fun d => d.vtep = y) hs.devices (fun i h0 h1 h2 => by
      have := hs.devices
      simp (disch := omega) only [slices_IndexFunc_Device_whole_ends_1_L1, leave_whole_ends_1, h1, nth_getI h2, wr64, bind_ite, Option.bind_some, dif1, dif2, dif3, dif4, dif5, dif6, dif7, dnot, ibeq, ibne, decide_eq_true_eq, if_not2, ge_iff_le, gt_iff_lt, fst_ret, Bool.false_eq_true, decide_false, decide_true, if_true]; split <;> rfl) (by simp [slices_IndexFunc_Device_whole_ends_1_L1])]
    simp only [bind_ite, Option.bind_some, dif1, dif2, dif3, dif4, dif5, dif6, dif7, dnot, ibeq, ibne, decide_eq_true_eq, if_not2, ge_iff_le, gt_iff_lt, fst_ret, Bool.false_eq_true, decide_false, devV]
  have h2 : ∀ dv, slices_IndexFunc_Domain_whole_ends_2 n.domains dv v = some (fstI n.domains fun d => d.dev = dv ∧ d.vni = v) := by
    intro dv
    unfold slices_IndexFunc_Domain_whole_ends_2
    rw [loop_first n.domains (fun d => d.dev = dv ∧ d.vni = v) hs.domains (fun i h0 h1 h2 => by
      have := hs.domains
      simp (disch := omega) only [slices_IndexFunc_Domain_whole_ends_2_L1, leave_whole_ends_2, h1, nth_getI h2, wr64, bind_ite, Option.bind_some, dif1, dif2, dif3, dif4, dif5, dif6, dif7, dnot, ibeq, ibne, decide_eq_true_eq, if_not2, ge_iff_le, gt_iff_lt, fst_ret, Bool.false_eq_true, decide_false, mrg1, mrg2, mrg3, mrg4, mrg5, mrg6, mrg7, decide_true, if_true]; first | exact fpos Iff.rfl | (split <;> rfl)) (by simp [slices_IndexFunc_Domain_whole_ends_2_L1])]
    split
    · rfl
    · rename_i h
      have := fstI_ge (l := n.domains) (P := fun d => d.dev = dv ∧ d.vni = v)
      simp only [Option.bind_some]; congr 1; omega
  unfold leave_whole_ends endsS
  simp only [h1, h2, Option.bind_some]
  rw [show (fstI n.domains fun d => d.dev = devV n y ∧ d.vni = v) = domV n y v from rfl]
  by_cases c1 : devV n y < 0
  · rw [if_pos (decide_eq_true c1), if_pos (.inl c1)]
  rw [if_neg (by simpa using c1)]
  by_cases c2 : domV n y v < 0
  · rw [if_pos (decide_eq_true c2), if_pos (.inr c2)]
  have hd : inL n.domains (domV n y v) := fstI_inL.1 (by unfold domV at c2; omega)
  rw [if_neg (by simpa using c2), if_neg (c := devV n y < 0 ∨ _) (by rintro (h | h) <;> contradiction), nth_getI hd, Option.bind_some]
  have hf := hs.peers _ (getI_mem hd)
  have h3 : slices_IndexFunc_int_whole_ends_3 (getI n.domains (domV n y v)).peers ⟨n⟩ x = some (peerV n x y v) := by
    unfold slices_IndexFunc_int_whole_ends_3
    rw [loop_first (getI n.domains (domV n y v)).peers (fun k => vtI n k = x) hf (fun i h0 h1 h2 => by
      have hk := peer_in hr hd (getI_mem h2)
      simp (disch := omega) only [slices_IndexFunc_int_whole_ends_3_L1, leave_whole_ends_3, vtep_spec hr hk, h1, nth_getI h2, wr64, bind_ite, Option.bind_some, dif1, dif2, dif3, dif4, dif5, dif6, dif7, dnot, ibeq, ibne, decide_eq_true_eq, if_not2, ge_iff_le, gt_iff_lt, fst_ret, Bool.false_eq_true, decide_false, decide_true, if_true]; split <;> rfl) (by simp [slices_IndexFunc_int_whole_ends_3_L1])]
    simp only [bind_ite, Option.bind_some, dif1, dif2, dif3, dif4, dif5, dif6, dif7, dnot, ibeq, ibne, decide_eq_true_eq, if_not2, ge_iff_le, gt_iff_lt, fst_ret, Bool.false_eq_true, decide_false, peerV]
  rw [h3, Option.bind_some]
  by_cases c3 : peerV n x y v < 0
  · rw [if_pos (decide_eq_true c3), if_pos c3]
  have hp : inL (getI n.domains (domV n y v)).peers (peerV n x y v) := fstI_inL.1 (by unfold peerV at c3; omega)
  rw [if_neg (by simpa using c3), if_neg c3, nth_getI hp]
  rfl
theorem rEnds_spec (hs : SmN n) (hr : RightP n) {x y v : Int} : palingref28_ends n x y v = some (endsS n x y v) := by
  have h3 : ∀ (dv k : Int), inL n.domains k → loopM (palingref28_ends_L3 n x y v dv k) 0 = if 0 ≤ fstI (getI n.domains k).peers (fun j => vtI n j = x) then some (.inl (getI (getI n.domains k).peers (fstI (getI n.domains k).peers fun j => vtI n j = x))) else some (.inr ()) := by
    intro dv k hk
    have hf := hs.peers _ (getI_mem hk)
    rw [loop_firstv (getI n.domains k).peers (fun j => vtI n j = x) (fun _ j => j) hf (fun i h0 h1 h2 => by
      have hj := peer_in hr hk (getI_mem h2)
      simp (disch := omega) only [palingref28_ends_L3, rvtep_spec hr hj, h1, nth_getI h2, nth_getI hk, wr64, bind_ite, Option.bind_some, dif1, dif2, dif3, dif4, dif5, dif6, dif7, dnot, ibeq, ibne, decide_eq_true_eq, if_not2, ge_iff_le, gt_iff_lt, fst_ret, Bool.false_eq_true, decide_false, decide_true, if_true]; split <;> rfl) (by simp [palingref28_ends_L3, nth_getI hk])]
  have h2 : ∀ dv, loopM (palingref28_ends_L2 n x y v dv) 0 = if 0 ≤ fstI n.domains (fun d => d.dev = dv ∧ d.vni = v) then some (.inl (if 0 ≤ fstI (getI n.domains (fstI n.domains (fun d => d.dev = dv ∧ d.vni = v))).peers (fun j => vtI n j = x) then (getI (getI n.domains (fstI n.domains (fun d => d.dev = dv ∧ d.vni = v))).peers (fstI (getI n.domains (fstI n.domains (fun d => d.dev = dv ∧ d.vni = v))).peers fun j => vtI n j = x), fstI n.domains (fun d => d.dev = dv ∧ d.vni = v)) else (-1, -1))) else some (.inr ()) := by
    intro dv
    have hf := hs.domains
    rw [loop_firstv n.domains (fun d => d.dev = dv ∧ d.vni = v) (fun i d => if 0 ≤ fstI d.peers (fun j => vtI n j = x) then (getI d.peers (fstI d.peers fun j => vtI n j = x), i) else (-1, -1)) hf (fun i h0 h1 h2 => by
      have hw := wr64 (n := i + 1) (by omega) (by omega)
      simp only [palingref28_ends_L2, h1, nth_getI h2, hw, h3 dv i h2, decide_true, if_true, Option.bind_some]
      by_cases e1 : (getI n.domains i).dev = dv
      case neg => simp [e1]
      by_cases e2 : (getI n.domains i).vni = v
      case neg => simp [e1, e2]
      simp only [e1, e2, bne_self_eq_false, Bool.false_eq_true, if_false, and_self, if_true]
      split <;> rfl) (by simp [palingref28_ends_L2])]
  unfold palingref28_ends
  have hf := hs.devices
  rw [loop_firstv n.devices (fun d => d.vtep = y) (fun i _ => if 0 ≤ fstI n.domains (fun d => d.dev = i ∧ d.vni = v) then (if 0 ≤ fstI (getI n.domains (fstI n.domains (fun d => d.dev = i ∧ d.vni = v))).peers (fun j => vtI n j = x) then (getI (getI n.domains (fstI n.domains (fun d => d.dev = i ∧ d.vni = v))).peers (fstI (getI n.domains (fstI n.domains (fun d => d.dev = i ∧ d.vni = v))).peers fun j => vtI n j = x), fstI n.domains (fun d => d.dev = i ∧ d.vni = v)) else (-1, -1)) else (-1, -1)) hf (fun i h0 h1 h2' => by
    have hw := wr64 (n := i + 1) (by omega) (by omega)
    simp only [palingref28_ends_L1, h1, nth_getI h2', hw, h2 i, decide_true, if_true, Option.bind_some]
    by_cases e1 : (getI n.devices i).vtep = y
    case neg => simp [e1]
    simp only [e1, bne_self_eq_false, Bool.false_eq_true, if_false, if_true]
    split <;> rfl) (by simp [palingref28_ends_L1])]
  unfold endsS
  by_cases c1 : devV n y < 0
  · rw [if_neg (show ¬ 0 ≤ fstI n.devices (fun d => d.vtep = y) from by unfold devV at c1; omega), if_pos (.inl c1)]; rfl
  rw [if_pos (show 0 ≤ fstI n.devices (fun d => d.vtep = y) from by unfold devV at c1; omega)]
  simp only [Option.bind_some]
  rw [show (fstI n.devices fun d => d.vtep = y) = devV n y from rfl, show (fstI n.domains fun d => d.dev = devV n y ∧ d.vni = v) = domV n y v from rfl]
  by_cases c2 : domV n y v < 0
  · rw [if_neg (show ¬ 0 ≤ domV n y v from by omega), if_pos (.inr c2)]
  rw [if_pos (show 0 ≤ domV n y v from by omega), if_neg (c := devV n y < 0 ∨ _) (by rintro (h | h) <;> contradiction), show (fstI (getI n.domains (domV n y v)).peers fun j => vtI n j = x) = peerV n x y v from rfl]
  by_cases c3 : peerV n x y v < 0
  · rw [if_neg (show ¬ 0 ≤ peerV n x y v from by omega), if_pos c3]
  · rw [if_pos (show 0 ≤ peerV n x y v from by omega), if_neg c3]
/-- What comes from a peer: body, from, domain, to, sender, type; what is wrong. -/
noncomputable def comeS (n : Api_Net) (b : List Int) : List Int × Int × Int × Int × Int × Int × Int :=
  if ¬ RightP n then ([], 0, 0, 0, 0, 0, 2)
  else if (unwS b).2.2.2.2.2.2.2 ≠ 0 then ([], 0, 0, 0, 0, 0, (unwS b).2.2.2.2.2.2.2)
  else if (endsS n (unwS b).2.1 (unwS b).2.2.1 (unwS b).2.2.2.1).1 < 0 then ([], 0, 0, 0, 0, 0, 17)
  else if GrpP (unwS b).2.2.2.2.2.1 then ([], 0, 0, 0, 0, 0, 11)
  else ((unwS b).1, (endsS n (unwS b).2.1 (unwS b).2.2.1 (unwS b).2.2.2.1).1, (endsS n (unwS b).2.1 (unwS b).2.2.1 (unwS b).2.2.2.1).2, (unwS b).2.2.2.2.1, (unwS b).2.2.2.2.2.1, (unwS b).2.2.2.2.2.2.1, 0)
theorem takE_src {b : List Int} (hB : BytesP b) : 0 ≤ (takE b).2.2.1 ∧ (takE b).2.2.1 < 18446744073709551616 := by
  unfold takE
  split
  · simp
  split
  · simp
  · rename_i h1 h2
    have := numB_lt hB (o := 6) (by omega) 6 (by omega)
    simp only
    omega
theorem unwS_src {b : List Int} (hB : BytesP b) : 0 ≤ (unwS b).2.2.2.2.2.1 ∧ (unwS b).2.2.2.2.2.1 < 18446744073709551616 := by
  have h := takE_src (takV_bytes (takU_bytes (takI_bytes (takE_bytes hB))))
  have z : (0 : Int) ≤ 0 ∧ (0 : Int) < 18446744073709551616 := by omega
  unfold unwS
  generalize takE (takV (takU (takI (takE b).1).1).1).1 = A5 at *
  generalize takV (takU (takI (takE b).1).1).1 = A4 at *
  generalize takU (takI (takE b).1).1 = A3 at *
  generalize takI (takE b).1 = A2 at *
  generalize takE b = A1 at *
  split
  · exact z
  split
  · exact z
  split
  · exact z
  split
  · exact z
  split
  · exact z
  split
  · exact z
  split
  · exact z
  split
  · exact z
  split
  · exact z
  · exact h
theorem leave_Come_spec (hs : SmN n) {b : List Int} (hB : BytesP b) (hb : b.length ≤ 1000000) : ∃ k : Nat, leave_Come n b = some ((comeS n b).1, k, (comeS n b).2.1, (comeS n b).2.2.1, (comeS n b).2.2.2.1, (comeS n b).2.2.2.2.1, (comeS n b).2.2.2.2.2.1, (comeS n b).2.2.2.2.2.2) := by
  unfold leave_Come comeS
  rw [names_Right_spec hs, Option.bind_some]
  by_cases hr : RightP n
  case neg => rw [if_pos (by simpa using hr), if_pos hr]; exact ⟨_, rfl⟩
  rw [if_neg (by simpa using hr), if_neg (not_not.2 hr), vxlan_Unwrap_spec hB hb]
  simp only [Option.bind_some]
  by_cases c1 : (unwS b).2.2.2.2.2.2.2 = 0
  case neg => rw [if_pos (by simpa using c1), if_pos c1]; exact ⟨_, rfl⟩
  rw [if_neg (by simpa using c1), if_neg (not_not.2 c1), ends_spec hs hr, Option.bind_some]
  by_cases c2 : (endsS n (unwS b).2.1 (unwS b).2.2.1 (unwS b).2.2.2.1).1 < 0
  · rw [if_pos (decide_eq_true c2), if_pos c2]; exact ⟨_, rfl⟩
  have hsr := unwS_src hB
  rw [if_neg (by simpa using c2), if_neg c2, mac_Group_spec hsr.1 hsr.2, Option.bind_some]
  by_cases c3 : GrpP (unwS b).2.2.2.2.2.1
  · rw [if_pos (decide_eq_true c3), if_pos c3]; exact ⟨_, rfl⟩
  · rw [if_neg (by simpa using c3), if_neg c3]; exact ⟨_, rfl⟩
theorem rLeave_Come_spec (hs : SmN n) {b : List Int} (hB : BytesP b) (hb : b.length ≤ 1000000) : palingref28_Come n b = some (comeS n b) := by
  unfold palingref28_Come comeS
  rw [rRight_spec hs, Option.bind_some]
  by_cases hr : RightP n
  case neg => rw [if_pos (by simpa using hr), if_pos hr]
  rw [if_neg (by simpa using hr), if_neg (not_not.2 hr), rUnwrap_spec hB hb]
  simp only [Option.bind_some]
  by_cases c1 : (unwS b).2.2.2.2.2.2.2 = 0
  case neg => rw [if_pos (by simpa using c1), if_pos c1]
  rw [if_neg (by simpa using c1), if_neg (not_not.2 c1), rEnds_spec hs hr, Option.bind_some]
  by_cases c2 : (endsS n (unwS b).2.1 (unwS b).2.2.1 (unwS b).2.2.2.1).1 < 0
  · rw [if_pos (decide_eq_true c2), if_pos c2]
  have hsr := unwS_src hB
  rw [if_neg (by simpa using c2), if_neg c2, r01Group_spec hsr.1 hsr.2, Option.bind_some]
  by_cases c3 : GrpP (unwS b).2.2.2.2.2.1
  · rw [if_pos (decide_eq_true c3), if_pos c3]
  · rw [if_neg (by simpa using c3), if_neg c3]
theorem leaveMeshes (n : Api_Net) (d q : Int) (f : Api_Frame) (b : List Int) (hn : n.Ok) (_ : okI .i64 d) (_ : okI .i64 q) (hf : f.Ok) (hb : okL (okI .u8) b) : palinglaw28_LeaveMeshes n d q f b = some true := by
  unfold palinglaw28_LeaveMeshes
  rw [works28, Great_spec, Option.bind_some]
  by_cases hg : BndN n 200 100
  case neg => rw [if_pos (by simpa using hg)]; rfl
  rw [if_neg (by simpa using hg)]
  have hs := hg.sm
  by_cases c : (f.body.length : Int) > 4000
  · rw [if_pos (decide_eq_true c)]; rfl
  rw [if_neg (by simpa using c)]
  by_cases c2 : (b.length : Int) > 4000
  · rw [if_pos (decide_eq_true c2)]; rfl
  obtain ⟨k, hk⟩ := leave_Come_spec hs (bytes_ok hb) (show b.length ≤ 1000000 by omega)
  rw [if_neg (by simpa using c2), leave_Mesh_spec hs hn hf (by omega), rLeave_Mesh_spec hs hn hf (by omega), hk, rLeave_Come_spec hs (bytes_ok hb) (by omega)]
  simp [seqB_self, same_self]
end
end Go.Eng
