/- Chapter 28 (leave): what goes to a peer comes to it: LeaveComes. -/
import Derived.Test.YtakijieekhbhfaaGreatEngB9
import Derived.Test.YtakijieekhbhfaaGreatEngB8
set_option linter.unusedVariables false
set_option linter.unusedSectionVars false
set_option linter.unusedSimpArgs false
namespace Go.Eng
open Go Classical
attribute [local congr] ite_cg
section
variable {n : Api_Net}
/-! ### What is wrapped is unwrapped -/
theorem take_ipB {p : Api_Packet} (h : ¬ BadI p) (hs : 0 ≤ p.src ∧ p.src < 4294967296) (hd : 0 ≤ p.dst ∧ p.dst < 4294967296) (hb : p.body.length ≤ 1480) (hB : BytesP p.body) :
    takI (ipB p) = (p.body, p.tos, p.id, p.ttl, p.proto, p.src, p.dst, 0) := by
  have hl := ipB_len (p := p)
  have g0 : getI (ipB p) 0 = 69 := rfl
  have g1 : getI (ipB p) 1 = p.tos := rfl
  have g8 : getI (ipB p) 8 = p.ttl := rfl
  have g9 : getI (ipB p) 9 = p.proto := rfl
  have q2 : pr2 (ipB p) 2 = 20 + (p.body.length : Int) := by
    have : pr2 (ipB p) 2 = (20 + (p.body.length : Int)) / 256 % 256 * 256 + (20 + (p.body.length : Int)) % 256 := rfl
    rw [this]; omega
  have q4 : pr2 (ipB p) 4 = p.id := by
    have : pr2 (ipB p) 4 = p.id / 256 % 256 * 256 + p.id % 256 := rfl
    unfold BadI at h
    rw [this]; omega
  have q6 : pr2 (ipB p) 6 = 0 := rfl
  have q12 : pr4 (ipB p) 12 = p.src := by
    have : pr4 (ipB p) 12 = (p.src / 16777216 % 256 * 256 + p.src / 65536 % 256) * 65536 + (p.src / 256 % 256 * 256 + p.src % 256) := rfl
    rw [this]; omega
  have q16 : pr4 (ipB p) 16 = p.dst := by
    have : pr4 (ipB p) 16 = (p.dst / 16777216 % 256 * 256 + p.dst / 65536 % 256) * 65536 + (p.dst / 256 % 256 * 256 + p.dst % 256) := rfl
    rw [this]; omega
  obtain ⟨s0, s1⟩ := ipB_sum h
  have hn : nrm (tot ((ipB p).take 20)) = 65535 := (nrm_full (by omega)).2 ⟨s0, s1⟩
  unfold takI
  rw [if_neg (by omega), g0, q2, if_neg (by omega), if_neg (by omega), q6, if_neg (by decide), if_neg (not_not.2 hn), g1, g8, g9, q4, q12, q16]
  have e : (20 + (p.body.length : Int)).toNat = (ipB p).length := by omega
  have eb : (ipB p).drop 20 = p.body := rfl
  rw [e, List.take_length, eb]
theorem take_udpB {s d : Int} {b : List Int} (hs : 0 ≤ s ∧ s ≤ 65535) (hd : 0 ≤ d ∧ d ≤ 65535) (hb : b.length ≤ 1472) : takU (udpB s d b) = (b, s, d, 0) := by
  have hl : (udpB s d b).length = 8 + b.length := by simp [udpB]; omega
  have q0 : pr2 (udpB s d b) 0 = s := by
    have : pr2 (udpB s d b) 0 = s / 256 % 256 * 256 + s % 256 := rfl
    rw [this]; omega
  have q2 : pr2 (udpB s d b) 2 = d := by
    have : pr2 (udpB s d b) 2 = d / 256 % 256 * 256 + d % 256 := rfl
    rw [this]; omega
  have q4 : pr2 (udpB s d b) 4 = 8 + (b.length : Int) := by
    have : pr2 (udpB s d b) 4 = (8 + (b.length : Int)) / 256 % 256 * 256 + (8 + (b.length : Int)) % 256 := rfl
    rw [this]; omega
  have q6 : pr2 (udpB s d b) 6 = 0 := rfl
  unfold takU
  rw [if_neg (by omega), q4, if_neg (by omega), if_neg (by omega), q6, if_neg (by decide), q0, q2]
  have e : (8 + (b.length : Int)).toNat = (udpB s d b).length := by omega
  have eb : (udpB s d b).drop 8 = b := rfl
  rw [e, List.take_length, eb]
theorem take_headB {v : Int} {b : List Int} (hv : 1 ≤ v ∧ v ≤ 16777215) : takV (headB v ++ b) = (b, v, 0) := by
  have hl : (headB v ++ b).length = 8 + b.length := by rw [List.length_append, headB_len]
  have e : vniN (headB v ++ b) = v := by
    have : vniN (headB v ++ b) = (v / 65536 % 256 * 256 + v / 256 % 256) * 256 + v % 256 := rfl
    rw [this]; omega
  have g0 : getI (headB v ++ b) 0 = 8 := rfl
  have g1 : getI (headB v ++ b) 1 = 0 := rfl
  have g2 : getI (headB v ++ b) 2 = 0 := rfl
  have g3 : getI (headB v ++ b) 3 = 0 := rfl
  have g7 : getI (headB v ++ b) 7 = 0 := rfl
  unfold takV
  rw [if_neg (by omega), e, g0, g1, g2, g3, g7, if_neg (by omega)]
  rfl
theorem unwrap_wrap {x y v : Int} {f : Api_Frame} (hx : okI .u32 x) (hy : okI .u32 y) (hf : f.Ok) (h : (wrapS x y v f).2 = 0) :
    BytesP (wrapS x y v f).1 ∧ (wrapS x y v f).1.length ≤ 1518 ∧ unwS (wrapS x y v f).1 = (f.body, x, y, v, f.dst, f.src, f.type_, 0) := by
  have hx' := okU32 hx
  have hy' := okU32 hy
  obtain ⟨t1, c2, c3, c4, hw⟩ := wrap_ok hx' hy' h
  rw [hw]
  obtain ⟨f1, b1, b2, b3, b4, b5⟩ := putE_len c2
  obtain ⟨v1, v2⟩ := putV_len c3
  have hds := okU64 hf.1
  have hss := okU64 hf.2.1
  have hfb := bytes_ok hf.2.2.2.1
  have hpl := pktS_len (x := x) (y := y) (v := v) (f := f)
  have hil := ipB_len (p := pktS x y v f)
  have hpb := pktS_bytes (x := x) (y := y) (v := v) hfb
  have hbi := ipB_bytes (pktS_ok (x := x) (y := y) (v := v) (f := f)) hpb
  have hfl := frB_len (f := ⟨2199023255552 + y, 2199023255552 + x, 2048, ipB (pktS x y v f)⟩)
  simp only at hfl
  refine ⟨frB_bytes hbi, by omega, ?_⟩
  have hport := portX_bnd (a := f.dst) (b := f.src)
  have e1 := take_frB (f := ⟨2199023255552 + y, 2199023255552 + x, 2048, ipB (pktS x y v f)⟩) (by simp only; omega) (by simp only; omega) (by simp only; omega) (by simp only; omega)
  have e2 := take_ipB (p := pktS x y v f) pktS_ok (by simp only [pktS]; omega) (by simp only [pktS]; omega) (by omega) hpb
  have hlen : (headB v ++ frB f).length = 22 + f.body.length := by rw [List.length_append, headB_len, frB_len]; omega
  have e3 := take_udpB (s := portX f.dst f.src) (d := 4789) (b := headB v ++ frB f) (by omega) (by omega) (by omega)
  have e4 := take_headB (v := v) (b := frB f) v2
  have e5 := take_frB (f := f) ⟨hds.1, b3⟩ ⟨hss.1, b4⟩ ⟨b1, b2⟩ b5
  simp only at e1
  have eb : (pktS x y v f).body = udpB (portX f.dst f.src) 4789 (headB v ++ frB f) := rfl
  unfold unwS
  rw [e1]
  simp only
  rw [if_neg (show ¬ (0 : Int) ≠ 0 from by simp), if_neg (show ¬ (2048 : Int) ≠ 2048 from by simp), e2]
  simp only
  rw [if_neg (show ¬ (0 : Int) ≠ 0 from by simp), if_neg (show ¬ (pktS x y v f).proto ≠ 17 from by simp [pktS]), eb, e3]
  simp only
  rw [if_neg (show ¬ (0 : Int) ≠ 0 from by simp), if_neg (show ¬ (4789 : Int) ≠ 4789 from by simp), e4]
  simp only
  rw [if_neg (show ¬ (0 : Int) ≠ 0 from by simp), e5]
  simp only
  rw [if_neg (show ¬ (0 : Int) ≠ 0 from by simp), if_neg t1]
  rfl
/-! ### No twins -/
theorem twins_spec (hs : SmN n) : palinglaw28_twins n = some (decide (¬ ((∀ i j, inL n.devices i → inL n.devices j → i ≠ j → (getI n.devices i).vtep ≠ 0 → (getI n.devices i).vtep ≠ (getI n.devices j).vtep) ∧
    (∀ i j, inL n.domains i → inL n.domains j → i ≠ j → (getI n.domains i).dev = (getI n.domains j).dev → (getI n.domains i).vni ≠ 0 → (getI n.domains i).vni ≠ (getI n.domains j).vni)))) := by
  have hf1 := hs.devices
  have hf2 := hs.domains
  have a2 : ∀ i, inL n.devices i → loopM (palinglaw28_twins_L2 n i (getI n.devices i)) 0 = if EachP n.devices (fun j y => i ≠ j → (getI n.devices i).vtep ≠ 0 → (getI n.devices i).vtep ≠ y.vtep) then some (.inr ()) else some (.inl ()) := by
    intro i hi
    exact loop_each (f := palinglaw28_twins_L2 n i (getI n.devices i)) n.devices (fun j y => i ≠ j → (getI n.devices i).vtep ≠ 0 → (getI n.devices i).vtep ≠ y.vtep) (.inl () : Unit ⊕ Unit) (.inr () : Unit ⊕ Unit) hf1 (fun j h0 h1 h2 => by
      have hw := wr64 (n := j + 1) (by omega) (by omega)
      simp only [palinglaw28_twins_L2, h1, nth_getI h2, hw, decide_true, if_true, Option.bind_some]
      by_cases c1 : i = j
      · simp [c1]
      by_cases c2 : (getI n.devices i).vtep = 0
      · simp [c1, c2]
      by_cases c3 : (getI n.devices i).vtep = (getI n.devices j).vtep
      · have c2' : (getI n.devices j).vtep ≠ 0 := c3 ▸ c2
        simp [c1, c3, c2']
      · simp [c1, c2, c3]) (by simp [palinglaw28_twins_L2])
  have a1 : loopM (palinglaw28_twins_L1 n) 0 = if EachP n.devices (fun i x => EachP n.devices (fun j y => i ≠ j → x.vtep ≠ 0 → x.vtep ≠ y.vtep)) then some (.inr ()) else some (.inl ()) := by
    exact loop_each (f := palinglaw28_twins_L1 n) n.devices (fun i x => EachP n.devices (fun j y => i ≠ j → x.vtep ≠ 0 → x.vtep ≠ y.vtep)) (.inl () : Unit ⊕ Unit) (.inr () : Unit ⊕ Unit) hf1 (fun i h0 h1 h2 => by
      have hw := wr64 (n := i + 1) (by omega) (by omega)
      simp only [palinglaw28_twins_L1, h1, nth_getI h2, hw, a2 i h2, decide_true, if_true, Option.bind_some]
      split <;> rfl) (by simp [palinglaw28_twins_L1])
  have b2 : ∀ i, inL n.domains i → loopM (palinglaw28_twins_L4 n i (getI n.domains i)) 0 = if EachP n.domains (fun j y => i ≠ j → (getI n.domains i).dev = y.dev → (getI n.domains i).vni ≠ 0 → (getI n.domains i).vni ≠ y.vni) then some (.inr ()) else some (.inl ()) := by
    intro i hi
    exact loop_each (f := palinglaw28_twins_L4 n i (getI n.domains i)) n.domains (fun j y => i ≠ j → (getI n.domains i).dev = y.dev → (getI n.domains i).vni ≠ 0 → (getI n.domains i).vni ≠ y.vni) (.inl () : Unit ⊕ Unit) (.inr () : Unit ⊕ Unit) hf2 (fun j h0 h1 h2 => by
      have hw := wr64 (n := j + 1) (by omega) (by omega)
      simp only [palinglaw28_twins_L4, h1, nth_getI h2, hw, decide_true, if_true, Option.bind_some]
      by_cases c1 : i = j
      · simp [c1]
      by_cases c4 : (getI n.domains i).dev = (getI n.domains j).dev
      case neg => simp [c1, c4]
      by_cases c2 : (getI n.domains i).vni = 0
      · simp [c1, c2, c4]
      by_cases c3 : (getI n.domains i).vni = (getI n.domains j).vni
      · have c2' : (getI n.domains j).vni ≠ 0 := c3 ▸ c2
        simp [c1, c3, c2', c4]
      · simp [c1, c2, c3, c4]) (by simp [palinglaw28_twins_L4])
  have b1 : loopM (palinglaw28_twins_L3 n) 0 = if EachP n.domains (fun i x => EachP n.domains (fun j y => i ≠ j → x.dev = y.dev → x.vni ≠ 0 → x.vni ≠ y.vni)) then some (.inr ()) else some (.inl ()) := by
    exact loop_each (f := palinglaw28_twins_L3 n) n.domains (fun i x => EachP n.domains (fun j y => i ≠ j → x.dev = y.dev → x.vni ≠ 0 → x.vni ≠ y.vni)) (.inl () : Unit ⊕ Unit) (.inr () : Unit ⊕ Unit) hf2 (fun i h0 h1 h2 => by
      have hw := wr64 (n := i + 1) (by omega) (by omega)
      simp only [palinglaw28_twins_L3, h1, nth_getI h2, hw, b2 i h2, decide_true, if_true, Option.bind_some]
      split <;> rfl) (by simp [palinglaw28_twins_L3])
  unfold palinglaw28_twins
  rw [a1, b1]
  have k1 : EachP n.devices (fun i x => EachP n.devices (fun j y => i ≠ j → x.vtep ≠ 0 → x.vtep ≠ y.vtep)) ↔ ∀ i j, inL n.devices i → inL n.devices j → i ≠ j → (getI n.devices i).vtep ≠ 0 → (getI n.devices i).vtep ≠ (getI n.devices j).vtep :=
    ⟨fun h i j hi hj => h i hi j hj, fun h i hi j hj => h i j hi hj⟩
  have k2 : EachP n.domains (fun i x => EachP n.domains (fun j y => i ≠ j → x.dev = y.dev → x.vni ≠ 0 → x.vni ≠ y.vni)) ↔ ∀ i j, inL n.domains i → inL n.domains j → i ≠ j → (getI n.domains i).dev = (getI n.domains j).dev → (getI n.domains i).vni ≠ 0 → (getI n.domains i).vni ≠ (getI n.domains j).vni :=
    ⟨fun h i j hi hj => h i hi j hj, fun h i hi j hj => h i j hi hj⟩
  rw [← k1, ← k2]
  by_cases c1 : EachP n.devices (fun i x => EachP n.devices (fun j y => i ≠ j → x.vtep ≠ 0 → x.vtep ≠ y.vtep))
  case neg => rw [if_neg c1]; simp [c1]
  rw [if_pos c1]
  simp only [Option.bind_some]
  by_cases c2 : EachP n.domains (fun i x => EachP n.domains (fun j y => i ≠ j → x.dev = y.dev → x.vni ≠ 0 → x.vni ≠ y.vni))
  case neg => rw [if_neg c2]; simp [c2]
  rw [if_pos c2]; simp [c1, c2]
theorem comes_J1 (hs : SmN n) {b : List Int} (hB : BytesP b) (hb : b.length ≤ 1000000) {d q : Int} {f : Api_Frame} : palinglaw28_LeaveComes_J1 n d q f b = some (.inr ()) := by
  unfold palinglaw28_LeaveComes_J1
  obtain ⟨k, hk⟩ := leave_Come_spec hs hB hb
  rw [hk]
  simp only [Option.bind_some]
  by_cases c0 : (comeS n b).2.2.2.2.2.2 = 0
  case neg => rw [if_neg (by simpa using c0)]
  rw [if_pos (by simpa using c0)]
  have hr : RightP n := by apply Classical.byContradiction; intro h; unfold comeS at c0; rw [if_pos h] at c0; cases c0
  have c1 : (unwS b).2.2.2.2.2.2.2 = 0 := by apply Classical.byContradiction; intro h; unfold comeS at c0; rw [if_neg (not_not.2 hr), if_pos h] at c0; exact h c0
  have c2 : ¬ (endsS n (unwS b).2.1 (unwS b).2.2.1 (unwS b).2.2.2.1).1 < 0 := by intro h; unfold comeS at c0; rw [if_neg (not_not.2 hr), if_neg (not_not.2 c1), if_pos h] at c0; cases c0
  have c3 : ¬ GrpP (unwS b).2.2.2.2.2.1 := by intro h; unfold comeS at c0; rw [if_neg (not_not.2 hr), if_neg (not_not.2 c1), if_neg c2, if_pos h] at c0; cases c0
  have hc : comeS n b = ((unwS b).1, (endsS n (unwS b).2.1 (unwS b).2.2.1 (unwS b).2.2.2.1).1, (endsS n (unwS b).2.1 (unwS b).2.2.1 (unwS b).2.2.2.1).2, (unwS b).2.2.2.2.1, (unwS b).2.2.2.2.2.1, (unwS b).2.2.2.2.2.2.1, 0) := by
    unfold comeS; rw [if_neg (not_not.2 hr), if_neg (not_not.2 c1), if_neg c2, if_neg c3]
  have ht : (unwS b).2.2.2.2.2.2.1 ≠ 33024 := by
    intro h
    unfold unwS at h c1
    generalize takE (takV (takU (takI (takE b).1).1).1).1 = A5 at *
    generalize takV (takU (takI (takE b).1).1).1 = A4 at *
    generalize takU (takI (takE b).1).1 = A3 at *
    generalize takI (takE b).1 = A2 at *
    generalize takE b = A1 at *
    split at h
    · cases h
    split at h
    · cases h
    split at h
    · cases h
    split at h
    · cases h
    split at h
    · cases h
    split at h
    · cases h
    split at h
    · cases h
    split at h
    · cases h
    split at h
    · cases h
    · rename_i h9; exact h9 h
  have hsr := unwS_src hB
  rw [hc]
  simp only [tag_Is, Option.bind_some]
  rw [if_neg (by simpa using ht), mac_Group_spec hsr.1 hsr.2, Option.bind_some, if_neg (by simpa using c3)]
  generalize (unwS b).2.1 = x at *
  generalize (unwS b).2.2.1 = y at *
  generalize (unwS b).2.2.2.1 = v at *
  have e1 : ¬ (devV n y < 0 ∨ domV n y v < 0) := by intro h; unfold endsS at c2; rw [if_pos h] at c2; exact c2 (by decide)
  have e2 : ¬ peerV n x y v < 0 := by intro h; unfold endsS at c2; rw [if_neg e1, if_pos h] at c2; exact c2 (by decide)
  have he : endsS n x y v = (getI (getI n.domains (domV n y v)).peers (peerV n x y v), domV n y v) := by unfold endsS; rw [if_neg e1, if_neg e2]
  have hd : inL n.domains (domV n y v) := fstI_inL.1 (by unfold domV at e1; omega)
  have hp : inL (getI n.domains (domV n y v)).peers (peerV n x y v) := fstI_inL.1 (by unfold peerV at e2; omega)
  have hpp := ((hr.peers _ hd) _ hp).1
  have hk2 := hpp.1
  rw [he]
  simp only
  have a1 := hd.1
  have a2 := hd.2
  have a3 := hk2.1
  have a4 := hk2.2
  rw [if_neg (by simp; omega), if_neg (by simp; omega), if_neg (by simp; omega), if_neg (by simp; omega), nth_getI hk2, Option.bind_some, nth_getI hd, Option.bind_some, if_neg (by simpa using hpp.2.2.2.2.1), names_Right_spec hs, Option.bind_some, if_neg (by simpa using hr)]
theorem putE_err {f : Api_Frame} (h : (putE f).2 ≠ 0) : (putE f).1 = [] := by
  unfold putE at *
  split
  · rfl
  split
  · rfl
  · rename_i h1 h2; rw [if_neg h1, if_neg h2] at h; exact absurd rfl h
theorem wrapS_err {x y v : Int} {f : Api_Frame} (h : (wrapS x y v f).2 ≠ 0) : (wrapS x y v f).1 = [] := by
  unfold wrapS at *
  split
  · rfl
  split
  · rfl
  split
  · rfl
  split
  · rfl
  · rename_i h1 h2 h3 h4
    rw [if_neg h1, if_neg h2, if_neg h3, if_neg h4] at h
    exact putE_err h
theorem meshS_err {d q : Int} {f : Api_Frame} (h : (meshS n d q f).2 ≠ 0) : (meshS n d q f).1 = [] := by
  unfold meshS at *
  split
  · rfl
  split
  · rfl
  · rename_i h1 h2
    rw [if_neg h1, if_neg h2] at h
    exact wrapS_err h
theorem leaveComes (n : Api_Net) (d q : Int) (f : Api_Frame) (b : List Int) (hn : n.Ok) (_ : okI .i64 d) (_ : okI .i64 q) (hf : f.Ok) (hb : okL (okI .u8) b) : palinglaw28_LeaveComes n d q f b = some true := by
  unfold palinglaw28_LeaveComes
  rw [works28, Option.bind_some, if_neg (by simp), Great_spec, Option.bind_some]
  by_cases hg : BndN n 200 100
  case neg => rw [if_pos (by simpa using hg)]
  rw [if_neg (by simpa using hg)]
  have hs := hg.sm
  by_cases c : (f.body.length : Int) > 4000
  · rw [if_pos (decide_eq_true c)]
  rw [if_neg (by simpa using c)]
  by_cases c2 : (b.length : Int) > 4000
  · rw [if_pos (decide_eq_true c2)]
  have hss := okU64 hf.2.1
  rw [if_neg (by simpa using c2), comes_J1 hs (bytes_ok hb) (by omega), twins_spec hs]
  simp only [Option.bind_some]
  split
  · rfl
  rename_i ht
  rw [decide_eq_true_eq, not_not] at ht
  obtain ⟨t1, t2⟩ := ht
  rw [mac_Group_spec hss.1 hss.2, Option.bind_some]
  by_cases hgr : GrpP f.src
  · rw [if_pos (decide_eq_true hgr)]
  rw [if_neg (by simpa using hgr), leave_Mesh_spec hs hn hf (by omega)]
  simp only [Option.bind_some]
  by_cases c1 : (meshS n d q f).2 = 0
  case neg =>
    rw [if_pos (by simpa using c1)]
    rw [meshS_err c1]; rfl
  rw [if_neg (by simpa using c1)]
  have hcond : RightP n ∧ inL n.domains d ∧ inL n.domains q := by
    apply Classical.byContradiction; intro h; unfold meshS at c1; rw [if_pos h] at c1; cases c1
  obtain ⟨hr, hd, hq⟩ := hcond
  have hmem : q ∈ (getI n.domains d).peers := by
    apply Classical.byContradiction; intro h; unfold meshS at c1; rw [if_neg (not_not.2 ⟨hr, hd, hq⟩), if_pos h] at c1; cases c1
  have hmesh : meshS n d q f = wrapS (vtI n d) (vtI n q) (getI n.domains d).vni f := by
    unfold meshS; rw [if_neg (not_not.2 ⟨hr, hd, hq⟩), if_neg (not_not.2 hmem)]
  rw [hmesh] at c1 ⊢
  obtain ⟨u1, u2, u3⟩ := unwrap_wrap (vtI_ok hn hr hd) (vtI_ok hn hr hq) hf c1
  obtain ⟨k, hk⟩ := leave_Come_spec hs u1 (show (wrapS (vtI n d) (vtI n q) (getI n.domains d).vni f).1.length ≤ 1000000 by omega)
  rw [hk]
  obtain ⟨j, hj, hjq⟩ := mem_getI hmem
  have hpp := ((hr.peers d hd) j hj).1
  rw [hjq] at hpp
  obtain ⟨_, p2, p3, p4, p5, p6, p7, p8, p9⟩ := hpp
  have hdd := (hr.bare d hd).1
  have hqd := (hr.bare q hq).1
  -- the device
  have hdev : devV n (vtI n q) = (getI n.domains q).dev := by
    refine (fstI_eq hqd).2 ⟨rfl, fun i hi hlt he => ?_⟩
    exact t1 i (getI n.domains q).dev hi hqd (by omega) (by rw [he]; exact p7) he
  have hdom : domV n (vtI n q) (getI n.domains d).vni = q := by
    unfold domV
    rw [hdev]
    refine (fstI_eq hq).2 ⟨⟨rfl, p5⟩, fun i hi hlt he => ?_⟩
    exact t2 i q hi hq (by omega) he.1 (by rw [he.2]; exact p6) (by rw [he.2, p5])
  have hpeer : 0 ≤ peerV n (vtI n d) (vtI n q) (getI n.domains d).vni ∧ getI (getI n.domains q).peers (peerV n (vtI n d) (vtI n q) (getI n.domains d).vni) = d := by
    unfold peerV
    rw [hdom]
    obtain ⟨i, hi, hid⟩ := mem_getI p9
    have h0 := (fstI_first (P := fun k => vtI n k = vtI n d) hi (by rw [hid])).1
    have hin := fstI_inL.1 h0
    have his : vtI n (getI (getI n.domains q).peers (fstI (getI n.domains q).peers fun k => vtI n k = vtI n d)) = vtI n d := fstI_is h0
    refine ⟨h0, ?_⟩
    generalize fstI (getI n.domains q).peers (fun k => vtI n k = vtI n d) = m at *
    obtain ⟨r1, r2, r3, r4, r5, r6, r7, r8, r9⟩ := ((hr.peers q hq) m hin).1
    generalize getI (getI n.domains q).peers m = k at *
    have hkd : (getI n.domains k).dev = (getI n.domains d).dev := by
      apply Classical.byContradiction; intro h
      exact t1 (getI n.domains k).dev (getI n.domains d).dev r3 hdd h r7 his
    apply Classical.byContradiction; intro h
    exact t2 k d r1 hd h hkd (by rw [r5]; exact r6) (by rw [r5, p5])
  have hends : endsS n (vtI n d) (vtI n q) (getI n.domains d).vni = (d, q) := by
    unfold endsS
    have h1 := hqd.1
    have h2 := hq.1
    rw [hdev, hdom, if_neg (by omega), if_neg (by omega), hpeer.2]
  have hcome : comeS n (wrapS (vtI n d) (vtI n q) (getI n.domains d).vni f).1 = (f.body, d, q, f.dst, f.src, f.type_, 0) := by
    unfold comeS
    rw [u3]
    simp only
    have hd0 := hd.1
    rw [if_neg (not_not.2 hr), if_neg (by simp), hends, if_neg (by simp only; omega), if_neg hgr]
  rw [hcome]
  simp [ether_Same, seqB_self]
end
end Go.Eng
