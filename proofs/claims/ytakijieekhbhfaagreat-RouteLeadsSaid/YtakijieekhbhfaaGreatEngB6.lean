/- VXLAN: what is wrapped is a frame from a host to a host; a bit that is turned in its header is seen. -/
import Derived.Test.YtakijieekhbhfaaGreatEngB5
set_option linter.unusedVariables false
set_option linter.unusedSectionVars false
set_option linter.unusedSimpArgs false
namespace Go.Eng
open Go Classical
attribute [local congr] ite_cg
theorem macB_num {m : Int} (h0 : 0 ≤ m) (h1 : m ≤ 281474976710655) : ((((m / 1099511627776 % 256 * 256 + m / 4294967296 % 256) * 256 + m / 16777216 % 256) * 256 + m / 65536 % 256) * 256 + m / 256 % 256) * 256 + m % 256 = m := by omega
theorem getI_cons0 {x : Int} {l : List Int} : getI (x :: l) 0 = x := rfl
theorem frB_bytes {f : Api_Frame} (hb : BytesP f.body) : BytesP (frB f) := by
  intro x hx
  simp only [frB, macB, List.mem_append, List.mem_cons, List.not_mem_nil, or_false] at hx
  rcases hx with h | h | h | h
  · omega
  · omega
  · omega
  · exact hb x h
/-- A frame that was put is taken. -/
theorem take_frB {f : Api_Frame} (hd : 0 ≤ f.dst ∧ f.dst ≤ 281474976710655) (hs : 0 ≤ f.src ∧ f.src ≤ 281474976710655) (ht : 0 ≤ f.type_ ∧ f.type_ ≤ 65535) (hb : f.body.length ≤ 1504) :
    takE (frB f) = (f.body, f.dst, f.src, f.type_, 0) := by
  unfold takE
  have hl := frB_len (f := f)
  rw [if_neg (by omega), if_neg (by omega)]
  have e1 : (frB f).drop 14 = f.body := rfl
  have e2 : numB (frB f) 0 6 = f.dst := by
    have : numB (frB f) 0 6 = (((((0 * 256 + f.dst / 1099511627776 % 256) * 256 + f.dst / 4294967296 % 256) * 256 + f.dst / 16777216 % 256) * 256 + f.dst / 65536 % 256) * 256 + f.dst / 256 % 256) * 256 + f.dst % 256 := rfl
    rw [this]; omega
  have e3 : numB (frB f) 6 6 = f.src := by
    have : numB (frB f) 6 6 = (((((0 * 256 + f.src / 1099511627776 % 256) * 256 + f.src / 4294967296 % 256) * 256 + f.src / 16777216 % 256) * 256 + f.src / 65536 % 256) * 256 + f.src / 256 % 256) * 256 + f.src % 256 := rfl
    rw [this]; omega
  have e4 : pr2 (frB f) 12 = f.type_ := by
    have : pr2 (frB f) 12 = f.type_ / 256 % 256 * 256 + f.type_ % 256 := rfl
    rw [this]; omega
  rw [e1, e2, e3, e4]
theorem ipB_len {p : Api_Packet} : (ipB p).length = 20 + p.body.length := by simp [ipB, ipA, ipZ]; omega
theorem ipS_bnd {p : Api_Packet} (h : ¬ BadI p) : 0 ≤ ipS p ∧ ipS p ≤ 65535 := by
  have hn := nrm_bnd (tot_bnd _ (ipA_bytes h)).1
  unfold ipS; omega
theorem ipB_bytes {p : Api_Packet} (h : ¬ BadI p) (hb : BytesP p.body) : BytesP (ipB p) := by
  have := ipA_bytes h
  intro x hx
  simp only [ipB, List.mem_append, List.mem_cons, List.not_mem_nil, or_false] at hx
  rcases hx with hx | (rfl | rfl) | hx | hx
  · exact this x (by simp [hx])
  · omega
  · omega
  · exact this x (by simp [hx])
  · exact hb x hx
theorem ipB_take {p : Api_Packet} : (ipB p).take 20 = ipA p ++ ([ipS p / 256 % 256, ipS p % 256] ++ ipZ p) := rfl
theorem tot_pos {p : Api_Packet} (h : ¬ BadI p) : 0 < tot (ipA p ++ ipZ p) := by
  have hb := tot_bnd ((ipA p ++ ipZ p).drop 2) (fun x hx => ipA_bytes h x (List.mem_of_mem_drop hx))
  have e : tot (ipA p ++ ipZ p) = 69 * 256 + p.tos + tot ((ipA p ++ ipZ p).drop 2) := rfl
  unfold BadI at h
  omega
/-- The sum of a header with its sum. -/
theorem ipB_sum {p : Api_Packet} (h : ¬ BadI p) : 0 < tot ((ipB p).take 20) ∧ tot ((ipB p).take 20) % 65535 = 0 := by
  have hs := ipS_bnd h
  have hp := tot_pos h
  have e : tot ((ipB p).take 20) = tot (ipA p ++ ipZ p) + (ipS p / 256 % 256 * 256 + ipS p % 256) := by
    rw [ipB_take]
    simp only [ipA, ipZ, List.cons_append, List.nil_append, tot]
    omega
  have e2 : ipS p / 256 % 256 * 256 + ipS p % 256 = ipS p := by omega
  rw [e, e2]
  unfold ipS nrm
  rw [if_neg (by omega)]
  omega
theorem nrm_full {t : Int} (h0 : 0 ≤ t) : nrm t = 65535 ↔ 0 < t ∧ t % 65535 = 0 := by
  unfold nrm
  split <;> omega
theorem tot_set : ∀ (l : List Int) (i : Nat) (y : Int), i < l.length → tot (l.set i y) = tot l + (y - getI l (i : Int)) * (if i % 2 = 0 then 256 else 1)
  | [], i, y, h => by simp at h
  | [x], 0, y, _ => by simp [tot, getI]; omega
  | [x], i + 1, y, h => by simp at h
  | x :: z :: r, 0, y, _ => by simp [tot, getI]; omega
  | x :: z :: r, 1, y, _ => by simp [tot, getI]; omega
  | x :: z :: r, i + 2, y, h => by
    have ih := tot_set r i y (by simp at h; omega)
    have e : getI (x :: z :: r) ((i + 2 : Nat) : Int) = getI r (i : Int) := by
      unfold getI
      rw [show ((i + 2 : Nat) : Int).toNat = (i : Int).toNat + 2 from by omega]
      rfl
    have e2 : (i + 2) % 2 = i % 2 := by omega
    rw [e, e2]
    simp only [List.set_cons_succ, tot, ih]
    omega
/-- A packet of which one byte of the header is another one is no packet. -/
theorem turned {p : Api_Packet} (h : ¬ BadI p) (hb : BytesP p.body) {i : Nat} {y : Int} (hi : i < 20) (y0 : 0 ≤ y) (y1 : y < 256) (hne : y ≠ getI (ipB p) (i : Int)) : (takI ((ipB p).set i y)).2.2.2.2.2.2.2 ≠ 0 := by
  have hB := ipB_bytes h hb
  have hl := ipB_len (p := p)
  obtain ⟨s0, s1⟩ := ipB_sum h
  have hg : getI ((ipB p).take 20) (i : Int) = getI (ipB p) (i : Int) := by
    unfold getI
    rw [List.getElem?_take, if_pos (by omega)]
  have ht := tot_set ((ipB p).take 20) i y (by simp; omega)
  have hx := hB _ (getI_mem (l := ipB p) (i := (i : Int)) ⟨by omega, by omega⟩)
  have hset : ((ipB p).set i y).take 20 = ((ipB p).take 20).set i y := by rw [List.take_set]
  have hB2 : BytesP ((ipB p).set i y) := fun x hx => by
    rcases List.mem_or_eq_of_mem_set hx with h | h
    · exact hB x h
    · rw [h]; exact ⟨y0, y1⟩
  have hb0 := tot_bnd (((ipB p).set i y).take 20) (fun x hx => hB2 x (List.mem_of_mem_take hx))
  have hn : nrm (tot (((ipB p).set i y).take 20)) ≠ 65535 := by
    rw [Ne, nrm_full hb0.1, hset, ht, hg]
    generalize getI (ipB p) (i : Int) = x at *
    generalize tot ((ipB p).take 20) = T at *
    split <;> omega
  unfold takI
  split
  · decide
  split
  · decide
  split
  · decide
  split
  · decide
  · first | decide | (rw [if_pos hn]; decide)
theorem and48 {v : Int} (h0 : 0 ≤ v) (h1 : v ≤ 281474976710655) : bits_and .u64 v 281474976710655 = v := by
  unfold bits_and
  rw [ofInt_nat _ _ h0, ofInt_nat _ _ (by decide), BitVec.toNat_and, BitVec.toNat_ofNat, BitVec.toNat_ofNat]
  simp only [IntKind.bits]
  rw [Nat.mod_eq_of_lt (by omega), Nat.mod_eq_of_lt (by decide), show (281474976710655 : Int).toNat = 2 ^ 48 - 1 from rfl, Nat.and_two_pow_sub_one_eq_mod, Nat.mod_eq_of_lt (by omega)]
  have hw := wr64u (n := ((v.toNat : Nat) : Int)) (by omega) (by omega)
  unfold wr_u64 at hw
  rw [hw]; omega
theorem wr32m {x : Int} : wr_u32 x = x % 4294967296 := by
  unfold wr_u32 IntKind.wrap
  simp [IntKind.signed, IntKind.bits]
theorem isHost_host {a : Int} (h0 : 0 ≤ a) (h1 : a < 4294967296) : mac_IsHost (2199023255552 + a) = some (a, true) := by
  unfold mac_IsHost
  rw [and48 (by omega) (by omega), show (2 : Int) ^ 32 = 4294967296 from rfl, fdiv_e (by decide), if_neg (by rw [bne_iff_ne]; omega), wr32m]
  congr 2; omega
theorem xor_bit {x : Int} {k : Nat} (h0 : 0 ≤ x) (h1 : x < 256) (hk : k < 8) : ∃ y, bits_xor .u8 x (wr_u8 (1 * 2 ^ k)) = y ∧ 0 ≤ y ∧ y < 256 ∧ y ≠ x := by
  have hp : 2 ^ k < 256 := by
    have : 2 ^ k ≤ 2 ^ 7 := Nat.pow_le_pow_right (by decide) (by omega)
    omega
  have hp0 := Nat.two_pow_pos k
  have e : wr_u8 (1 * 2 ^ k) = ((2 ^ k : Nat) : Int) := by
    have : (1 : Int) * 2 ^ k = ((2 ^ k : Nat) : Int) := by simp
    rw [this, wr8 (by omega) (by omega)]
  rw [e]
  unfold bits_xor
  rw [ofInt_nat _ _ h0, ofInt_nat _ _ (by omega), BitVec.toNat_xor, BitVec.toNat_ofNat, BitVec.toNat_ofNat]
  simp only [IntKind.bits]
  rw [Nat.mod_eq_of_lt (by omega), Nat.mod_eq_of_lt (by omega), Int.toNat_natCast]
  have hx : x.toNat ^^^ 2 ^ k < 2 ^ 8 := Nat.xor_lt_two_pow (by omega) (by omega)
  have hw := wr8 (n := ((x.toNat ^^^ 2 ^ k : Nat) : Int)) (by omega) (by omega)
  unfold wr_u8 at hw
  refine ⟨_, rfl, ?_⟩
  rw [hw]
  refine ⟨by omega, by omega, fun hc => ?_⟩
  have hc : x.toNat ^^^ 2 ^ k = x.toNat := by omega
  have h2 : x.toNat ^^^ (x.toNat ^^^ 2 ^ k) = x.toNat ^^^ x.toNat := by rw [hc]
  rw [← Nat.xor_assoc, Nat.xor_self, Nat.zero_xor] at h2
  omega
theorem headB_bytes {v : Int} : BytesP (headB v) := by
  intro x hx
  simp only [headB, List.mem_cons, List.not_mem_nil, or_false] at hx
  rcases hx with rfl | rfl | rfl | rfl | rfl | rfl | rfl | rfl <;> omega
theorem udpB_bytes {s d : Int} {b : List Int} (hb : BytesP b) : BytesP (udpB s d b) := by
  intro x hx
  simp only [udpB, List.mem_append, List.mem_cons, List.not_mem_nil, or_false] at hx
  rcases hx with h | h
  · omega
  · exact hb x h
/-- The packet that a frame is in. -/
noncomputable def pktS (x y v : Int) (f : Api_Frame) : Api_Packet := ⟨0, 0, 64, 17, x, y, udpB (portX f.dst f.src) 4789 (headB v ++ frB f)⟩
theorem pktS_ok {x y v : Int} {f : Api_Frame} : ¬ BadI (pktS x y v f) := by unfold BadI pktS; simp
theorem pktS_bytes {x y v : Int} {f : Api_Frame} (hb : BytesP f.body) : BytesP (pktS x y v f).body := by
  refine udpB_bytes fun z hz => ?_
  rcases List.mem_append.1 hz with h | h
  · exact headB_bytes z h
  · exact frB_bytes hb z h
theorem pktS_len {x y v : Int} {f : Api_Frame} : (pktS x y v f).body.length = 30 + f.body.length := by
  simp [pktS, udpB, headB_len, frB_len]; omega
theorem wrap_ok {x y v : Int} {f : Api_Frame} (hx : 0 ≤ x ∧ x < 4294967296) (hy : 0 ≤ y ∧ y < 4294967296) (h : (wrapS x y v f).2 = 0) :
    f.type_ ≠ 33024 ∧ (putE f).2 = 0 ∧ (putV v).2 = 0 ∧ f.body.length ≤ 1450 ∧ (wrapS x y v f).1 = frB ⟨2199023255552 + y, 2199023255552 + x, 2048, ipB (pktS x y v f)⟩ := by
  unfold wrapS at *
  split at h
  · cases h
  rename_i c1
  split at h
  · rename_i c; exact absurd h c
  rename_i c2
  split at h
  · rename_i c; exact absurd h c
  rename_i c3
  split at h
  · cases h
  rename_i c4
  have c2 : (putE f).2 = 0 := Classical.byContradiction c2
  have c3 : (putV v).2 = 0 := Classical.byContradiction c3
  obtain ⟨f1, f2⟩ := putE_len c2
  obtain ⟨v1, v2⟩ := putV_len c3
  have hl : f.body.length ≤ 1450 := by rw [f1, frB_len] at c4; omega
  rw [if_neg c1, if_neg (show ¬ (putE f).2 ≠ 0 from by simpa using c2), if_neg (show ¬ (putV v).2 ≠ 0 from by simpa using c3), if_neg c4]
  refine ⟨c1, c2, c3, hl, ?_⟩
  have hpb := portX_bnd (a := f.dst) (b := f.src)
  have hlen : (headB v ++ frB f).length = 22 + f.body.length := by rw [List.length_append, headB_len, frB_len]; omega
  have hu : putU (portX f.dst f.src) 4789 ((putV v).1 ++ (putE f).1) = (udpB (portX f.dst f.src) 4789 (headB v ++ frB f), 0) := by
    unfold putU
    rw [f1, v1, if_neg (by omega), if_neg (by omega)]
  rw [hu]
  have hi : putI ⟨0, 0, 64, 17, x, y, udpB (portX f.dst f.src) 4789 (headB v ++ frB f)⟩ = (ipB (pktS x y v f), 0) := by
    show putI (pktS x y v f) = _
    unfold putI
    have := pktS_len (x := x) (y := y) (v := v) (f := f)
    rw [if_neg (pktS_ok (x := x) (y := y) (v := v) (f := f)), if_neg (show ¬ ((pktS x y v f).body.length : Int) > 1480 from by omega)]
  simp only [hi]
  unfold putE
  have := pktS_len (x := x) (y := y) (v := v) (f := f)
  have hl2 := ipB_len (p := pktS x y v f)
  simp only
  rw [if_neg (by omega), if_neg (by omega)]
theorem vxlanOuter (x y v : Int) (f : Api_Frame) (k j : Int) (hx : okI .u32 x) (hy : okI .u32 y) (_ : okI .i64 v) (hf : f.Ok) (hk : okI .u8 k) (hj : okI .u8 j) : palinglaw09_VxlanOuter x y v f k j = some true := by
  have k0 : 0 ≤ k := hk.1
  have j0 : 0 ≤ j := hj.1
  have k1 : k ≤ 255 := hk.2
  have hx' := okU32 hx
  have hy' := okU32 hy
  have hfb := bytes_ok hf.2.2.2.1
  unfold palinglaw09_VxlanOuter
  rw [works09, Option.bind_some, if_neg (by simp)]
  by_cases c : (f.body.length : Int) > 1400
  · rw [if_pos (decide_eq_true c)]
  rw [if_neg (by simpa using c), vxlan_Wrap_spec hx hy hf (by omega)]
  simp only [Option.bind_some]
  by_cases c1 : (wrapS x y v f).2 = 0
  case neg => rw [if_pos (by simpa using c1)]; simpa using c1
  rw [if_neg (by simpa using c1)]
  obtain ⟨_, c2, c3, c4, hw⟩ := wrap_ok hx' hy' c1
  rw [hw]
  have hpl := pktS_len (x := x) (y := y) (v := v) (f := f)
  have hil := ipB_len (p := pktS x y v f)
  have hbi := ipB_bytes (pktS_ok (x := x) (y := y) (v := v) (f := f)) (pktS_bytes hfb)
  generalize hF : (⟨2199023255552 + y, 2199023255552 + x, 2048, ipB (pktS x y v f)⟩ : Api_Frame) = F
  have hFd : F.dst = 2199023255552 + y := by rw [← hF]
  have hFs : F.src = 2199023255552 + x := by rw [← hF]
  have hFt : F.type_ = 2048 := by rw [← hF]
  have hFb : F.body = ipB (pktS x y v f) := by rw [← hF]
  have hfl := frB_len (f := F)
  have hB : BytesP (frB F) := frB_bytes (by rw [hFb]; exact hbi)
  have hFl : F.body.length = 50 + f.body.length := by rw [hFb]; omega
  rw [if_neg (by simp; omega), ether_Take_spec hB (by omega), take_frB (f := F) (by omega) (by omega) (by omega) (by omega)]
  simp only [Option.bind_some]
  rw [hFd, hFs, hFt, isHost_host hy'.1 hy'.2, isHost_host hx'.1 hx'.2]
  simp only [Option.bind_some]
  rw [wr64 (n := k) (by omega) (by omega), Int.tmod_eq_emod_of_nonneg k0, wr64 (by omega) (by omega), Int.tmod_eq_emod_of_nonneg j0]
  have hin : inL (frB F) (14 + k % 20) := ⟨by omega, by omega⟩
  have hln : lin (frB F) (14 + k % 20) = true := by rw [lin_dec]; exact decide_eq_true hin
  rw [if_pos hln, getI_get? hin, Option.bind_some, if_pos (by simp; omega), Option.bind_some]
  have hm : min (Int.toNat (j % 8)) 8 = (j % 8).toNat := by omega
  have hbx := hB _ (getI_mem hin)
  obtain ⟨z, hz, z0, z1, zne⟩ := xor_bit (k := (j % 8).toNat) hbx.1 hbx.2 (by omega)
  rw [hm, hz]
  have hs : (frB F).set (14 + k % 20).toNat z = frB { F with body := F.body.set (k % 20).toNat z } := by
    rw [show (14 + k % 20).toNat = (k % 20).toNat + 14 from by omega]
    rfl
  rw [hs]
  have hlen2 : ({ F with body := F.body.set (k % 20).toNat z } : Api_Frame).body.length = F.body.length := by simp
  have hB2 : BytesP (frB { F with body := F.body.set (k % 20).toNat z }) := frB_bytes (fun q hq => by
    rcases List.mem_or_eq_of_mem_set hq with h | h
    · rw [hFb] at h; exact hbi q h
    · rw [h]; exact ⟨z0, z1⟩)
  have hfl2 := frB_len (f := { F with body := F.body.set (k % 20).toNat z })
  rw [vxlan_Unwrap_spec hB2 (by omega)]
  have hg : getI (frB F) (14 + k % 20) = getI (ipB (pktS x y v f)) ((k % 20).toNat : Int) := by
    unfold getI
    rw [show (14 + k % 20).toNat = (k % 20).toNat + 14 from by omega, ← hFb, Int.toNat_natCast]
    rfl
  rw [hg] at zne
  have hbad := turned (pktS_ok (x := x) (y := y) (v := v) (f := f)) (pktS_bytes hfb) (i := (k % 20).toNat) (by omega) z0 z1 zne
  have he : (unwS (frB { F with body := F.body.set (k % 20).toNat z })).2.2.2.2.2.2.2 ≠ 0 := by
    unfold unwS
    rw [take_frB (f := { F with body := F.body.set (k % 20).toNat z }) (by simp only; omega) (by simp only; omega) (by simp only; omega) (by omega)]
    simp only [hFt]
    rw [if_neg (by simp), if_neg (by simp), hFb, if_pos hbad]
    exact hbad
  simp only [Option.bind_some, beq_self_eq_true, if_true]
  simpa using he
end Go.Eng
