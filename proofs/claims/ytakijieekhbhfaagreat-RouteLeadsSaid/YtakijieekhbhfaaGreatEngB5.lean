/- VXLAN: what is wrapped, what is unwrapped. -/
import Derived.Test.YtakijieekhbhfaaGreatEngB4
set_option linter.unusedVariables false
set_option linter.unusedSectionVars false
set_option linter.unusedSimpArgs false
namespace Go.Eng
open Go Classical
attribute [local congr] ite_cg
noncomputable def portX (a b : Int) : Int := 49152 + ((a.toNat ^^^ b.toNat) % 16384 : Nat)
theorem portX_bnd {a b : Int} : 49152 ≤ portX a b ∧ portX a b ≤ 65535 := by unfold portX; omega
theorem xor_u64 {a b : Int} (a0 : 0 ≤ a) (a1 : a < 18446744073709551616) (b0 : 0 ≤ b) (b1 : b < 18446744073709551616) : bits_xor .u64 a b = ((a.toNat ^^^ b.toNat : Nat) : Int) := by
  unfold bits_xor
  rw [ofInt_nat _ _ a0, ofInt_nat _ _ b0, BitVec.toNat_xor, BitVec.toNat_ofNat, BitVec.toNat_ofNat]
  simp only [IntKind.bits]
  rw [Nat.mod_eq_of_lt (by omega), Nat.mod_eq_of_lt (by omega)]
  have hx : a.toNat ^^^ b.toNat < 2 ^ 64 := Nat.xor_lt_two_pow (by omega) (by omega)
  have hw := wr64u (n := ((a.toNat ^^^ b.toNat : Nat) : Int)) (by omega) (by omega)
  unfold wr_u64 at hw
  exact hw
theorem udp_Port_spec {a b : Int} (a0 : 0 ≤ a) (a1 : a < 18446744073709551616) (b0 : 0 ≤ b) (b1 : b < 18446744073709551616) : udp_Port a b = some (portX a b) := by
  unfold udp_Port portX
  rw [xor_u64 a0 a1 b0 b1, Int.tmod_eq_emod_of_nonneg (by omega), wr64 (n := ((a.toNat ^^^ b.toNat : Nat) : Int) % 16384) (by omega) (by omega), wr64 (by omega) (by omega)]
  congr 1
theorem bit_step (A B i : Nat) : ((A / 2 ^ i) % 2 ≠ (B / 2 ^ i) % 2) ↔ (A ^^^ B).testBit i = true := by
  rw [Nat.testBit_xor, Nat.testBit_eq_decide_div_mod_eq, Nat.testBit_eq_decide_div_mod_eq]
  have h1 : A / 2 ^ i % 2 < 2 := Nat.mod_lt _ (by decide)
  have h2 : B / 2 ^ i % 2 < 2 := Nat.mod_lt _ (by decide)
  generalize A / 2 ^ i % 2 = x at *
  generalize B / 2 ^ i % 2 = y at *
  rcases (show x = 0 ∨ x = 1 by omega) with rfl | rfl <;> rcases (show y = 0 ∨ y = 1 by omega) with rfl | rfl <;> decide
theorem rPort_spec {a b : Int} (a0 : 0 ≤ a) (a1 : a < 18446744073709551616) (b0 : 0 ≤ b) (b1 : b < 18446744073709551616) : palingref08_Port a b = some (portX a b) := by
  unfold palingref08_Port
  obtain ⟨A, rfl⟩ : ∃ A : Nat, a = A := ⟨a.toNat, by omega⟩
  obtain ⟨B, rfl⟩ : ∃ B : Nat, b = B := ⟨b.toNat, by omega⟩
  have e : loopM (fun s : Int × Int × Int × Int × Int => match s with | (v3, v4, v5, v6, v7) => palingref08_Port_L1 v3 v4 v5 v6 v7) ((A : Int), (B : Int), 0, 1, 0) = some (((A ^^^ B) % 2 ^ 14 : Nat) : Int) := by
    have := loopM_trace (f := fun s : Int × Int × Int × Int × Int => match s with | (v3, v4, v5, v6, v7) => palingref08_Port_L1 v3 v4 v5 v6 v7) (r := (((A ^^^ B) % 2 ^ 14 : Nat) : Int)) (fun i => (((A / 2 ^ i : Nat) : Int), ((B / 2 ^ i : Nat) : Int), (((A ^^^ B) % 2 ^ i : Nat) : Int), ((2 ^ i : Nat) : Int), (i : Int))) 14 (by decide) (fun i hi => by
      have hA : A / 2 ^ i ≤ A := Nat.div_le_self _ _
      have hB : B / 2 ^ i ≤ B := Nat.div_le_self _ _
      have hp : 2 ^ i ≤ 2 ^ 14 := Nat.pow_le_pow_right (by decide) (by omega)
      have hp0 : 0 < 2 ^ i := Nat.two_pow_pos i
      have hm : (A ^^^ B) % 2 ^ i < 2 ^ i := Nat.mod_lt _ hp0
      have s1 := Nat.mod_pow_succ (x := A ^^^ B) (b := 2) (k := i)
      have dA : A / 2 ^ (i + 1) = A / 2 ^ i / 2 := by rw [Nat.pow_succ, Nat.div_div_eq_div_mul]
      have dB : B / 2 ^ (i + 1) = B / 2 ^ i / 2 := by rw [Nat.pow_succ, Nat.div_div_eq_div_mul]
      have c : (i : Int) < 14 := by omega
      have hb := bit_step A B i
      have p2 : 2 ^ (i + 1) = 2 * 2 ^ i := by rw [Nat.pow_succ, Nat.mul_comm]
      simp only [dA, dB]
      generalize A / 2 ^ i = X at *
      generalize B / 2 ^ i = Y at *
      have w1 := wr64u (n := (X : Int) / 2) (by omega) (by omega)
      have w2 := wr64u (n := (Y : Int) / 2) (by omega) (by omega)
      have w3 := wr64 (n := (i : Int) + 1) (by omega) (by omega)
      have w4 := wr64 (n := ((2 ^ i : Nat) : Int) * 2) (by omega) (by omega)
      have w5 := wr64 (n := (((A ^^^ B) % 2 ^ i : Nat) : Int) + ((2 ^ i : Nat) : Int)) (by omega) (by omega)
      simp only [palingref08_Port_L1, c, decide_true, if_true, Int.tdiv_eq_ediv_of_nonneg (Int.natCast_nonneg X), Int.tdiv_eq_ediv_of_nonneg (Int.natCast_nonneg Y), Int.tmod_eq_emod_of_nonneg (Int.natCast_nonneg X), Int.tmod_eq_emod_of_nonneg (Int.natCast_nonneg Y), w1, w2, w3, w4, w5]
      by_cases ht : (A ^^^ B).testBit i = true
      · have hne := hb.2 ht
        have hq : (A ^^^ B) / 2 ^ i % 2 = 1 := by rw [Nat.testBit_eq_decide_div_mod_eq] at ht; exact of_decide_eq_true ht
        rw [if_pos (by rw [bne_iff_ne]; omega), s1, hq, Nat.mul_one, p2]
        simp; omega
      · have hne : X % 2 = Y % 2 := by
          apply Classical.byContradiction; intro h; exact ht (hb.1 h)
        have hq : (A ^^^ B) / 2 ^ i % 2 = 0 := by
          rw [Nat.testBit_eq_decide_div_mod_eq] at ht
          have h3 : ¬ (A ^^^ B) / 2 ^ i % 2 = 1 := fun h => ht (decide_eq_true h)
          omega
        rw [if_neg (by rw [bne_iff_ne]; omega), s1, hq, Nat.mul_zero, Nat.add_zero, p2]
        simp; omega) (by simp [palingref08_Port_L1])
    simpa [Nat.mod_one] using this
  rw [e]
  simp only [Option.bind_some]
  rw [wr64 (by omega) (by omega)]
  rfl
/-- What a frame is in a packet. -/
noncomputable def wrapS (x y v : Int) (f : Api_Frame) : List Int × Int :=
  if f.type_ = 33024 then ([], 15)
  else if (putE f).2 ≠ 0 then ([], (putE f).2)
  else if (putV v).2 ≠ 0 then ([], (putV v).2)
  else if ((putE f).1.length : Int) > 1464 then ([], 14)
  else putE ⟨2199023255552 + y, 2199023255552 + x, 2048, (putI ⟨0, 0, 64, 17, x, y, (putU (portX f.dst f.src) 4789 ((putV v).1 ++ (putE f).1)).1⟩).1⟩
theorem host_or' {a : Int} (h0 : 0 ≤ a) (h1 : a < 4294967296) : bits_or .u64 2199023255552 (wr_u64 a) = 2199023255552 + a := by
  rw [wr64u h0 (by omega)]
  unfold bits_or
  rw [ofInt_nat _ _ (by decide), ofInt_nat _ _ h0, BitVec.toNat_or, BitVec.toNat_ofNat, BitVec.toNat_ofNat]
  simp only [IntKind.bits]
  rw [Nat.mod_eq_of_lt (by decide), Nat.mod_eq_of_lt (by omega)]
  have := Nat.two_pow_add_eq_or_of_lt (i := 32) (b := a.toNat) (by omega) 512
  have e : (2199023255552 : Int).toNat = 2 ^ 32 * 512 := by decide
  rw [e, ← this]
  have hw := wr64u (n := ((2 ^ 32 * 512 + a.toNat : Nat) : Int)) (by omega) (by omega)
  unfold wr_u64 at hw
  rw [hw]; omega
theorem hostM {a : Int} (h0 : 0 ≤ a) (h1 : a < 4294967296) : mac_Host a = some (2199023255552 + a) := by unfold mac_Host; rw [host_or' h0 h1]
theorem hostR {a : Int} (h0 : 0 ≤ a) (h1 : a < 4294967296) : palingref01_Host a = some (2199023255552 + a) := by
  unfold palingref01_Host
  rw [wr64u (n := a) h0 (by omega), wr64u (by omega) (by omega)]
theorem u64ok {x : Int} (h0 : 0 ≤ x) (h1 : x < 18446744073709551616) : okI .u64 x := by
  refine ⟨h0, ?_⟩
  have : x ≤ 18446744073709551615 := by omega
  exact this
theorem okU32 {x : Int} (h : okI .u32 x) : 0 ≤ x ∧ x < 4294967296 := ⟨h.1, by have : x ≤ 4294967295 := h.2; omega⟩
theorem putE_len {f : Api_Frame} (h : (putE f).2 = 0) : (putE f).1 = frB f ∧ 0 ≤ f.type_ ∧ f.type_ ≤ 65535 ∧ f.dst ≤ 281474976710655 ∧ f.src ≤ 281474976710655 ∧ f.body.length ≤ 1504 := by
  unfold putE at *
  split at h
  · cases h
  rename_i c1
  split at h
  · cases h
  rename_i c2
  rw [if_neg c1, if_neg c2]
  exact ⟨rfl, by omega, by omega, by omega, by omega, by omega⟩
theorem putV_len {v : Int} (h : (putV v).2 = 0) : (putV v).1 = headB v ∧ 1 ≤ v ∧ v ≤ 16777215 := by
  unfold putV at *
  split at h
  · cases h
  rename_i c1
  rw [if_neg c1]
  exact ⟨rfl, by omega, by omega⟩
theorem headB_len {v : Int} : (headB v).length = 8 := rfl
theorem vxlan_Wrap_spec {x y v : Int} {f : Api_Frame} (hx : okI .u32 x) (hy : okI .u32 y) (hf : f.Ok) (hb : f.body.length ≤ 4000) : vxlan_Wrap x y v f = some (wrapS x y v f) := by
  unfold vxlan_Wrap wrapS tag_Is
  have hd := okU64 hf.1
  have hs := okU64 hf.2.1
  have hx := okU32 hx
  have hy := okU32 hy
  rw [Option.bind_some]
  by_cases c1 : f.type_ = 33024
  · rw [if_pos (by simpa using c1), if_pos c1]
  rw [if_neg (by simpa using c1), if_neg c1, ether_Put_spec, vxlan_Head_spec]
  simp only [Option.bind_some]
  by_cases c2 : (putE f).2 = 0
  case neg => rw [if_pos (by simpa using c2), if_pos c2]
  rw [if_neg (by simpa using c2), if_neg (show ¬ (putE f).2 ≠ 0 from by simpa using c2)]
  by_cases c3 : (putV v).2 = 0
  case neg => rw [if_pos (by simpa using c3), if_pos c3]
  rw [if_neg (by simpa using c3), if_neg (show ¬ (putV v).2 ≠ 0 from by simpa using c3)]
  by_cases c4 : ((putE f).1.length : Int) > 1464
  · rw [if_pos (decide_eq_true c4), if_pos c4]
  rw [if_neg (by simpa using c4), if_neg c4, udp_Port_spec hd.1 hd.2 hs.1 hs.2, Option.bind_some]
  rw [if_pos (roomy_few (by rw [(putV_len c3).1, List.length_append, headB_len]; omega)), udp_Put_spec]
  simp only [Option.bind_some]
  rw [ipv4_Put_spec hx hy, hostM hx.1 hx.2, hostM hy.1 hy.2]
  simp only [Option.bind_some]
  rw [ether_Put_spec]
  rfl
theorem rWrap_spec {x y v : Int} {f : Api_Frame} (hx : okI .u32 x) (hy : okI .u32 y) (hf : f.Ok) (hb : f.body.length ≤ 4000) : palingref09_Wrap x y v f = some (wrapS x y v f) := by
  unfold palingref09_Wrap wrapS
  have hd := okU64 hf.1
  have hs := okU64 hf.2.1
  have hx := okU32 hx
  have hy := okU32 hy
  by_cases c1 : f.type_ = 33024
  · rw [if_pos (by simpa using c1), if_pos c1]
  rw [if_neg (by simpa using c1), if_neg c1, rEther_Put_spec hf.1 hf.2.1, rHead_spec]
  simp only [Option.bind_some]
  by_cases c2 : (putE f).2 = 0
  case neg => rw [if_pos (by simpa using c2), if_pos c2]
  rw [if_neg (by simpa using c2), if_neg (show ¬ (putE f).2 ≠ 0 from by simpa using c2)]
  by_cases c3 : (putV v).2 = 0
  case neg => rw [if_pos (by simpa using c3), if_pos c3]
  rw [if_neg (by simpa using c3), if_neg (show ¬ (putV v).2 ≠ 0 from by simpa using c3)]
  by_cases c4 : ((putE f).1.length : Int) > 1464
  · rw [if_pos (decide_eq_true c4), if_pos c4]
  rw [if_neg (by simpa using c4), if_neg c4, rPort_spec hd.1 hd.2 hs.1 hs.2, Option.bind_some]
  rw [if_pos (roomy_few (by rw [(putV_len c3).1, List.length_append, headB_len]; omega)), rUdp_Put_spec]
  simp only [Option.bind_some]
  rw [rIpv4_Put_spec hx hy, hostR hx.1 hx.2, hostR hy.1 hy.2]
  simp only [Option.bind_some]
  rw [rEther_Put_spec (u64ok (by simp only; omega) (by simp only; omega)) (u64ok (by simp only; omega) (by simp only; omega))]
  rfl
theorem vxlanWraps (x y v : Int) (f : Api_Frame) (hx : okI .u32 x) (hy : okI .u32 y) (_ : okI .i64 v) (hf : f.Ok) : palinglaw09_VxlanWraps x y v f = some true := by
  unfold palinglaw09_VxlanWraps
  rw [works09]
  by_cases c : (f.body.length : Int) > 4000
  · rw [if_pos (decide_eq_true c)]; rfl
  rw [if_neg (by simpa using c), vxlan_Wrap_spec hx hy hf (by omega), rWrap_spec hx hy hf (by omega)]
  simp [seqB_self]
/-- What bytes hold of a frame in a packet. -/
noncomputable def unwS (b : List Int) : List Int × Int × Int × Int × Int × Int × Int × Int :=
  if (takE b).2.2.2.2 ≠ 0 then ([], 0, 0, 0, 0, 0, 0, (takE b).2.2.2.2)
  else if (takE b).2.2.2.1 ≠ 2048 then ([], 0, 0, 0, 0, 0, 0, 11)
  else if (takI (takE b).1).2.2.2.2.2.2.2 ≠ 0 then ([], 0, 0, 0, 0, 0, 0, (takI (takE b).1).2.2.2.2.2.2.2)
  else if (takI (takE b).1).2.2.2.2.1 ≠ 17 then ([], 0, 0, 0, 0, 0, 0, 11)
  else if (takU (takI (takE b).1).1).2.2.2 ≠ 0 then ([], 0, 0, 0, 0, 0, 0, (takU (takI (takE b).1).1).2.2.2)
  else if (takU (takI (takE b).1).1).2.2.1 ≠ 4789 then ([], 0, 0, 0, 0, 0, 0, 11)
  else if (takV (takU (takI (takE b).1).1).1).2.2 ≠ 0 then ([], 0, 0, 0, 0, 0, 0, (takV (takU (takI (takE b).1).1).1).2.2)
  else if (takE (takV (takU (takI (takE b).1).1).1).1).2.2.2.2 ≠ 0 then ([], 0, 0, 0, 0, 0, 0, (takE (takV (takU (takI (takE b).1).1).1).1).2.2.2.2)
  else if (takE (takV (takU (takI (takE b).1).1).1).1).2.2.2.1 = 33024 then ([], 0, 0, 0, 0, 0, 0, 15)
  else ((takE (takV (takU (takI (takE b).1).1).1).1).1, (takI (takE b).1).2.2.2.2.2.1, (takI (takE b).1).2.2.2.2.2.2.1, (takV (takU (takI (takE b).1).1).1).2.1,
    (takE (takV (takU (takI (takE b).1).1).1).1).2.1, (takE (takV (takU (takI (takE b).1).1).1).1).2.2.1, (takE (takV (takU (takI (takE b).1).1).1).1).2.2.2.1, 0)
theorem rUnwrap_spec {b : List Int} (hB : BytesP b) (hb : b.length ≤ 1000000) : palingref09_Unwrap b = some (unwS b) := by
  unfold palingref09_Unwrap unwS palingref09_Unwrap_J1 palingref09_Unwrap_J2 palingref09_Unwrap_J3 palingref09_Unwrap_J4
  have hB1 := takE_bytes hB
  have hL1 := takE_len (b := b)
  rw [rEther_Take_spec hB hb]
  generalize takE b = A at *
  obtain ⟨l1, d1, s1, t1, e1⟩ := A
  simp only [Option.bind_some] at *
  by_cases c1 : e1 = 0
  case neg => simp [c1]
  by_cases c2 : t1 = 2048
  case neg => simp [c1, c2]
  have hB2 := takI_bytes hB1
  have hL2 := takI_len (b := l1)
  rw [rIpv4_Take_spec hB1 (by omega)]
  generalize takI l1 = A at *
  obtain ⟨l2, to2, id2, tt2, pr2', sr2, ds2, e2⟩ := A
  simp only [Option.bind_some] at *
  by_cases c3 : e2 = 0
  case neg => simp [c1, c2, c3]
  by_cases c4 : pr2' = 17
  case neg => simp [c1, c2, c3, c4]
  have hB3 := takU_bytes hB2
  have hL3 := takU_len (b := l2)
  rw [rUdp_Take_spec hB2 (by omega)]
  generalize takU l2 = A at *
  obtain ⟨l3, p3, q3, e3⟩ := A
  simp only [Option.bind_some] at *
  by_cases c5 : e3 = 0
  case neg => simp [c1, c2, c3, c4, c5]
  by_cases c6 : q3 = 4789
  case neg => simp [c1, c2, c3, c4, c5, c6]
  have hB4 := takV_bytes hB3
  have hL4 := takV_len (b := l3)
  rw [rVni_spec hB3 (by omega)]
  generalize takV l3 = A at *
  obtain ⟨l4, v4, e4⟩ := A
  simp only [Option.bind_some] at *
  by_cases c7 : e4 = 0
  case neg => simp [c1, c2, c3, c4, c5, c6, c7]
  rw [rEther_Take_spec hB4 (by omega)]
  generalize takE l4 = A at *
  obtain ⟨l5, d5, s5, t5, e5⟩ := A
  simp only [Option.bind_some] at *
  by_cases c8 : e5 = 0
  case neg => simp [c1, c2, c3, c4, c5, c6, c7, c8]
  by_cases c9 : t5 = 33024
  · simp [c1, c2, c3, c4, c5, c6, c7, c8, c9]
  · simp [c1, c2, c3, c4, c5, c6, c7, c8, c9]
theorem failS {a1 a2 a3 a4 a5 a6 a8 a9 a11 : Int} {a7 : List Int} {a10 : Bool} : vxlan_reader_fail_own a1 a2 a3 a4 a5 a6 a7 a8 a9 a10 a11 = some (if a10 = true then (if a9 = 0 then a11 else a9) else a9) := by
  unfold vxlan_reader_fail_own
  by_cases h : a9 = 0 <;> cases a10 <;> simp [h]
theorem vxlan_Unwrap_spec {b : List Int} (hB : BytesP b) (hb : b.length ≤ 1000000) : vxlan_Unwrap b = some ((unwS b).1, (unwS b).1.length, (unwS b).2.1, (unwS b).2.2.1, (unwS b).2.2.2.1, (unwS b).2.2.2.2.1, (unwS b).2.2.2.2.2.1, (unwS b).2.2.2.2.2.2.1, (unwS b).2.2.2.2.2.2.2) := by
  unfold vxlan_Unwrap vxlan_Unwrap_J1 vxlan_reader_packet_own vxlan_reader_frame_own vxlan_reader_frame_own_J1 tag_Is unwS
  simp only [failS]
  have hB1 := takE_bytes hB
  have hL1 := takE_len (b := b)
  rw [ether_Take_spec hB hb]
  generalize takE b = A at *
  obtain ⟨l1, d1, s1, t1, e1⟩ := A
  simp only [Option.bind_some] at *
  by_cases c1 : e1 = 0
  case neg => simp [c1]
  by_cases c2 : t1 = 2048
  case neg => simp [c1, c2]
  have hB2 := takI_bytes hB1
  have hL2 := takI_len (b := l1)
  rw [ipv4_Take_spec hB1 (by omega)]
  generalize takI l1 = A at *
  obtain ⟨l2, to2, id2, tt2, pr2', sr2, ds2, e2⟩ := A
  simp only [Option.bind_some] at *
  by_cases c3 : e2 = 0
  case neg => simp [c1, c2, c3]
  by_cases c4 : pr2' = 17
  case neg => simp [c1, c2, c3, c4]
  have hB3 := takU_bytes hB2
  have hL3 := takU_len (b := l2)
  simp [c1, c2, c3, c4]
  rw [udp_Take_spec hB2 (by omega)]
  generalize takU l2 = A at *
  obtain ⟨l3, p3, q3, e3⟩ := A
  simp only [Option.bind_some] at *
  by_cases c5 : e3 = 0
  case neg => simp [c5]
  by_cases c6 : q3 = 4789
  case neg => simp [c5, c6]
  have hB4 := takV_bytes hB3
  have hL4 := takV_len (b := l3)
  rw [vxlan_Vni_spec hB3 (by omega)]
  generalize takV l3 = A at *
  obtain ⟨l4, v4, e4⟩ := A
  simp only [Option.bind_some] at *
  by_cases c7 : e4 = 0
  case neg => simp [c5, c6, c7]
  simp [c5, c6, c7]
  rw [ether_Take_spec hB4 (by omega)]
  generalize takE l4 = A at *
  obtain ⟨l5, d5, s5, t5, e5⟩ := A
  simp only [Option.bind_some] at *
  by_cases c8 : e5 = 0
  case neg => by_cases c9 : t5 = 33024 <;> simp [c8, c9]
  by_cases c9 : t5 = 33024
  · simp [c8, c9]
  · simp [c8, c9]
theorem vxlanUnwraps (b : List Int) (hb : okL (okI .u8) b) : palinglaw09_VxlanUnwraps b = some true := by
  unfold palinglaw09_VxlanUnwraps
  rw [works09]
  by_cases c : (b.length : Int) > 4000
  · rw [if_pos (decide_eq_true c)]; rfl
  rw [if_neg (by simpa using c), vxlan_Unwrap_spec (bytes_ok hb) (by omega), rUnwrap_spec (bytes_ok hb) (by omega)]
  simp [palingref04_Same, seqB_self]
end Go.Eng
