/- How bytes are taken: frames, packets, datagrams, heads. -/
import Derived.Test.YtakijieekhbhfaaGreatEngB2
import Derived.Test.YtakijieekhbhfaaGreatEngPE
set_option linter.unusedVariables false
set_option linter.unusedSectionVars false
set_option linter.unusedSimpArgs false
namespace Go.Eng
open Go Classical
attribute [local congr] ite_cg
noncomputable def pr2 (b : List Int) (o : Int) : Int := getI b o * 256 + getI b (o + 1)
noncomputable def pr4 (b : List Int) (o : Int) : Int := pr2 b o * 65536 + pr2 b (o + 2)
theorem pr2_bnd {b : List Int} (hB : BytesP b) {o : Int} (h0 : 0 ≤ o) (h1 : o + 1 < b.length) : 0 ≤ pr2 b o ∧ pr2 b o < 65536 := by
  obtain ⟨a1, a2⟩ := hB _ (getI_mem (l := b) (i := o) ⟨by omega, by omega⟩)
  obtain ⟨c1, c2⟩ := hB _ (getI_mem (l := b) (i := o + 1) ⟨by omega, by omega⟩)
  unfold pr2; omega
theorem pair_spec {b : List Int} (hB : BytesP b) {o : Int} (h0 : 0 ≤ o) (h1 : o + 1 < b.length) (hb : b.length ≤ 1000000) : ipv4_pair b o = some (pr2 b o) := by
  obtain ⟨a1, a2⟩ := hB _ (getI_mem (l := b) (i := o) ⟨by omega, by omega⟩)
  obtain ⟨c1, c2⟩ := hB _ (getI_mem (l := b) (i := o + 1) ⟨by omega, by omega⟩)
  unfold ipv4_pair pr2
  rw [nth_getI ⟨by omega, by omega⟩, Option.bind_some, wr64 (n := o + 1) (by omega) (by omega), nth_getI ⟨by omega, by omega⟩, Option.bind_some, or_i64_8 a1 a2 c1 c2]
theorem or_u32_16 {v x : Int} (h0 : 0 ≤ v) (h1 : v < 65536) (x0 : 0 ≤ x) (x1 : x < 65536) : bits_or .u32 (wr_u32 ((wr_u32 v) * 2 ^ 16)) (wr_u32 x) = v * 65536 + x := by
  rw [wr32 (n := v) (by omega) (by omega), wr32 (n := v * 2 ^ 16) (by omega) (by omega), wr32 (n := x) (by omega) (by omega)]
  have hv : Int.toNat (v * 2 ^ 16) = v.toNat * 65536 := by omega
  unfold bits_or
  rw [ofInt_nat _ _ (by omega), ofInt_nat _ _ x0, BitVec.toNat_or, BitVec.toNat_ofNat, BitVec.toNat_ofNat]
  simp only [IntKind.bits]
  have ho : v.toNat * 65536 ||| x.toNat = v.toNat * 65536 + x.toNat := by
    have := Nat.two_pow_add_eq_or_of_lt (i := 16) (b := x.toNat) (by omega) v.toNat
    rw [show v.toNat * 65536 = 2 ^ 16 * v.toNat from by omega, ← this]
  rw [Nat.mod_eq_of_lt (by omega), Nat.mod_eq_of_lt (by omega), hv, ho]
  have hw := wr32 (n := ((v.toNat * 65536 + x.toNat : Nat) : Int)) (by omega) (by omega)
  unfold wr_u32 at hw
  first | (rw [hw]; omega) | omega
theorem four_spec {b : List Int} (hB : BytesP b) {o : Int} (h0 : 0 ≤ o) (h1 : o + 3 < b.length) (hb : b.length ≤ 1000000) : ipv4_four b o = some (pr4 b o) := by
  unfold ipv4_four pr4
  have p1 := pr2_bnd hB (o := o) h0 (by omega)
  have p2 := pr2_bnd hB (o := o + 2) (by omega) (by omega)
  rw [pair_spec hB h0 (by omega) hb, Option.bind_some, wr64 (n := o + 2) (by omega) (by omega), pair_spec hB (by omega) (by omega) hb, Option.bind_some, or_u32_16 p1.1 p1.2 p2.1 p2.2]
theorem r07num {b : List Int} {o : Int} {k : Nat} (hB : BytesP b) (h0 : 0 ≤ o) (h1 : o + k ≤ b.length) (hk : k ≤ 4) (hb : b.length ≤ 1000000) : palingref07_number (List.drop o.toNat (List.take (o + k).toNat b)) = some (numB b o k) := by
  unfold palingref07_number
  have hlen : (List.drop o.toNat (List.take (o + k).toNat b)).length = k := by simp; omega
  have hget : ∀ i : Int, 0 ≤ i → i < k → getI (List.drop o.toNat (List.take (o + k).toNat b)) i = getI b (o + i) := fun i i0 i1 => by
    unfold getI
    rw [List.getElem?_drop, List.getElem?_take, if_pos (by omega), show o.toNat + i.toNat = (o + i).toNat from by omega]
  generalize List.drop o.toNat (List.take (o + k).toNat b) = q at *
  have := loopM_trace (f := fun s : Int × Int => match s with | (v2, v3) => palingref07_number_L1 q v2 v3) (fun i => (numB b o i, (i : Int))) k (r := numB b o k) (by omega) (fun i hi => by
    have hwi := wr64 (n := (i : Int) + 1) (by omega) (by omega)
    have hin : inL q (i : Int) := ⟨by omega, by omega⟩
    have hin2 : inL b (o + (i : Int)) := ⟨by omega, by omega⟩
    obtain ⟨c1, c2⟩ := hB _ (getI_mem hin2)
    obtain ⟨a1, a2⟩ := numB_lt hB h0 i (by omega)
    have hp : 256 ^ i ≤ 256 ^ 4 := Nat.pow_le_pow_right (by decide) (by omega)
    have c : (i : Int) < (q.length : Int) := by omega
    simp only [palingref07_number_L1, c, nth_getI hin, hget (i : Int) (by omega) (by omega), hwi, decide_true, if_true, Option.bind_some]
    rw [wr64 (n := numB b o i * 256) (by omega) (by omega), wr64 (n := getI b (o + (i : Int))) (by omega) (by omega), wr64 (by omega) (by omega)]
    simp [numB]) (by simp [palingref07_number_L1, hlen])
  have e : loopM (fun s : Int × Int => match s with | (v2, v3) => palingref07_number_L1 q v2 v3) (0, 0) = some (numB b o k) := this
  rw [e]
  rfl
theorem num2 {b : List Int} {o : Int} : numB b o 2 = pr2 b o := by simp [numB, pr2]
theorem num4 {b : List Int} {o : Int} : numB b o 4 = pr4 b o := by
  have e : o + 2 + 1 = o + 3 := by omega
  simp only [numB, pr4, pr2, e]
  simp; omega
noncomputable def takE (b : List Int) : List Int × Int × Int × Int × Int :=
  if (b.length : Int) < 14 then ([], 0, 0, 0, 10) else if (b.length : Int) > 1518 then ([], 0, 0, 0, 14) else (b.drop 14, numB b 0 6, numB b 6 6, pr2 b 12, 0)
theorem copied' {b : List Int} (h : 14 ≤ b.length) : List.take 0 (List.replicate (Int.toNat ((b.length : Int) - 14)) (0 : Int)) ++ (List.take (min (List.length (List.drop (Int.toNat 14) (List.take (Int.toNat ((List.length b) : Int)) b))) ((List.length (List.replicate (Int.toNat ((b.length : Int) - 14)) (0 : Int))) - 0)) (List.drop (Int.toNat 14) (List.take (Int.toNat ((List.length b) : Int)) b)) ++ List.drop (0 + (min (List.length (List.drop (Int.toNat 14) (List.take (Int.toNat ((List.length b) : Int)) b))) ((List.length (List.replicate (Int.toNat ((b.length : Int) - 14)) (0 : Int))) - 0))) (List.replicate (Int.toNat ((b.length : Int) - 14)) (0 : Int))) = b.drop 14 := by
  have e1 : List.take (Int.toNat ((List.length b) : Int)) b = b := by simp
  have e2 : Int.toNat ((b.length : Int) - 14) = b.length - 14 := by omega
  have e3 : Int.toNat 14 = 14 := rfl
  rw [e1, e2, e3]
  have e4 : (b.drop 14).length = b.length - 14 := by simp
  have e5 : List.drop (b.length - 14) (List.replicate (b.length - 14) (0 : Int)) = [] := by simp
  have e6 : List.take (b.length - 14) (b.drop 14) = b.drop 14 := List.take_of_length_le (by omega)
  rw [e4, List.length_replicate, Nat.sub_zero, Nat.min_self, Nat.zero_add, List.take_zero, List.nil_append, e5, e6, List.append_nil]
theorem ether_Take_spec {b : List Int} (hB : BytesP b) (hb : b.length ≤ 1000000) : ether_Take b = some ((takE b).1, (takE b).1.length, (takE b).2.1, (takE b).2.2.1, (takE b).2.2.2.1, (takE b).2.2.2.2) := by
  unfold ether_Take takE
  by_cases c1 : (b.length : Int) < 14
  · rw [if_pos (decide_eq_true c1), if_pos c1]; rfl
  rw [if_neg (by simpa using c1), if_neg c1]
  by_cases c2 : (b.length : Int) > 1518
  · rw [if_pos (decide_eq_true c2), if_pos c2]; rfl
  rw [if_neg (by simpa using c2), if_neg c2]
  have hw := wr64 (n := (b.length : Int) - 14) (by omega) (by omega)
  have hmk : mkok 1 ((b.length : Int) - 14) ((b.length : Int) - 14) = true := decide_eq_true ⟨by omega, by omega, by omega, by omega⟩
  have hsl : slok b.length 14 (b.length : Int) = true := by rw [slok_dec]; exact decide_eq_true (by omega)
  have i1 : inL b 12 := ⟨by omega, by omega⟩
  have i2 : inL b 13 := ⟨by omega, by omega⟩
  obtain ⟨x0, x1⟩ := hB _ (getI_mem i1)
  obtain ⟨y0, y1⟩ := hB _ (getI_mem i2)
  rw [mac_take_num hB (by omega) (by omega) hb, Option.bind_some, mac_take_num hB (by omega) (by omega) hb, Option.bind_some, hw, if_pos hmk, if_pos hsl, nth_getI i1, Option.bind_some, nth_getI i2, Option.bind_some, copied' (by omega), or_i64_8 x0 x1 y0 y1]
  simp only [List.length_drop]
  rw [show Int.toNat ((b.length : Int) - 14) = b.length - 14 from by omega]
  rfl
theorem rEther_Take_spec {b : List Int} (hB : BytesP b) (hb : b.length ≤ 1000000) : palingref04_Take b = some (takE b) := by
  unfold palingref04_Take takE
  by_cases c1 : (b.length : Int) < 14
  · rw [if_pos (decide_eq_true c1), if_pos c1]
  rw [if_neg (by simpa using c1), if_neg c1]
  by_cases c2 : (b.length : Int) > 1518
  · rw [if_pos (decide_eq_true c2), if_pos c2]
  rw [if_neg (by simpa using c2), if_neg c2]
  have hsl : slok b.length 14 (b.length : Int) = true := by rw [slok_dec]; exact decide_eq_true (by omega)
  have i1 : inL b 12 := ⟨by omega, by omega⟩
  have i2 : inL b 13 := ⟨by omega, by omega⟩
  obtain ⟨x0, x1⟩ := hB _ (getI_mem i1)
  obtain ⟨y0, y1⟩ := hB _ (getI_mem i2)
  have e1 : List.drop (Int.toNat 14) (List.take (Int.toNat ((List.length b) : Int)) b) = b.drop 14 := by simp
  rw [r01_take_num hB (by omega) (by omega) hb, Option.bind_some, r01_take_num hB (by omega) (by omega) hb, Option.bind_some, nth_getI i1, Option.bind_some, nth_getI i2, Option.bind_some, if_pos hsl, e1, if_pos (roomy_few (by simp; omega)), kind_ref x0 x1 y0 y1]
  rfl
theorem takE_bytes {b : List Int} (hB : BytesP b) : BytesP (takE b).1 := by
  unfold takE
  split
  · intro x h; cases h
  split
  · intro x h; cases h
  · exact fun x hx => hB x (List.mem_of_mem_drop hx)
theorem takE_len {b : List Int} : (takE b).1.length ≤ b.length := by
  unfold takE
  split
  · simp
  split
  · simp
  · simp
/-- A packet: body, tos, id, ttl, proto, from, to; what is wrong. -/
noncomputable def takI (b : List Int) : List Int × Int × Int × Int × Int × Int × Int × Int :=
  if (b.length : Int) < 20 then ([], 0, 0, 0, 0, 0, 0, 10)
  else if getI b 0 ≠ 69 ∨ pr2 b 2 < 20 then ([], 0, 0, 0, 0, 0, 0, 11)
  else if pr2 b 2 > (b.length : Int) then ([], 0, 0, 0, 0, 0, 0, 10)
  else if pr2 b 6 ≠ 0 then ([], 0, 0, 0, 0, 0, 0, 11)
  else if nrm (tot (b.take 20)) ≠ 65535 then ([], 0, 0, 0, 0, 0, 0, 12)
  else ((b.take (pr2 b 2).toNat).drop 20, getI b 1, pr2 b 4, getI b 8, getI b 9, pr4 b 12, pr4 b 16, 0)
theorem ipv4_Take_spec {b : List Int} (hB : BytesP b) (hb : b.length ≤ 1000000) : ipv4_Take b = some (takI b) := by
  unfold ipv4_Take takI
  by_cases c1 : (b.length : Int) < 20
  · rw [if_pos (decide_eq_true c1), if_pos c1]
  rw [if_neg (by simpa using c1), if_neg c1]
  have p : ∀ o : Int, 0 ≤ o → o + 1 < 20 → ipv4_pair b o = some (pr2 b o) := fun o h0 h1 => pair_spec hB h0 (by omega) hb
  have hJ : ipv4_Take_J1 b = some (decide (getI b 0 ≠ 69 ∨ pr2 b 2 < 20)) := by
    unfold ipv4_Take_J1
    rw [nth_getI ⟨by omega, by omega⟩, Option.bind_some]
    by_cases c : getI b 0 = 69
    · rw [if_neg (by simpa using c), p 2 (by omega) (by omega), Option.bind_some]; simp [c]
    · rw [if_pos (by simpa using c)]; simp [c]
  rw [hJ]
  simp only [Option.bind_some, p 2 (by omega) (by omega), p 6 (by omega) (by omega), p 4 (by omega) (by omega)]
  by_cases c2 : getI b 0 ≠ 69 ∨ pr2 b 2 < 20
  · rw [if_pos (decide_eq_true c2), if_pos c2]
  rw [if_neg (by rw [decide_eq_true_eq]; exact c2), if_neg c2]
  by_cases c3 : pr2 b 2 > (b.length : Int)
  · rw [if_pos (decide_eq_true c3), if_pos c3]
  rw [if_neg (by simpa using c3), if_neg c3]
  by_cases c4 : pr2 b 6 = 0
  case neg => rw [if_pos (by simpa using c4), if_pos c4]
  rw [if_neg (by simpa using c4), if_neg (show ¬ pr2 b 6 ≠ 0 from by simpa using c4)]
  have hsl : slok b.length 0 20 = true := by rw [slok_dec]; exact decide_eq_true (by omega)
  have e20 : List.drop (Int.toNat 0) (List.take (Int.toNat 20) b) = b.take 20 := by simp
  rw [if_pos hsl, e20]
  unfold sum_Right
  rw [sum_add_spec (k := 10) (fun x hx => hB x (List.mem_of_mem_take hx)) (by simp; omega) (by decide)]
  simp only [Option.bind_some]
  by_cases c5 : nrm (tot (b.take 20)) = 65535
  case neg => rw [if_pos (by simpa using c5), if_pos c5]
  rw [if_neg (by simpa using c5), if_neg (show ¬ nrm (tot (b.take 20)) ≠ 65535 from by simpa using c5)]
  have p2 := pr2_bnd hB (o := 2) (by omega) (by omega)
  have i1 : inL b 1 := ⟨by omega, by omega⟩
  have i8 : inL b 8 := ⟨by omega, by omega⟩
  have i9 : inL b 9 := ⟨by omega, by omega⟩
  have b1 := hB _ (getI_mem i1)
  have b8 := hB _ (getI_mem i8)
  have b9 := hB _ (getI_mem i9)
  have hsl2 : slok b.length 20 (pr2 b 2) = true := by rw [slok_dec]; exact decide_eq_true (by omega)
  rw [nth_getI i1, Option.bind_some, nth_getI i8, Option.bind_some, nth_getI i9, Option.bind_some, four_spec hB (by omega) (by omega) hb, Option.bind_some, four_spec hB (by omega) (by omega) hb, Option.bind_some, if_pos hsl2]
  unfold slices_Clone_byte
  rw [if_pos (roomy_few (by simp; omega)), wr64 (n := getI b 1) (by omega) (by omega), wr64 (n := getI b 8) (by omega) (by omega), wr64 (n := getI b 9) (by omega) (by omega)]
  rfl
theorem rIpv4_Take_spec {b : List Int} (hB : BytesP b) (hb : b.length ≤ 1000000) : palingref07_Take b = some (takI b) := by
  unfold palingref07_Take takI
  by_cases c1 : (b.length : Int) < 20
  · rw [if_pos (decide_eq_true c1), if_pos c1]
  rw [if_neg (by simpa using c1), if_neg c1]
  have sl : ∀ x y : Int, 0 ≤ x → x ≤ y → y ≤ 20 → slok b.length x y = true := fun x y h0 h1 h2 => by rw [slok_dec]; exact decide_eq_true (by omega)
  have n2 : palingref07_number (List.drop (Int.toNat 2) (List.take (Int.toNat 4) b)) = some (pr2 b 2) := by rw [← num2]; exact r07num (o := 2) (k := 2) hB (by omega) (by omega) (by omega) hb
  have n6 : palingref07_number (List.drop (Int.toNat 6) (List.take (Int.toNat 8) b)) = some (pr2 b 6) := by rw [← num2]; exact r07num (o := 6) (k := 2) hB (by omega) (by omega) (by omega) hb
  have n4 : palingref07_number (List.drop (Int.toNat 4) (List.take (Int.toNat 6) b)) = some (pr2 b 4) := by rw [← num2]; exact r07num (o := 4) (k := 2) hB (by omega) (by omega) (by omega) hb
  have n12 : palingref07_number (List.drop (Int.toNat 12) (List.take (Int.toNat 16) b)) = some (pr4 b 12) := by rw [← num4]; exact r07num (o := 12) (k := 4) hB (by omega) (by omega) (by omega) hb
  have n16 : palingref07_number (List.drop (Int.toNat 16) (List.take (Int.toNat 20) b)) = some (pr4 b 16) := by rw [← num4]; exact r07num (o := 16) (k := 4) hB (by omega) (by omega) (by omega) hb
  have i0 : inL b 0 := ⟨by omega, by omega⟩
  rw [if_pos (sl 2 4 (by omega) (by omega) (by omega)), n2, Option.bind_some, nth_getI i0, Option.bind_some]
  by_cases c2 : getI b 0 = 69
  case neg => rw [if_pos (by simpa using c2), if_pos (.inl c2)]
  rw [if_neg (by simpa using c2)]
  by_cases c2' : pr2 b 2 < 20
  · rw [if_pos (decide_eq_true c2'), if_pos (.inr c2')]
  rw [if_neg (by simpa using c2'), if_neg (c := getI b 0 ≠ 69 ∨ _) (by rintro (h | h) <;> contradiction)]
  by_cases c3 : pr2 b 2 > (b.length : Int)
  · rw [if_pos (decide_eq_true c3), if_pos c3]
  rw [if_neg (by simpa using c3), if_neg c3, if_pos (sl 6 8 (by omega) (by omega) (by omega)), n6, Option.bind_some]
  by_cases c4 : pr2 b 6 = 0
  case neg => rw [if_pos (by simpa using c4), if_pos c4]
  rw [if_neg (by simpa using c4), if_neg (show ¬ pr2 b 6 ≠ 0 from by simpa using c4), if_pos (sl 0 20 (by omega) (by omega) (by omega))]
  have e20 : List.drop (Int.toNat 0) (List.take (Int.toNat 20) b) = b.take 20 := by simp
  rw [e20]
  unfold palingref06_Right
  rw [rSum_spec (k := 10) (fun x hx => hB x (List.mem_of_mem_take hx)) (by simp; omega) (by decide)]
  simp only [Option.bind_some]
  by_cases c5 : nrm (tot (b.take 20)) = 65535
  case neg => rw [if_pos (by simpa using c5), if_pos c5]
  rw [if_neg (by simpa using c5), if_neg (show ¬ nrm (tot (b.take 20)) ≠ 65535 from by simpa using c5)]
  have p2 := pr2_bnd hB (o := 2) (by omega) (by omega)
  have p12 := pr2_bnd hB (o := 12) (by omega) (by omega)
  have p14 := pr2_bnd hB (o := 12 + 2) (by omega) (by omega)
  have p16 := pr2_bnd hB (o := 16) (by omega) (by omega)
  have p18 := pr2_bnd hB (o := 16 + 2) (by omega) (by omega)
  have i1 : inL b 1 := ⟨by omega, by omega⟩
  have i8 : inL b 8 := ⟨by omega, by omega⟩
  have i9 : inL b 9 := ⟨by omega, by omega⟩
  have b1 := hB _ (getI_mem i1)
  have b8 := hB _ (getI_mem i8)
  have b9 := hB _ (getI_mem i9)
  have hsl2 : slok b.length 20 (pr2 b 2) = true := by rw [slok_dec]; exact decide_eq_true (by omega)
  rw [nth_getI i1, Option.bind_some, if_pos (sl 4 6 (by omega) (by omega) (by omega)), n4, Option.bind_some, nth_getI i8, Option.bind_some, nth_getI i9, Option.bind_some, if_pos (sl 12 16 (by omega) (by omega) (by omega)), n12, Option.bind_some, if_pos (sl 16 20 (by omega) (by omega) (by omega)), n16, Option.bind_some, if_pos hsl2, if_pos (roomy_few (by simp; omega)),
    wr64 (n := getI b 1) (by omega) (by omega), wr64 (n := getI b 8) (by omega) (by omega), wr64 (n := getI b 9) (by omega) (by omega), wr32 (n := pr4 b 12) (by unfold pr4; omega) (by unfold pr4; omega), wr32 (n := pr4 b 16) (by unfold pr4; omega) (by unfold pr4; omega)]
  rfl
theorem takI_bytes {b : List Int} (hB : BytesP b) : BytesP (takI b).1 := by
  unfold takI
  repeat' split
  all_goals first
    | (intro x h; cases h; done)
    | exact fun x hx => hB x (List.mem_of_mem_take (List.mem_of_mem_drop hx))
theorem takI_len {b : List Int} : (takI b).1.length ≤ b.length := by
  unfold takI
  repeat' split
  all_goals simp
  omega
/-- A datagram: body, from, to; what is wrong. -/
noncomputable def takU (b : List Int) : List Int × Int × Int × Int :=
  if (b.length : Int) < 8 then ([], 0, 0, 10)
  else if pr2 b 4 < 8 then ([], 0, 0, 11)
  else if pr2 b 4 > (b.length : Int) then ([], 0, 0, 10)
  else if pr2 b 6 ≠ 0 then ([], 0, 0, 12)
  else ((b.take (pr2 b 4).toNat).drop 8, pr2 b 0, pr2 b 2, 0)
theorem udp_Take_spec {b : List Int} (hB : BytesP b) (hb : b.length ≤ 1000000) : udp_Take b = some (takU b) := by
  unfold udp_Take takU
  by_cases c1 : (b.length : Int) < 8
  · rw [if_pos (decide_eq_true c1), if_pos c1]
  rw [if_neg (by simpa using c1), if_neg c1]
  have bit : ∀ o : Int, 0 ≤ o → o + 1 < 8 → bits_or .i64 (wr_i64 ((wr_i64 (getI b o)) * 2 ^ 8)) (wr_i64 (getI b (o + 1))) = pr2 b o := fun o h0 h1 => by
    obtain ⟨a1, a2⟩ := hB _ (getI_mem (l := b) (i := o) ⟨by omega, by omega⟩)
    obtain ⟨c1, c2⟩ := hB _ (getI_mem (l := b) (i := o + 1) ⟨by omega, by omega⟩)
    exact or_i64_8 a1 a2 c1 c2
  have nn : ∀ o : Int, 0 ≤ o → o < 8 → nth b o = some (getI b o) := fun o h0 h1 => nth_getI ⟨by omega, by omega⟩
  have e : loopM (fun s : Int × Int × Int × Int × Int => match s with | (v3, v4, v5, v6, v7) => udp_Take_L1 b v3 v4 v5 v6 v7) (0, 0, 0, 0, 0) = some (pr2 b 0, pr2 b 2, pr2 b 4, pr2 b 6) :=
    loopM_trace (f := fun s : Int × Int × Int × Int × Int => match s with | (v3, v4, v5, v6, v7) => udp_Take_L1 b v3 v4 v5 v6 v7) (r := (pr2 b 0, pr2 b 2, pr2 b 4, pr2 b 6)) (fun i => match i with
      | 0 => (0, 0, 0, 0, 0)
      | 1 => (pr2 b 0, 1, 0, 0, 0)
      | 2 => (pr2 b 0, 2, pr2 b 2, 0, 0)
      | 3 => (pr2 b 0, 3, pr2 b 2, pr2 b 4, 0)
      | _ => (pr2 b 0, 4, pr2 b 2, pr2 b 4, pr2 b 6)) 4 (by decide) (fun i hi => by
      have b0 := bit 0 (by omega) (by omega)
      have b2 := bit 2 (by omega) (by omega)
      have b4 := bit 4 (by omega) (by omega)
      have b6 := bit 6 (by omega) (by omega)
      simp only [show (0 : Int) + 1 = 1 from rfl, show (2 : Int) + 1 = 3 from rfl, show (4 : Int) + 1 = 5 from rfl, show (6 : Int) + 1 = 7 from rfl] at b0 b2 b4 b6
      have n0 := nn 0 (by omega) (by omega)
      have n1 := nn 1 (by omega) (by omega)
      have n2 := nn 2 (by omega) (by omega)
      have n3 := nn 3 (by omega) (by omega)
      have n4 := nn 4 (by omega) (by omega)
      have n5 := nn 5 (by omega) (by omega)
      have n6 := nn 6 (by omega) (by omega)
      have n7 := nn 7 (by omega) (by omega)
      have w0 := wr64 (n := 0) (by omega) (by omega)
      have w1 := wr64 (n := 1) (by omega) (by omega)
      have w2 := wr64 (n := 2) (by omega) (by omega)
      have w3 := wr64 (n := 3) (by omega) (by omega)
      have w4 := wr64 (n := 4) (by omega) (by omega)
      have w5 := wr64 (n := 5) (by omega) (by omega)
      have w6 := wr64 (n := 6) (by omega) (by omega)
      have w7 := wr64 (n := 7) (by omega) (by omega)
      match i, hi with
      | 0, _ => simp only [udp_Take_L1, show (2 : Int) * 0 = 0 from rfl, show (0 : Int) + 1 = 1 from rfl, w0, w1, n0, n1, Option.bind_some, b0]; rfl
      | 1, _ => simp only [udp_Take_L1, show (2 : Int) * 1 = 2 from rfl, show (2 : Int) + 1 = 3 from rfl, show (1 : Int) + 1 = 2 from rfl, w2, w3, n2, n3, Option.bind_some, b2]; rfl
      | 2, _ => simp only [udp_Take_L1, show (2 : Int) * 2 = 4 from rfl, show (4 : Int) + 1 = 5 from rfl, show (2 : Int) + 1 = 3 from rfl, w3, w4, w5, n4, n5, Option.bind_some, b4]; rfl
      | 3, _ => simp only [udp_Take_L1, show (2 : Int) * 3 = 6 from rfl, show (6 : Int) + 1 = 7 from rfl, show (3 : Int) + 1 = 4 from rfl, w4, w6, w7, n6, n7, Option.bind_some, b6]; rfl) (by simp [udp_Take_L1])
  rw [e]
  simp only [Option.bind_some]
  by_cases c2 : pr2 b 4 < 8
  · rw [if_pos (decide_eq_true c2), if_pos c2]
  rw [if_neg (by simpa using c2), if_neg c2]
  by_cases c3 : pr2 b 4 > (b.length : Int)
  · rw [if_pos (decide_eq_true c3), if_pos c3]
  rw [if_neg (by simpa using c3), if_neg c3]
  by_cases c4 : pr2 b 6 = 0
  case neg => rw [if_pos (by simpa using c4), if_pos c4]
  rw [if_neg (by simpa using c4), if_neg (show ¬ pr2 b 6 ≠ 0 from by simpa using c4)]
  have hsl2 : slok b.length 8 (pr2 b 4) = true := by rw [slok_dec]; exact decide_eq_true (by omega)
  rw [if_pos hsl2]
  unfold slices_Clone_byte
  rw [if_pos (roomy_few (by simp; omega))]
  rfl
theorem rUdp_Take_spec {b : List Int} (hB : BytesP b) (hb : b.length ≤ 1000000) : palingref08_Take b = some (takU b) := by
  unfold palingref08_Take takU
  by_cases c1 : (b.length : Int) < 8
  · rw [if_pos (decide_eq_true c1), if_pos c1]
  rw [if_neg (by simpa using c1), if_neg c1]
  have bit : ∀ o : Int, 0 ≤ o → o + 1 < 8 → wr_i64 ((wr_i64 ((wr_i64 (getI b o)) * 256)) + (wr_i64 (getI b (o + 1)))) = pr2 b o := fun o h0 h1 => by
    obtain ⟨a1, a2⟩ := hB _ (getI_mem (l := b) (i := o) ⟨by omega, by omega⟩)
    obtain ⟨c1, c2⟩ := hB _ (getI_mem (l := b) (i := o + 1) ⟨by omega, by omega⟩)
    exact kind_ref a1 a2 c1 c2
  have nn : ∀ o : Int, 0 ≤ o → o < 8 → nth b o = some (getI b o) := fun o h0 h1 => nth_getI ⟨by omega, by omega⟩
  have b0 := bit 0 (by omega) (by omega)
  have b2 := bit 2 (by omega) (by omega)
  have b4 := bit 4 (by omega) (by omega)
  simp only [show (0 : Int) + 1 = 1 from rfl, show (2 : Int) + 1 = 3 from rfl, show (4 : Int) + 1 = 5 from rfl] at b0 b2 b4
  rw [nn 4 (by omega) (by omega), Option.bind_some, nn 5 (by omega) (by omega), Option.bind_some, b4]
  by_cases c2 : pr2 b 4 < 8
  · rw [if_pos (decide_eq_true c2), if_pos c2]
  rw [if_neg (by simpa using c2), if_neg c2]
  by_cases c3 : pr2 b 4 > (b.length : Int)
  · rw [if_pos (decide_eq_true c3), if_pos c3]
  rw [if_neg (by simpa using c3), if_neg c3, nn 6 (by omega) (by omega), Option.bind_some, nn 7 (by omega) (by omega), nn 0 (by omega) (by omega), nn 1 (by omega) (by omega), nn 2 (by omega) (by omega), nn 3 (by omega) (by omega)]
  simp only [Option.bind_some, b0, b2]
  obtain ⟨a1, a2⟩ := hB _ (getI_mem (l := b) (i := 6) ⟨by omega, by omega⟩)
  obtain ⟨d1, d2⟩ := hB _ (getI_mem (l := b) (i := 7) ⟨by omega, by omega⟩)
  have e6 : pr2 b 6 = getI b 6 * 256 + getI b 7 := rfl
  by_cases c4 : getI b 6 = 0
  case neg => rw [if_pos (by simpa using c4), if_pos (by rw [e6]; omega)]
  rw [if_neg (by simpa using c4)]
  by_cases c5 : getI b 7 = 0
  case neg => rw [if_pos (by simpa using c5), if_pos (by rw [e6]; omega)]
  rw [if_neg (by simpa using c5), if_neg (show ¬ pr2 b 6 ≠ 0 from by rw [e6]; omega)]
  have hsl2 : slok b.length 8 (pr2 b 4) = true := by rw [slok_dec]; exact decide_eq_true (by omega)
  rw [if_pos hsl2, if_pos (roomy_few (by simp; omega))]
  rfl
theorem takU_bytes {b : List Int} (hB : BytesP b) : BytesP (takU b).1 := by
  unfold takU
  repeat' split
  all_goals first
    | (intro x h; cases h; done)
    | exact fun x hx => hB x (List.mem_of_mem_take (List.mem_of_mem_drop hx))
theorem takU_len {b : List Int} : (takU b).1.length ≤ b.length := by
  unfold takU
  repeat' split
  all_goals simp
  omega
end Go.Eng
