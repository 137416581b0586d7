/- Part of the proof of BridgeSteps: plain laws of the printed mirrors. No conditions. -/
import Derived.Test.YtngflgclljfmjaaGreatEngGP1
set_option linter.unusedVariables false
set_option linter.unusedSectionVars false
set_option linter.unusedSimpArgs false
namespace Go.Eng
open Go Classical
attribute [local congr] ite_cg
theorem nat_or8 (a x : Nat) (h : x < 256) : a * 256 ||| x = a * 256 + x := by
  have := Nat.two_pow_add_eq_or_of_lt (i := 8) (b := x) (by omega) a
  rw [show a * 256 = 2 ^ 8 * a from by omega, ← this]
theorem or_i64_8 {v x : Int} (h0 : 0 ≤ v) (h1 : v < 256) (x0 : 0 ≤ x) (x1 : x < 256) : bits_or .i64 (wr_i64 ((wr_i64 v) * 2 ^ 8)) (wr_i64 x) = v * 256 + x := by
  rw [wr64 (n := v) (by omega) (by omega), wr64 (n := v * 2 ^ 8) (by omega) (by omega), wr64 (n := x) (by omega) (by omega)]
  have hv : Int.toNat (v * 2 ^ 8) = v.toNat * 256 := by omega
  unfold bits_or
  rw [ofInt_nat _ _ (by omega), ofInt_nat _ _ x0, BitVec.toNat_or, BitVec.toNat_ofNat, BitVec.toNat_ofNat]
  simp only [IntKind.bits]
  rw [Nat.mod_eq_of_lt (by omega), Nat.mod_eq_of_lt (by omega), hv, nat_or8 _ _ (by omega)]
  have hw := wr64 (n := ((v.toNat * 256 + x.toNat : Nat) : Int)) (by omega) (by omega)
  unfold wr_i64 at hw
  first | (rw [hw]; omega) | omega
theorem kind_ref {x y : Int} (h0 : 0 ≤ x) (h1 : x < 256) (y0 : 0 ≤ y) (y1 : y < 256) : wr_i64 ((wr_i64 ((wr_i64 x) * 256)) + (wr_i64 y)) = x * 256 + y := by
  rw [wr64 (n := x) (by omega) (by omega), wr64 (n := x * 256) (by omega) (by omega), wr64 (n := y) (by omega) (by omega), wr64 (by omega) (by omega)]
noncomputable def numB (b : List Int) (o : Int) : Nat → Int
  | 0 => 0
  | k + 1 => numB b o k * 256 + getI b (o + (k : Int))
def BytesP (b : List Int) : Prop := ∀ x ∈ b, 0 ≤ x ∧ x < 256
theorem numB_lt {b : List Int} {o : Int} (hB : BytesP b) (h0 : 0 ≤ o) : ∀ (k : Nat), o + k ≤ b.length → 0 ≤ numB b o k ∧ numB b o k < (256 ^ k : Nat)
  | 0, _ => by simp [numB]
  | k + 1, h => by
    obtain ⟨a1, a2⟩ := numB_lt hB h0 k (by omega)
    obtain ⟨c1, c2⟩ := hB _ (getI_mem (l := b) (i := o + (k : Int)) ⟨by omega, by omega⟩)
    simp only [numB]
    rw [Nat.pow_succ]
    omega
end Go.Eng

set_option linter.unusedVariables false
set_option linter.unusedSectionVars false
set_option linter.unusedSimpArgs false
namespace Go.Eng
open Go Classical
attribute [local congr] ite_cg
theorem wr8m {x : Int} : wr_u8 x = x % 256 := by
  unfold wr_u8 IntKind.wrap
  simp [IntKind.signed, IntKind.bits]
theorem fdiv_e {a b : Int} (h : 0 ≤ b) : Int.fdiv a b = a / b := Int.fdiv_eq_ediv_of_nonneg a h
noncomputable def macB (m : Int) : List Int := [m / 1099511627776 % 256, m / 4294967296 % 256, m / 16777216 % 256, m / 65536 % 256, m / 256 % 256, m % 256]
theorem mput_step {m : Int} (l : List Int) (hl : l.length ≤ 1000) (i k : Nat) (hi : i + k = 5) :
    mac_Put_own_L1 m l (i : Int) = some (.inl (l ++ [m / (256 ^ k : Nat) % 256], (i : Int) + 1)) := by
  have hs : mac_shift (i : Int) = some (8 * (k : Int)) := by
    unfold mac_shift
    rw [wr64 (n := 5 - (i : Int)) (by omega) (by omega), wr64 (by omega) (by omega), wr64u (by omega) (by omega)]
    congr 1; omega
  have c : (i : Int) < 6 := by omega
  have c2 : (0 : Int) ≤ 8 * (k : Int) := by omega
  have e : min (Int.toNat (8 * (k : Int))) 64 = 8 * k := by omega
  have e2 : (2 : Int) ^ (8 * k) = ((256 ^ k : Nat) : Int) := by rw [Int.pow_mul]; norm_cast
  have hw := wr64 (n := (i : Int) + 1) (by omega) (by omega)
  have hr : roomy 1 (l ++ [m / (256 ^ k : Nat) % 256]) = true := roomy_few (by simp; omega)
  simp only [mac_Put_own_L1, c, hs, Option.bind_some, c2, decide_true, if_true, e, e2, wr8m, fdiv_e (Int.natCast_nonneg _), hw, hr]
theorem mac_Put_spec {m : Int} {l : List Int} (hl : l.length ≤ 100) : mac_Put_own l m = some (l ++ macB m) := by
  unfold mac_Put_own
  have e : loopM (fun s : (List Int) × Int => match s with | (l3, v4) => mac_Put_own_L1 m l3 v4) (l, 0) = some (l ++ macB m) := by
    have key : ∀ i : Nat, i ≤ 6 → (l ++ (macB m).take i).length ≤ 1000 := fun i hi => by simp [macB]; omega
    have s0 := mput_step (m := m) (l ++ (macB m).take 0) (key 0 (by omega)) 0 5 rfl
    have s1 := mput_step (m := m) (l ++ (macB m).take 1) (key 1 (by omega)) 1 4 rfl
    have s2 := mput_step (m := m) (l ++ (macB m).take 2) (key 2 (by omega)) 2 3 rfl
    have s3 := mput_step (m := m) (l ++ (macB m).take 3) (key 3 (by omega)) 3 2 rfl
    have s4 := mput_step (m := m) (l ++ (macB m).take 4) (key 4 (by omega)) 4 1 rfl
    have s5 := mput_step (m := m) (l ++ (macB m).take 5) (key 5 (by omega)) 5 0 rfl
    have := loopM_trace (f := fun s : (List Int) × Int => match s with | (l3, v4) => mac_Put_own_L1 m l3 v4) (r := l ++ macB m) (fun i => (l ++ (macB m).take i, (i : Int))) 6 (by decide) (fun i hi => by
      match i, hi with
      | 0, _ => simpa [macB] using s0
      | 1, _ => simpa [macB] using s1
      | 2, _ => simpa [macB] using s2
      | 3, _ => simpa [macB] using s3
      | 4, _ => simpa [macB] using s4
      | 5, _ => simpa [macB] using s5) (by simp [mac_Put_own_L1, macB])
    simpa using this
  rw [e]; rfl
theorem macB_len {m : Int} : (macB m).length = 6 := rfl
noncomputable def frB (f : Api_Frame) : List Int := macB f.dst ++ (macB f.src ++ ([f.type_ / 256 % 256, f.type_ % 256] ++ f.body))
noncomputable def putE (f : Api_Frame) : List Int × Int :=
  if f.dst > 281474976710655 ∨ f.src > 281474976710655 ∨ f.type_ < 0 ∨ f.type_ > 65535 then ([], 11)
  else if (f.body.length : Int) > 1504 then ([], 14) else (frB f, 0)
theorem ether_Put_spec {f : Api_Frame} : ether_Put f = some (putE f) := by
  unfold ether_Put putE
  by_cases c1 : f.dst > 281474976710655
  · rw [if_pos (decide_eq_true c1), if_pos (.inl c1)]
  rw [if_neg (by simpa using c1)]
  by_cases c2 : f.src > 281474976710655
  · rw [if_pos (decide_eq_true c2), if_pos (.inr (.inl c2))]
  rw [if_neg (by simpa using c2)]
  by_cases c3 : f.type_ < 0
  · rw [if_pos (decide_eq_true c3), if_pos (.inr (.inr (.inl c3)))]
  rw [if_neg (by simpa using c3)]
  by_cases c4 : f.type_ > 65535
  · rw [if_pos (decide_eq_true c4), if_pos (.inr (.inr (.inr c4)))]
  rw [if_neg (by simpa using c4), if_neg (c := f.dst > 281474976710655 ∨ _) (by rintro (h | h | h | h) <;> contradiction)]
  by_cases c5 : (f.body.length : Int) > 1504
  · rw [if_pos (decide_eq_true c5), if_pos c5]
  rw [if_neg (by simpa using c5), if_neg c5, mac_Put_spec (by simp)]
  simp only [Option.bind_some, List.nil_append]
  rw [mac_Put_spec (by simp [macB_len])]
  simp only [Option.bind_some, wr8m]
  rw [if_pos (roomy_few (by simp [macB_len])), if_pos (roomy_few (by simp [macB_len]; omega))]
  simp [frB, fdiv_e]
theorem rEther_Put_spec {f : Api_Frame} (h1 : okI .u64 f.dst) (h2 : okI .u64 f.src) : palingref04_Put f = some (putE f) := by
  unfold palingref04_Put putE
  have hd := okU64 h1
  have hs := okU64 h2
  by_cases c1 : f.dst > 281474976710655
  · rw [if_pos (by simp; omega), if_pos (.inl c1)]
  rw [if_neg (by simp; omega)]
  by_cases c2 : f.src > 281474976710655
  · rw [if_pos (by simp; omega), if_pos (.inr (.inl c2))]
  rw [if_neg (by simp; omega)]
  by_cases c3 : f.type_ < 0
  · rw [if_pos (decide_eq_true c3), if_pos (.inr (.inr (.inl c3)))]
  rw [if_neg (by simpa using c3)]
  by_cases c4 : f.type_ > 65535
  · rw [if_pos (by simp; omega), if_pos (.inr (.inr (.inr c4)))]
  rw [if_neg (by simp; omega), if_neg (c := f.dst > 281474976710655 ∨ _) (by rintro (h | h | h | h) <;> contradiction)]
  by_cases c5 : (f.body.length : Int) > 1504
  · rw [if_pos (decide_eq_true c5), if_pos c5]
  rw [if_neg (by simpa using c5), if_neg c5, r01Bytes_spec hd.1 hd.2, Option.bind_some, r01Bytes_spec hs.1 hs.2, Option.bind_some]
  simp only
  rw [if_pos (roomy_few (by simp)), if_pos (roomy_few (by simp)), if_pos (roomy_few (by simp; omega)), Int.tdiv_eq_ediv_of_nonneg (by omega), Int.tmod_eq_emod_of_nonneg (by omega), wr64 (by omega) (by omega), wr8m, wr8m]
  simp [frB, macB]
noncomputable def headB (v : Int) : List Int := [8, 0, 0, 0, v / 65536 % 256, v / 256 % 256, v % 256, 0]
noncomputable def putV (v : Int) : List Int × Int := if v < 1 ∨ v > 16777215 then ([], 17) else (headB v, 0)
theorem vxlan_Head_spec {v : Int} : vxlan_Head v = some (putV v) := by
  unfold vxlan_Head putV
  by_cases c1 : v < 1
  · rw [if_pos (decide_eq_true c1), if_pos (.inl c1)]
  rw [if_neg (by simpa using c1)]
  by_cases c2 : v > 16777215
  · rw [if_pos (decide_eq_true c2), if_pos (.inr c2)]
  rw [if_neg (by simpa using c2), if_neg (c := v < 1 ∨ _) (by rintro (h | h) <;> contradiction)]
  simp [headB, wr8m, fdiv_e]
theorem rHead_spec {v : Int} : palingref09_Head v = some (putV v) := by
  unfold palingref09_Head putV
  by_cases c1 : v < 1
  · rw [if_pos (decide_eq_true c1), if_pos (.inl c1)]
  rw [if_neg (by simpa using c1)]
  by_cases c2 : v > 16777215
  · rw [if_pos (by simp; omega), if_pos (.inr c2)]
  rw [if_neg (by simp; omega), if_neg (c := v < 1 ∨ _) (by rintro (h | h) <;> contradiction)]
  rw [Int.tdiv_eq_ediv_of_nonneg (by omega), Int.tdiv_eq_ediv_of_nonneg (by omega), wr64 (by omega) (by omega), wr64 (by omega) (by omega), Int.tmod_eq_emod_of_nonneg (by omega), Int.tmod_eq_emod_of_nonneg (by omega), wr8m, wr8m, wr8m]
  simp [headB]
noncomputable def udpB (s d : Int) (b : List Int) : List Int := [s / 256 % 256, s % 256, d / 256 % 256, d % 256, (8 + (b.length : Int)) / 256 % 256, (8 + (b.length : Int)) % 256, 0, 0] ++ b
noncomputable def putU (s d : Int) (b : List Int) : List Int × Int :=
  if s < 0 ∨ s > 65535 ∨ d < 0 ∨ d > 65535 then ([], 11) else if (b.length : Int) > 1472 then ([], 14) else (udpB s d b, 0)
theorem udp_Put_spec {s d : Int} {b : List Int} : udp_Put s d b = some (putU s d b) := by
  unfold udp_Put putU
  by_cases c1 : s < 0
  · rw [if_pos (decide_eq_true c1), if_pos (.inl c1)]
  rw [if_neg (by simpa using c1)]
  by_cases c2 : s > 65535
  · rw [if_pos (decide_eq_true c2), if_pos (.inr (.inl c2))]
  rw [if_neg (by simpa using c2)]
  by_cases c3 : d < 0
  · rw [if_pos (decide_eq_true c3), if_pos (.inr (.inr (.inl c3)))]
  rw [if_neg (by simpa using c3)]
  by_cases c4 : d > 65535
  · rw [if_pos (decide_eq_true c4), if_pos (.inr (.inr (.inr c4)))]
  rw [if_neg (by simpa using c4), if_neg (c := s < 0 ∨ _) (by rintro (h | h | h | h) <;> contradiction)]
  by_cases c5 : (b.length : Int) > 1472
  · rw [if_pos (decide_eq_true c5), if_pos c5]
  rw [if_neg (by simpa using c5), if_neg c5]
  have hw := wr64 (n := 8 + (b.length : Int)) (by omega) (by omega)
  let H : List Int := [s / 256 % 256, s % 256, d / 256 % 256, d % 256, (8 + (b.length : Int)) / 256 % 256, (8 + (b.length : Int)) % 256, 0, 0]
  have e : loopM (fun s_1 : (List Int) × Int => match s_1 with | (l9, v10) => udp_Put_L1 s d b l9 v10) ([], 0) = some H :=
    loopM_trace (f := fun s_1 : (List Int) × Int => match s_1 with | (l9, v10) => udp_Put_L1 s d b l9 v10) (r := H) (fun i => (H.take (2 * i), (i : Int))) 4 (by decide) (fun i hi => by
      have hr : ∀ l : List Int, l.length ≤ 100 → roomy 1 l = true := fun l h => roomy_few (by omega)
      match i, hi with
      | 0, _ => simp [udp_Put_L1, H, wr8m, fdiv_e, hr, wr64]
      | 1, _ => simp [udp_Put_L1, H, wr8m, fdiv_e, hr, wr64]
      | 2, _ => simp [udp_Put_L1, H, wr8m, fdiv_e, hr, wr64, hw]
      | 3, _ => simp [udp_Put_L1, H, wr8m, fdiv_e, hr, wr64]) (by simp [udp_Put_L1, H])
  rw [e]
  simp only [Option.bind_some]
  rw [if_pos (roomy_few (by simp [H]; omega))]
  rfl
theorem rUdp_Put_spec {s d : Int} {b : List Int} : palingref08_Put s d b = some (putU s d b) := by
  unfold palingref08_Put putU
  by_cases c1 : s < 0
  · rw [if_pos (decide_eq_true c1), if_pos (.inl c1)]
  rw [if_neg (by simpa using c1)]
  by_cases c3 : d < 0
  · rw [if_pos (decide_eq_true c3), if_pos (.inr (.inr (.inl c3)))]
  rw [if_neg (by simpa using c3)]
  by_cases c2 : s > 65535
  · rw [if_pos (by simp; omega), if_pos (.inr (.inl c2))]
  rw [if_neg (by simp; omega)]
  by_cases c4 : d > 65535
  · rw [if_pos (by simp; omega), if_pos (.inr (.inr (.inr c4)))]
  rw [if_neg (by simp; omega), if_neg (c := s < 0 ∨ _) (by rintro (h | h | h | h) <;> contradiction)]
  by_cases c5 : (b.length : Int) > 1472
  · rw [if_pos (decide_eq_true c5), if_pos c5]
  rw [if_neg (by simpa using c5), if_neg c5]
  have hw := wr64 (n := 8 + (b.length : Int)) (by omega) (by omega)
  rw [if_pos (roomy_few (by simp; omega))]
  rw [hw, Int.tdiv_eq_ediv_of_nonneg (by omega), Int.tdiv_eq_ediv_of_nonneg (by omega), Int.tdiv_eq_ediv_of_nonneg (by omega), Int.tmod_eq_emod_of_nonneg (by omega), Int.tmod_eq_emod_of_nonneg (by omega), Int.tmod_eq_emod_of_nonneg (by omega), wr64 (by omega) (by omega), wr64 (by omega) (by omega), wr64 (by omega) (by omega)]
  simp [udpB, wr8m]
end Go.Eng

set_option linter.unusedVariables false
set_option linter.unusedSectionVars false
set_option linter.unusedSimpArgs false
namespace Go.Eng
open Go Classical
attribute [local congr] ite_cg
noncomputable def tot : List Int → Int
  | [] => 0
  | [x] => x * 256
  | x :: y :: r => x * 256 + y + tot r
noncomputable def nrm (t : Int) : Int := if t = 0 then 0 else (t - 1) % 65535 + 1
theorem tot_step : ∀ (k : Nat) (b : List Int), 2 * k + 1 < b.length → tot (b.take (2 * (k + 1))) = tot (b.take (2 * k)) + (getI b (2 * (k : Int)) * 256 + getI b (2 * (k : Int) + 1))
  | 0, x :: y :: r, _ => by simp [tot, getI]
  | 0, [], h => by simp at h
  | 0, [x], h => by simp at h
  | k + 1, [], h => by simp at h
  | k + 1, [x], h => by simp at h
  | k + 1, x :: y :: r, h => by
    have ih := tot_step k r (by simp at h; omega)
    have e1 : (x :: y :: r).take (2 * (k + 1 + 1)) = x :: y :: r.take (2 * (k + 1)) := rfl
    have e2 : (x :: y :: r).take (2 * (k + 1)) = x :: y :: r.take (2 * k) := rfl
    have g1 : getI (x :: y :: r) (2 * ((k + 1 : Nat) : Int)) = getI r (2 * (k : Int)) := by
      unfold getI
      rw [show (2 * ((k + 1 : Nat) : Int)).toNat = (2 * (k : Int)).toNat + 2 from by omega]
      rfl
    have g2 : getI (x :: y :: r) (2 * ((k + 1 : Nat) : Int) + 1) = getI r (2 * (k : Int) + 1) := by
      unfold getI
      rw [show (2 * ((k + 1 : Nat) : Int) + 1).toNat = (2 * (k : Int) + 1).toNat + 2 from by omega]
      rfl
    rw [e1, e2, g1, g2]
    simp only [tot, ih]
    omega
theorem tot_bnd : ∀ (b : List Int), BytesP b → 0 ≤ tot b ∧ tot b ≤ 65535 * (b.length : Int)
  | [], _ => by simp [tot]
  | [x], h => by have := h x (by simp); simp [tot]; omega
  | x :: y :: r, h => by
    have hx := h x (by simp)
    have hy := h y (by simp)
    have ih := tot_bnd r (fun z hz => h z (by simp [hz]))
    simp only [tot, List.length_cons]
    omega
theorem nrm_bnd {t : Int} (h : 0 ≤ t) : 0 ≤ nrm t ∧ nrm t ≤ 65535 := by unfold nrm; split <;> omega
theorem and_i64_16 {v : Int} (h0 : 0 ≤ v) (h1 : v < 1152921504606846976) : bits_and .i64 v 65535 = v % 65536 := by
  unfold bits_and
  rw [ofInt_nat _ _ h0, ofInt_nat _ _ (by omega), BitVec.toNat_and, BitVec.toNat_ofNat, BitVec.toNat_ofNat]
  simp only [IntKind.bits]
  rw [Nat.mod_eq_of_lt (by omega), Nat.mod_eq_of_lt (by decide), show (65535 : Int).toNat = 2 ^ 16 - 1 from rfl, Nat.and_two_pow_sub_one_eq_mod]
  have hw := wr64 (n := ((v.toNat % 2 ^ 16 : Nat) : Int)) (by omega) (by omega)
  unfold wr_i64 at hw
  first | (rw [hw]; omega) | omega
theorem and_i64_1 {v : Int} (h0 : 0 ≤ v) (h1 : v < 1152921504606846976) : bits_and .i64 v 1 = v % 2 := by
  unfold bits_and
  rw [ofInt_nat _ _ h0, ofInt_nat _ _ (by omega), BitVec.toNat_and, BitVec.toNat_ofNat, BitVec.toNat_ofNat]
  simp only [IntKind.bits]
  rw [Nat.mod_eq_of_lt (by omega), Nat.mod_eq_of_lt (by decide), show (1 : Int).toNat = 2 ^ 1 - 1 from rfl, Nat.and_two_pow_sub_one_eq_mod]
  have hw := wr64 (n := ((v.toNat % 2 ^ 1 : Nat) : Int)) (by omega) (by omega)
  unfold wr_i64 at hw
  first | (rw [hw]; omega) | omega
theorem sum_down_spec {t : Int} (h0 : 0 ≤ t) (h1 : t < 1099511627776) : sum_down t = some (nrm t) := by
  unfold sum_down
  obtain ⟨r, e, hr⟩ := loopM_rule (f := sum_down_L1) (fun v => 0 ≤ v ∧ v ≤ t ∧ nrm v = nrm t) (fun r => r = nrm t) (fun v => v.toNat) (s := t) (fun v hI => by
    obtain ⟨i0, i1, i2⟩ := hI
    by_cases c : v > 65535
    · have hw := wr64 (n := v / 65536 + v % 65536) (by omega) (by omega)
      refine ⟨.inl (v / 65536 + v % 65536), ?_, ⟨by omega, by omega, ?_⟩, by omega⟩
      · simp only [sum_down_L1, sum_down_1_own, c, decide_true, if_true, Option.bind_some, and_i64_16 i0 (show v < 1152921504606846976 by omega), show (2 : Int) ^ 16 = 65536 from rfl, fdiv_e (show (0 : Int) ≤ 65536 by decide), hw]
      · rw [← i2]
        unfold nrm
        rw [if_neg (by omega), if_neg (by omega)]
        omega
    · refine ⟨.inr v, by simp only [sum_down_L1, c, decide_false, Bool.false_eq_true, if_false], ?_⟩
      simp only
      rw [← i2]
      unfold nrm
      split <;> omega) ⟨h0, Int.le_refl _, rfl⟩ (by omega)
  rw [e, hr]; rfl
theorem sum_add_spec {b : List Int} {k : Nat} (hB : BytesP b) (hl : b.length = 2 * k) (hk : k ≤ 1000) : sum_add b = some (nrm (tot b)) := by
  unfold sum_add
  have hb := tot_bnd b hB
  have e : loopM (fun s : Int × Int => match s with | (v2, v3) => sum_add_L1 b v2 v3) (0, 0) = some (tot b) := by
    have := loopM_trace (f := fun s : Int × Int => match s with | (v2, v3) => sum_add_L1 b v2 v3) (r := tot b) (fun i => (tot (b.take (2 * i)), 2 * (i : Int))) k (by omega) (fun i hi => by
      have hw1 := wr64 (n := 2 * (i : Int) + 1) (by omega) (by omega)
      have hw2 := wr64 (n := 2 * (i : Int) + 2) (by omega) (by omega)
      have i1 : inL b (2 * (i : Int)) := ⟨by omega, by omega⟩
      have i2 : inL b (2 * (i : Int) + 1) := ⟨by omega, by omega⟩
      obtain ⟨x0, x1⟩ := hB _ (getI_mem i1)
      obtain ⟨y0, y1⟩ := hB _ (getI_mem i2)
      have ht := tot_bnd (b.take (2 * i)) (fun x hx => hB x (List.mem_of_mem_take hx))
      have htl : ((b.take (2 * i)).length : Int) ≤ 2000 := by simp; omega
      have c : 2 * (i : Int) + 1 < (b.length : Int) := by omega
      have hw3 := wr64 (n := tot (b.take (2 * i)) + (getI b (2 * (i : Int)) * 256 + getI b (2 * (i : Int) + 1))) (by omega) (by omega)
      simp only [sum_add_L1, hw1, c, decide_true, if_true, nth_getI i1, nth_getI i2, Option.bind_some, or_i64_8 x0 x1 y0 y1, hw3, hw2, tot_step i b (by omega)]
      simp; omega) (by
      have hw1 := wr64 (n := 2 * (k : Int) + 1) (by omega) (by omega)
      have c : ¬ 2 * (k : Int) + 1 < (b.length : Int) := by omega
      simp only [sum_add_L1, hw1, c, decide_false, Bool.false_eq_true, if_false]
      rw [List.take_of_length_le (by omega)])
    simpa [tot] using this
  rw [e]
  simp only [Option.bind_some]
  rw [and_i64_1 (by omega) (by omega), if_neg (by simp; omega), sum_down_spec hb.1 (by omega)]
  rfl
theorem rSum_spec {b : List Int} {k : Nat} (hB : BytesP b) (hl : b.length = 2 * k) (hk : k ≤ 1000) : palingref06_Sum b = some (nrm (tot b)) := by
  unfold palingref06_Sum
  have e : loopM (fun s : Int × Int => match s with | (v2, v3) => palingref06_Sum_L1 b v2 v3) (0, 0) = some (nrm (tot b)) := by
    have := loopM_trace (f := fun s : Int × Int => match s with | (v2, v3) => palingref06_Sum_L1 b v2 v3) (r := nrm (tot b)) (fun i => (nrm (tot (b.take (2 * i))), 2 * (i : Int))) k (by omega) (fun i hi => by
      have hw1 := wr64 (n := 2 * (i : Int) + 1) (by omega) (by omega)
      have hw2 := wr64 (n := 2 * (i : Int) + 2) (by omega) (by omega)
      have i1 : inL b (2 * (i : Int)) := ⟨by omega, by omega⟩
      have i2 : inL b (2 * (i : Int) + 1) := ⟨by omega, by omega⟩
      obtain ⟨x0, x1⟩ := hB _ (getI_mem i1)
      obtain ⟨y0, y1⟩ := hB _ (getI_mem i2)
      have ht := tot_bnd (b.take (2 * i)) (fun x hx => hB x (List.mem_of_mem_take hx))
      have hn := nrm_bnd ht.1
      have c0 : 2 * (i : Int) < (b.length : Int) := by omega
      have c : 2 * (i : Int) + 1 < (b.length : Int) := by omega
      have hs := tot_step i b (by omega)
      simp only [palingref06_Sum_L1, hw1, c0, c, decide_true, if_true, nth_getI i1, nth_getI i2, Option.bind_some, kind_ref x0 x1 y0 y1]
      have hX : 0 ≤ getI b (2 * (i : Int)) * 256 + getI b (2 * (i : Int) + 1) ∧ getI b (2 * (i : Int)) * 256 + getI b (2 * (i : Int) + 1) ≤ 65535 := by omega
      generalize tot (b.take (2 * i)) = T at *
      generalize getI b (2 * (i : Int)) * 256 + getI b (2 * (i : Int) + 1) = X at *
      have hw3 := wr64 (n := nrm T + X) (by omega) (by omega)
      rw [hw3]
      by_cases d : nrm T + X > 65535
      · have hw4 := wr64 (n := nrm T + X - 65535) (by omega) (by omega)
        rw [if_pos (decide_eq_true d), hw4, hw2, hs]
        have : nrm T + X - 65535 = nrm (T + X) := by
          unfold nrm at *
          split at d <;> split <;> omega
        rw [this]
        simp; omega
      · rw [if_neg (by simpa using d), hw2, hs]
        have : nrm T + X = nrm (T + X) := by
          unfold nrm at *
          split at d <;> split <;> omega
        rw [this]
        simp; omega) (by
      have c : ¬ 2 * (k : Int) < (b.length : Int) := by omega
      simp only [palingref06_Sum_L1, c, decide_false, Bool.false_eq_true, if_false]
      rw [List.take_of_length_le (by omega)])
    simpa [tot, nrm] using this
  rw [e]; rfl
noncomputable def ipA (p : Api_Packet) : List Int := [69, p.tos, (20 + (p.body.length : Int)) / 256 % 256, (20 + (p.body.length : Int)) % 256, p.id / 256 % 256, p.id % 256, 0, 0, p.ttl, p.proto]
noncomputable def ipZ (p : Api_Packet) : List Int := [p.src / 16777216 % 256, p.src / 65536 % 256, p.src / 256 % 256, p.src % 256, p.dst / 16777216 % 256, p.dst / 65536 % 256, p.dst / 256 % 256, p.dst % 256]
noncomputable def ipS (p : Api_Packet) : Int := 65535 - nrm (tot (ipA p ++ ipZ p))
noncomputable def ipB (p : Api_Packet) : List Int := ipA p ++ ([ipS p / 256 % 256, ipS p % 256] ++ (ipZ p ++ p.body))
def BadI (p : Api_Packet) : Prop := p.tos < 0 ∨ p.tos > 255 ∨ p.ttl < 0 ∨ p.ttl > 255 ∨ p.proto < 0 ∨ p.proto > 255 ∨ p.id < 0 ∨ p.id > 65535
noncomputable def putI (p : Api_Packet) : List Int × Int := if BadI p then ([], 11) else if (p.body.length : Int) > 1480 then ([], 14) else (ipB p, 0)
theorem or_i64_b {a x : Int} (h0 : 0 ≤ a) (h1 : a < 1099511627776) (x0 : 0 ≤ x) (x1 : x < 256) : bits_or .i64 (a * 256) x = a * 256 + x := by
  unfold bits_or
  have hv : Int.toNat (a * 256) = a.toNat * 256 := by omega
  rw [ofInt_nat _ _ (by omega), ofInt_nat _ _ x0, BitVec.toNat_or, BitVec.toNat_ofNat, BitVec.toNat_ofNat]
  simp only [IntKind.bits]
  rw [Nat.mod_eq_of_lt (by omega), Nat.mod_eq_of_lt (by omega), hv, nat_or8 _ _ (by omega)]
  have hw := wr64 (n := ((a.toNat * 256 + x.toNat : Nat) : Int)) (by omega) (by omega)
  unfold wr_i64 at hw
  first | (rw [hw]; omega) | omega
theorem small_spec {x m : Int} : ipv4_Put_1 x m = some (decide (0 ≤ x ∧ x ≤ m)) := by
  unfold ipv4_Put_1
  by_cases c : x ≥ 0
  · rw [if_pos (decide_eq_true c)]; simp; omega
  · rw [if_neg (by simpa using c)]; simp; omega
theorem rOut_spec {x m : Int} : palingref07_out x m = some (decide (x < 0 ∨ x > m)) := by
  unfold palingref07_out
  by_cases c : x < 0
  · rw [if_pos (decide_eq_true c)]; simp [c]
  · rw [if_neg (by simpa using c)]; simp [c]
theorem iput_spec {l : List Int} (hl : l.length ≤ 100) : ipv4_put_own [] l = some (l.flatMap fun n => [n / 256 % 256, n % 256]) := by
  unfold ipv4_put_own
  have e : loopM (fun s : (List Int) × Int => match s with | (l3, v4) => ipv4_put_own_L1 l l3 v4) ([], 0) = some (l.flatMap fun n => [n / 256 % 256, n % 256]) := by
    have := loopM_trace (f := fun s : (List Int) × Int => match s with | (l3, v4) => ipv4_put_own_L1 l l3 v4) (r := l.flatMap fun n => [n / 256 % 256, n % 256]) (fun i => ((l.take i).flatMap fun n => [n / 256 % 256, n % 256], (i : Int))) l.length (by omega) (fun i hi => by
      have c : (i : Int) < (l.length : Int) := by omega
      have hw := wr64 (n := (i : Int) + 1) (by omega) (by omega)
      have hln : lin l (i : Int) = true := by rw [lin_dec]; exact decide_eq_true ⟨by omega, by omega⟩
      have hg : l[Int.toNat (i : Int)]? = some l[i] := by simp [hi]
      have hlen : ∀ q : List Int, (q.flatMap fun n => [n / 256 % 256, n % 256]).length = 2 * q.length := fun q => by
        induction q with
        | nil => rfl
        | cons x r ih => simp only [List.flatMap_cons, List.length_append, ih, List.length_cons, List.length_nil]; omega
      have hr : roomy 1 (((l.take i).flatMap fun n => [n / 256 % 256, n % 256]) ++ [l[i] / 256 % 256, l[i] % 256]) = true := roomy_few (by rw [List.length_append, hlen]; simp; omega)
      simp only [ipv4_put_own_L1, c, hln, hg, decide_true, if_true, Option.bind_some, wr8m, show (2 : Int) ^ 8 = 256 from rfl, fdiv_e (show (0 : Int) ≤ 256 by decide), hr, hw]
      rw [List.take_succ_eq_append_getElem hi, List.flatMap_append]
      simp) (by simp [ipv4_put_own_L1])
    simpa using this
  rw [e]; rfl
theorem ipB_num {p : Api_Packet} (h : ¬ BadI p) (hs : 0 ≤ p.src ∧ p.src < 4294967296) (hd : 0 ≤ p.dst ∧ p.dst < 4294967296) (hb : p.body.length ≤ 1480) :
    ([(bits_or .i64 17664 p.tos : Int), (wr_i64 (20 + (p.body.length : Int)) : Int), p.id, (0 : Int), (bits_or .i64 (wr_i64 (p.ttl * 2 ^ 8)) p.proto : Int), (0 : Int), (wr_i64 (Int.fdiv p.src (2 ^ 16)) : Int), (wr_i64 p.src : Int), (wr_i64 (Int.fdiv p.dst (2 ^ 16)) : Int), (wr_i64 p.dst : Int)] : List Int).flatMap (fun n => [n / 256 % 256, n % 256]) = ipA p ++ ([0, 0] ++ ipZ p) := by
  unfold BadI at h
  have e1 : bits_or .i64 17664 p.tos = 69 * 256 + p.tos := or_i64_b (a := 69) (by decide) (by decide) (by omega) (by omega)
  have e2 : bits_or .i64 (wr_i64 (p.ttl * 2 ^ 8)) p.proto = p.ttl * 256 + p.proto := by
    rw [show (2 : Int) ^ 8 = 256 from rfl, wr64 (by omega) (by omega)]
    exact or_i64_b (by omega) (by omega) (by omega) (by omega)
  rw [e1, e2, show (2 : Int) ^ 16 = 65536 from rfl, fdiv_e (by decide), fdiv_e (by decide), wr64 (n := 20 + (p.body.length : Int)) (by omega) (by omega), wr64 (n := p.src / 65536) (by omega) (by omega), wr64 (n := p.src) (by omega) (by omega), wr64 (n := p.dst / 65536) (by omega) (by omega), wr64 (n := p.dst) (by omega) (by omega)]
  simp only [List.flatMap_cons, List.flatMap_nil, List.append_nil, List.cons_append, List.nil_append, ipA, ipZ]
  have a1 : (69 * 256 + p.tos) / 256 % 256 = 69 := by omega
  have a2 : (69 * 256 + p.tos) % 256 = p.tos := by omega
  have a3 : (p.ttl * 256 + p.proto) / 256 % 256 = p.ttl := by omega
  have a4 : (p.ttl * 256 + p.proto) % 256 = p.proto := by omega
  have a5 : p.src / 65536 / 256 % 256 = p.src / 16777216 % 256 := by omega
  have a6 : p.dst / 65536 / 256 % 256 = p.dst / 16777216 % 256 := by omega
  rw [a1, a2, a3, a4, a5, a6]
  rfl
theorem ipA_bytes {p : Api_Packet} (h : ¬ BadI p) : BytesP (ipA p ++ ipZ p) := by
  unfold BadI at h
  intro x hx
  simp only [ipA, ipZ, List.mem_append, List.mem_cons, List.not_mem_nil, or_false] at hx
  omega
theorem ipA_bytes0 {p : Api_Packet} (h : ¬ BadI p) : BytesP (ipA p ++ ([0, 0] ++ ipZ p)) := by
  have := ipA_bytes h
  intro x hx
  simp only [List.mem_append, List.mem_cons, List.not_mem_nil, or_false] at hx
  rcases hx with hx | (rfl | rfl) | hx
  · exact this x (by simp [hx])
  · omega
  · omega
  · exact this x (by simp [hx])
theorem tot_zero {p : Api_Packet} : tot (ipA p ++ ([0, 0] ++ ipZ p)) = tot (ipA p ++ ipZ p) := by
  simp only [ipA, ipZ, List.cons_append, List.nil_append, tot]
  omega
theorem ipv4_Put_spec {p : Api_Packet} (hs : 0 ≤ p.src ∧ p.src < 4294967296) (hd : 0 ≤ p.dst ∧ p.dst < 4294967296) : ipv4_Put p = some (putI p) := by
  unfold ipv4_Put putI
  simp only [small_spec, Option.bind_some]
  by_cases c1 : 0 ≤ p.tos ∧ p.tos ≤ 255
  case neg => rw [if_pos (by simp; omega), if_pos (by unfold BadI; omega)]
  rw [if_neg (by simp; omega)]
  by_cases c2 : 0 ≤ p.ttl ∧ p.ttl ≤ 255
  case neg => rw [if_pos (by simp; omega), if_pos (by unfold BadI; omega)]
  rw [if_neg (by simp; omega)]
  by_cases c3 : 0 ≤ p.proto ∧ p.proto ≤ 255
  case neg => rw [if_pos (by simp; omega), if_pos (by unfold BadI; omega)]
  rw [if_neg (by simp; omega)]
  by_cases c4 : 0 ≤ p.id ∧ p.id ≤ 65535
  case neg => rw [if_pos (by simp; omega), if_pos (by unfold BadI; omega)]
  have hbad : ¬ BadI p := by unfold BadI; omega
  rw [if_neg (by simp; omega), if_neg hbad]
  by_cases c5 : (p.body.length : Int) > 1480
  · rw [if_pos (decide_eq_true c5), if_pos c5]
  rw [if_neg (by simpa using c5), if_neg c5, iput_spec (by simp), ipB_num hbad hs hd (by omega)]
  simp only [Option.bind_some, sum_Of]
  rw [sum_add_spec (k := 10) (ipA_bytes0 hbad) (by simp [ipA, ipZ]) (by decide), tot_zero]
  have hn := nrm_bnd (tot_bnd _ (ipA_bytes hbad)).1
  simp only [Option.bind_some]
  rw [wr64 (n := 65535 - nrm (tot (ipA p ++ ipZ p))) (by omega) (by omega), show (65535 - nrm (tot (ipA p ++ ipZ p))) = ipS p from rfl, show (2 : Int) ^ 8 = 256 from rfl, fdiv_e (by decide), wr8m, wr8m]
  have l10 : lin (ipA p ++ ([0, 0] ++ ipZ p)) 10 = true := by rw [lin_dec]; exact decide_eq_true ⟨by decide, by simp [ipA, ipZ]⟩
  have l11 : lin (List.set (ipA p ++ ([0, 0] ++ ipZ p)) (Int.toNat 10) (ipS p / 256 % 256)) 11 = true := by rw [lin_dec]; exact decide_eq_true ⟨by decide, by simp [ipA, ipZ]⟩
  rw [if_pos l10, show (ipA p ++ ([0, 0] ++ ipZ p))[Int.toNat 10]? = some 0 from rfl, Option.bind_some, if_pos l11,
    show (List.set (ipA p ++ ([0, 0] ++ ipZ p)) (Int.toNat 10) (ipS p / 256 % 256))[Int.toNat 11]? = some 0 from rfl, Option.bind_some]
  have es : List.set (List.set (ipA p ++ ([0, 0] ++ ipZ p)) (Int.toNat 10) (ipS p / 256 % 256)) (Int.toNat 11) (ipS p % 256) ++ p.body = ipB p := rfl
  rw [es, if_pos (roomy_few (by simp [ipB, ipA, ipZ]; omega))]
theorem bytes2 {n : Int} (h0 : 0 ≤ n) (h1 : n < 4294967296) : palingref07_bytes n 2 = some [n / 256 % 256, n % 256] := by
  unfold palingref07_bytes
  rw [if_pos (show mkok 1 2 2 = true from by decide)]
  have hw1 := wr64 (n := n / 256) (by omega) (by omega)
  have hw2 := wr64 (n := n / 256 / 256) (by omega) (by omega)
  have e : loopM (fun s : (List Int) × Int × Int => match s with | (l4, v5, v6) => palingref07_bytes_L1 2 l4 v5 v6) (List.replicate (Int.toNat 2) (0 : Int), n, 0) = some [n / 256 % 256, n % 256] :=
    loopM_trace (f := fun s : (List Int) × Int × Int => match s with | (l4, v5, v6) => palingref07_bytes_L1 2 l4 v5 v6) (r := [n / 256 % 256, n % 256]) (fun i => match i with
      | 0 => ([0, 0], n, 0)
      | 1 => ([0, n % 256], n / 256, 1)
      | _ => ([n / 256 % 256, n % 256], n / 256 / 256, 2)) 2 (by decide) (fun i hi => by
      match i, hi with
      | 0, _ => simp [palingref07_bytes_L1, wr64, lin_dec, inL, wr8m, Int.tdiv_eq_ediv_of_nonneg h0, Int.tmod_eq_emod_of_nonneg h0, hw1]
      | 1, _ => simp [palingref07_bytes_L1, wr64, lin_dec, inL, wr8m, Int.tdiv_eq_ediv_of_nonneg (show 0 ≤ n / 256 by omega), Int.tmod_eq_emod_of_nonneg (show 0 ≤ n / 256 by omega), hw2]) (by simp [palingref07_bytes_L1])
  rw [e]; rfl
theorem bytes4 {n : Int} (h0 : 0 ≤ n) (h1 : n < 4294967296) : palingref07_bytes n 4 = some [n / 16777216 % 256, n / 65536 % 256, n / 256 % 256, n % 256] := by
  unfold palingref07_bytes
  rw [if_pos (show mkok 1 4 4 = true from by decide)]
  have d2 : n / 256 / 256 = n / 65536 := by omega
  have d3 : n / 65536 / 256 = n / 16777216 := by omega
  have hw1 := wr64 (n := n / 256) (by omega) (by omega)
  have hw2 := wr64 (n := n / 65536) (by omega) (by omega)
  have hw3 := wr64 (n := n / 16777216) (by omega) (by omega)
  have hw4 := wr64 (n := n / 16777216 / 256) (by omega) (by omega)
  have e : loopM (fun s : (List Int) × Int × Int => match s with | (l4, v5, v6) => palingref07_bytes_L1 4 l4 v5 v6) (List.replicate (Int.toNat 4) (0 : Int), n, 0) = some [n / 16777216 % 256, n / 65536 % 256, n / 256 % 256, n % 256] :=
    loopM_trace (f := fun s : (List Int) × Int × Int => match s with | (l4, v5, v6) => palingref07_bytes_L1 4 l4 v5 v6) (r := [n / 16777216 % 256, n / 65536 % 256, n / 256 % 256, n % 256]) (fun i => match i with
      | 0 => ([0, 0, 0, 0], n, 0)
      | 1 => ([0, 0, 0, n % 256], n / 256, 1)
      | 2 => ([0, 0, n / 256 % 256, n % 256], n / 65536, 2)
      | 3 => ([0, n / 65536 % 256, n / 256 % 256, n % 256], n / 16777216, 3)
      | _ => ([n / 16777216 % 256, n / 65536 % 256, n / 256 % 256, n % 256], n / 16777216 / 256, 4)) 4 (by decide) (fun i hi => by
      match i, hi with
      | 0, _ => simp [palingref07_bytes_L1, wr64, lin_dec, inL, wr8m, Int.tdiv_eq_ediv_of_nonneg h0, Int.tmod_eq_emod_of_nonneg h0, hw1]
      | 1, _ => simp [palingref07_bytes_L1, wr64, lin_dec, inL, wr8m, Int.tdiv_eq_ediv_of_nonneg (show 0 ≤ n / 256 by omega), Int.tmod_eq_emod_of_nonneg (show 0 ≤ n / 256 by omega), d2, hw2]
      | 2, _ => simp [palingref07_bytes_L1, wr64, lin_dec, inL, wr8m, Int.tdiv_eq_ediv_of_nonneg (show 0 ≤ n / 65536 by omega), Int.tmod_eq_emod_of_nonneg (show 0 ≤ n / 65536 by omega), d3, hw3]
      | 3, _ => simp [palingref07_bytes_L1, wr64, lin_dec, inL, wr8m, Int.tdiv_eq_ediv_of_nonneg (show 0 ≤ n / 16777216 by omega), Int.tmod_eq_emod_of_nonneg (show 0 ≤ n / 16777216 by omega), hw4]) (by simp [palingref07_bytes_L1])
  rw [e]; rfl
theorem rIpv4_Put_spec {p : Api_Packet} (hs : 0 ≤ p.src ∧ p.src < 4294967296) (hd : 0 ≤ p.dst ∧ p.dst < 4294967296) : palingref07_Put p = some (putI p) := by
  unfold palingref07_Put putI
  simp only [rOut_spec, Option.bind_some]
  by_cases c1 : p.tos < 0 ∨ p.tos > 255
  · rw [if_pos (by simpa using c1), if_pos (by unfold BadI; omega)]
  rw [if_neg (by simpa using c1)]
  by_cases c2 : p.ttl < 0 ∨ p.ttl > 255
  · rw [if_pos (by simpa using c2), if_pos (by unfold BadI; omega)]
  rw [if_neg (by simpa using c2)]
  by_cases c3 : p.proto < 0 ∨ p.proto > 255
  · rw [if_pos (by simpa using c3), if_pos (by unfold BadI; omega)]
  rw [if_neg (by simpa using c3)]
  by_cases c4 : p.id < 0 ∨ p.id > 65535
  · rw [if_pos (by simpa using c4), if_pos (by unfold BadI; omega)]
  have hbad : ¬ BadI p := by unfold BadI; omega
  rw [if_neg (by simpa using c4), if_neg hbad]
  by_cases c5 : (p.body.length : Int) > 1480
  · rw [if_pos (decide_eq_true c5), if_pos c5]
  have hn := nrm_bnd (tot_bnd _ (ipA_bytes hbad)).1
  have hr : ∀ l : List Int, l.length ≤ 2000 → roomy 1 l = true := fun l h => roomy_few (by omega)
  have w1 : wr_u8 p.tos = p.tos := wr8 (by omega) (by omega)
  have w2 : wr_u8 p.ttl = p.ttl := wr8 (by omega) (by omega)
  have w3 : wr_u8 p.proto = p.proto := wr8 (by omega) (by omega)
  rw [if_neg (by simpa using c5), if_neg c5, wr64 (n := 20 + (p.body.length : Int)) (by omega) (by omega), bytes2 (n := 20 + (p.body.length : Int)) (by omega) (by omega), bytes2 (n := p.id) (by omega) (by omega),
    wr64 (n := p.src) (by omega) (by omega), wr64 (n := p.dst) (by omega) (by omega), bytes4 hs.1 hs.2, bytes4 hd.1 hd.2]
  simp only [Option.bind_some, w1, w2, w3]
  have ea : ([(69 : Int), p.tos] ++ [(20 + (p.body.length : Int)) / 256 % 256, (20 + (p.body.length : Int)) % 256] ++ [p.id / 256 % 256, p.id % 256] ++ [0, 0, p.ttl, p.proto]) = ipA p := rfl
  have ez : ([p.src / 16777216 % 256, p.src / 65536 % 256, p.src / 256 % 256, p.src % 256] ++ [p.dst / 16777216 % 256, p.dst / 65536 % 256, p.dst / 256 % 256, p.dst % 256] : List Int) = ipZ p := rfl
  rw [ea, ez]
  have hso : palingref06_Of (ipA p ++ ipZ p) = some (ipS p) := by
    unfold palingref06_Of
    rw [rSum_spec (k := 9) (ipA_bytes hbad) (by simp [ipA, ipZ]) (by decide), Option.bind_some, wr64 (by omega) (by omega)]
    rfl
  have hs2 : 0 ≤ ipS p ∧ ipS p < 4294967296 := by unfold ipS; omega
  rw [hso, Option.bind_some, bytes2 hs2.1 hs2.2, Option.bind_some]
  rw [if_pos (hr _ (by simp)), if_pos (hr _ (by simp)), if_pos (hr _ (by simp [ipA])), if_pos (hr _ (by simp [ipZ])), if_pos (hr _ (by simp [ipA, ipZ])), if_pos (hr _ (by simp [ipA])), if_pos (hr _ (by simp [ipA, ipZ])), if_pos (hr _ (by simp [ipA, ipZ]; omega))]
  simp [ipB]
end Go.Eng

set_option linter.unusedVariables false
set_option linter.unusedSectionVars false
set_option linter.unusedSimpArgs false
namespace Go.Eng
open Go Classical
attribute [local congr] ite_cg
noncomputable def pr2 (b : List Int) (o : Int) : Int := getI b o * 256 + getI b (o + 1)
noncomputable def pr4 (b : List Int) (o : Int) : Int := pr2 b o * 65536 + pr2 b (o + 2)
theorem pr2_bnd {b : List Int} (hB : BytesP b) {o : Int} (h0 : 0 ≤ o) (h1 : o + 1 < b.length) : 0 ≤ pr2 b o ∧ pr2 b o < 65536 := by
  obtain ⟨a1, a2⟩ := hB _ (getI_mem (l := b) (i := o) ⟨by omega, by omega⟩)
  obtain ⟨c1, c2⟩ := hB _ (getI_mem (l := b) (i := o + 1) ⟨by omega, by omega⟩)
  unfold pr2; omega
theorem pair_spec {b : List Int} (hB : BytesP b) {o : Int} (h0 : 0 ≤ o) (h1 : o + 1 < b.length) (hb : b.length ≤ 1000000) : ipv4_pair b o = some (pr2 b o) := by
  obtain ⟨a1, a2⟩ := hB _ (getI_mem (l := b) (i := o) ⟨by omega, by omega⟩)
  obtain ⟨c1, c2⟩ := hB _ (getI_mem (l := b) (i := o + 1) ⟨by omega, by omega⟩)
  unfold ipv4_pair pr2
  rw [nth_getI ⟨by omega, by omega⟩, Option.bind_some, wr64 (n := o + 1) (by omega) (by omega), nth_getI ⟨by omega, by omega⟩, Option.bind_some, or_i64_8 a1 a2 c1 c2]
theorem or_u32_16 {v x : Int} (h0 : 0 ≤ v) (h1 : v < 65536) (x0 : 0 ≤ x) (x1 : x < 65536) : bits_or .u32 (wr_u32 ((wr_u32 v) * 2 ^ 16)) (wr_u32 x) = v * 65536 + x := by
  rw [wr32 (n := v) (by omega) (by omega), wr32 (n := v * 2 ^ 16) (by omega) (by omega), wr32 (n := x) (by omega) (by omega)]
  have hv : Int.toNat (v * 2 ^ 16) = v.toNat * 65536 := by omega
  unfold bits_or
  rw [ofInt_nat _ _ (by omega), ofInt_nat _ _ x0, BitVec.toNat_or, BitVec.toNat_ofNat, BitVec.toNat_ofNat]
  simp only [IntKind.bits]
  have ho : v.toNat * 65536 ||| x.toNat = v.toNat * 65536 + x.toNat := by
    have := Nat.two_pow_add_eq_or_of_lt (i := 16) (b := x.toNat) (by omega) v.toNat
    rw [show v.toNat * 65536 = 2 ^ 16 * v.toNat from by omega, ← this]
  rw [Nat.mod_eq_of_lt (by omega), Nat.mod_eq_of_lt (by omega), hv, ho]
  have hw := wr32 (n := ((v.toNat * 65536 + x.toNat : Nat) : Int)) (by omega) (by omega)
  unfold wr_u32 at hw
  first | (rw [hw]; omega) | omega
theorem four_spec {b : List Int} (hB : BytesP b) {o : Int} (h0 : 0 ≤ o) (h1 : o + 3 < b.length) (hb : b.length ≤ 1000000) : ipv4_four b o = some (pr4 b o) := by
  unfold ipv4_four pr4
  have p1 := pr2_bnd hB (o := o) h0 (by omega)
  have p2 := pr2_bnd hB (o := o + 2) (by omega) (by omega)
  rw [pair_spec hB h0 (by omega) hb, Option.bind_some, wr64 (n := o + 2) (by omega) (by omega), pair_spec hB (by omega) (by omega) hb, Option.bind_some, or_u32_16 p1.1 p1.2 p2.1 p2.2]
theorem r07num {b : List Int} {o : Int} {k : Nat} (hB : BytesP b) (h0 : 0 ≤ o) (h1 : o + k ≤ b.length) (hk : k ≤ 4) (hb : b.length ≤ 1000000) : palingref07_number (List.drop o.toNat (List.take (o + k).toNat b)) = some (numB b o k) := by
  unfold palingref07_number
  have hlen : (List.drop o.toNat (List.take (o + k).toNat b)).length = k := by simp; omega
  have hget : ∀ i : Int, 0 ≤ i → i < k → getI (List.drop o.toNat (List.take (o + k).toNat b)) i = getI b (o + i) := fun i i0 i1 => by
    unfold getI
    rw [List.getElem?_drop, List.getElem?_take, if_pos (by omega), show o.toNat + i.toNat = (o + i).toNat from by omega]
  generalize List.drop o.toNat (List.take (o + k).toNat b) = q at *
  have := loopM_trace (f := fun s : Int × Int => match s with | (v2, v3) => palingref07_number_L1 q v2 v3) (fun i => (numB b o i, (i : Int))) k (r := numB b o k) (by omega) (fun i hi => by
    have hwi := wr64 (n := (i : Int) + 1) (by omega) (by omega)
    have hin : inL q (i : Int) := ⟨by omega, by omega⟩
    have hin2 : inL b (o + (i : Int)) := ⟨by omega, by omega⟩
    obtain ⟨c1, c2⟩ := hB _ (getI_mem hin2)
    obtain ⟨a1, a2⟩ := numB_lt hB h0 i (by omega)
    have hp : 256 ^ i ≤ 256 ^ 4 := Nat.pow_le_pow_right (by decide) (by omega)
    have c : (i : Int) < (q.length : Int) := by omega
    simp only [palingref07_number_L1, c, nth_getI hin, hget (i : Int) (by omega) (by omega), hwi, decide_true, if_true, Option.bind_some]
    rw [wr64 (n := numB b o i * 256) (by omega) (by omega), wr64 (n := getI b (o + (i : Int))) (by omega) (by omega), wr64 (by omega) (by omega)]
    simp [numB]) (by simp [palingref07_number_L1, hlen])
  have e : loopM (fun s : Int × Int => match s with | (v2, v3) => palingref07_number_L1 q v2 v3) (0, 0) = some (numB b o k) := this
  rw [e]
  rfl
theorem num2 {b : List Int} {o : Int} : numB b o 2 = pr2 b o := by simp [numB, pr2]
theorem num4 {b : List Int} {o : Int} : numB b o 4 = pr4 b o := by
  have e : o + 2 + 1 = o + 3 := by omega
  simp only [numB, pr4, pr2, e]
  simp; omega
noncomputable def takI (b : List Int) : List Int × Int × Int × Int × Int × Int × Int × Int :=
  if (b.length : Int) < 20 then ([], 0, 0, 0, 0, 0, 0, 10)
  else if getI b 0 ≠ 69 ∨ pr2 b 2 < 20 then ([], 0, 0, 0, 0, 0, 0, 11)
  else if pr2 b 2 > (b.length : Int) then ([], 0, 0, 0, 0, 0, 0, 10)
  else if pr2 b 6 ≠ 0 then ([], 0, 0, 0, 0, 0, 0, 11)
  else if nrm (tot (b.take 20)) ≠ 65535 then ([], 0, 0, 0, 0, 0, 0, 12)
  else ((b.take (pr2 b 2).toNat).drop 20, getI b 1, pr2 b 4, getI b 8, getI b 9, pr4 b 12, pr4 b 16, 0)
theorem ipv4_Take_spec {b : List Int} (hB : BytesP b) (hb : b.length ≤ 1000000) : ipv4_Take b = some (takI b) := by
  unfold ipv4_Take takI
  by_cases c1 : (b.length : Int) < 20
  · rw [if_pos (decide_eq_true c1), if_pos c1]
  rw [if_neg (by simpa using c1), if_neg c1]
  have p : ∀ o : Int, 0 ≤ o → o + 1 < 20 → ipv4_pair b o = some (pr2 b o) := fun o h0 h1 => pair_spec hB h0 (by omega) hb
  have hJ : ipv4_Take_J1 b = some (decide (getI b 0 ≠ 69 ∨ pr2 b 2 < 20)) := by
    unfold ipv4_Take_J1
    rw [nth_getI ⟨by omega, by omega⟩, Option.bind_some]
    by_cases c : getI b 0 = 69
    · rw [if_neg (by simpa using c), p 2 (by omega) (by omega), Option.bind_some]; simp [c]
    · rw [if_pos (by simpa using c)]; simp [c]
  rw [hJ]
  simp only [Option.bind_some, p 2 (by omega) (by omega), p 6 (by omega) (by omega), p 4 (by omega) (by omega)]
  by_cases c2 : getI b 0 ≠ 69 ∨ pr2 b 2 < 20
  · rw [if_pos (decide_eq_true c2), if_pos c2]
  rw [if_neg (by rw [decide_eq_true_eq]; exact c2), if_neg c2]
  by_cases c3 : pr2 b 2 > (b.length : Int)
  · rw [if_pos (decide_eq_true c3), if_pos c3]
  rw [if_neg (by simpa using c3), if_neg c3]
  by_cases c4 : pr2 b 6 = 0
  case neg => rw [if_pos (by simpa using c4), if_pos c4]
  rw [if_neg (by simpa using c4), if_neg (show ¬ pr2 b 6 ≠ 0 from by simpa using c4)]
  have hsl : slok b.length 0 20 = true := by rw [slok_dec]; exact decide_eq_true (by omega)
  have e20 : List.drop (Int.toNat 0) (List.take (Int.toNat 20) b) = b.take 20 := by simp
  rw [if_pos hsl, e20]
  unfold sum_Right
  rw [sum_add_spec (k := 10) (fun x hx => hB x (List.mem_of_mem_take hx)) (by simp; omega) (by decide)]
  simp only [Option.bind_some]
  by_cases c5 : nrm (tot (b.take 20)) = 65535
  case neg => rw [if_pos (by simpa using c5), if_pos c5]
  rw [if_neg (by simpa using c5), if_neg (show ¬ nrm (tot (b.take 20)) ≠ 65535 from by simpa using c5)]
  have p2 := pr2_bnd hB (o := 2) (by omega) (by omega)
  have i1 : inL b 1 := ⟨by omega, by omega⟩
  have i8 : inL b 8 := ⟨by omega, by omega⟩
  have i9 : inL b 9 := ⟨by omega, by omega⟩
  have b1 := hB _ (getI_mem i1)
  have b8 := hB _ (getI_mem i8)
  have b9 := hB _ (getI_mem i9)
  have hsl2 : slok b.length 20 (pr2 b 2) = true := by rw [slok_dec]; exact decide_eq_true (by omega)
  rw [nth_getI i1, Option.bind_some, nth_getI i8, Option.bind_some, nth_getI i9, Option.bind_some, four_spec hB (by omega) (by omega) hb, Option.bind_some, four_spec hB (by omega) (by omega) hb, Option.bind_some, if_pos hsl2]
  unfold slices_Clone_byte
  rw [if_pos (roomy_few (by simp; omega)), wr64 (n := getI b 1) (by omega) (by omega), wr64 (n := getI b 8) (by omega) (by omega), wr64 (n := getI b 9) (by omega) (by omega)]
  rfl
theorem rIpv4_Take_spec {b : List Int} (hB : BytesP b) (hb : b.length ≤ 1000000) : palingref07_Take b = some (takI b) := by
  unfold palingref07_Take takI
  by_cases c1 : (b.length : Int) < 20
  · rw [if_pos (decide_eq_true c1), if_pos c1]
  rw [if_neg (by simpa using c1), if_neg c1]
  have sl : ∀ x y : Int, 0 ≤ x → x ≤ y → y ≤ 20 → slok b.length x y = true := fun x y h0 h1 h2 => by rw [slok_dec]; exact decide_eq_true (by omega)
  have n2 : palingref07_number (List.drop (Int.toNat 2) (List.take (Int.toNat 4) b)) = some (pr2 b 2) := by rw [← num2]; exact r07num (o := 2) (k := 2) hB (by omega) (by omega) (by omega) hb
  have n6 : palingref07_number (List.drop (Int.toNat 6) (List.take (Int.toNat 8) b)) = some (pr2 b 6) := by rw [← num2]; exact r07num (o := 6) (k := 2) hB (by omega) (by omega) (by omega) hb
  have n4 : palingref07_number (List.drop (Int.toNat 4) (List.take (Int.toNat 6) b)) = some (pr2 b 4) := by rw [← num2]; exact r07num (o := 4) (k := 2) hB (by omega) (by omega) (by omega) hb
  have n12 : palingref07_number (List.drop (Int.toNat 12) (List.take (Int.toNat 16) b)) = some (pr4 b 12) := by rw [← num4]; exact r07num (o := 12) (k := 4) hB (by omega) (by omega) (by omega) hb
  have n16 : palingref07_number (List.drop (Int.toNat 16) (List.take (Int.toNat 20) b)) = some (pr4 b 16) := by rw [← num4]; exact r07num (o := 16) (k := 4) hB (by omega) (by omega) (by omega) hb
  have i0 : inL b 0 := ⟨by omega, by omega⟩
  rw [if_pos (sl 2 4 (by omega) (by omega) (by omega)), n2, Option.bind_some, nth_getI i0, Option.bind_some]
  by_cases c2 : getI b 0 = 69
  case neg => rw [if_pos (by simpa using c2), if_pos (.inl c2)]
  rw [if_neg (by simpa using c2)]
  by_cases c2' : pr2 b 2 < 20
  · rw [if_pos (decide_eq_true c2'), if_pos (.inr c2')]
  rw [if_neg (by simpa using c2'), if_neg (c := getI b 0 ≠ 69 ∨ _) (by rintro (h | h) <;> contradiction)]
  by_cases c3 : pr2 b 2 > (b.length : Int)
  · rw [if_pos (decide_eq_true c3), if_pos c3]
  rw [if_neg (by simpa using c3), if_neg c3, if_pos (sl 6 8 (by omega) (by omega) (by omega)), n6, Option.bind_some]
  by_cases c4 : pr2 b 6 = 0
  case neg => rw [if_pos (by simpa using c4), if_pos c4]
  rw [if_neg (by simpa using c4), if_neg (show ¬ pr2 b 6 ≠ 0 from by simpa using c4), if_pos (sl 0 20 (by omega) (by omega) (by omega))]
  have e20 : List.drop (Int.toNat 0) (List.take (Int.toNat 20) b) = b.take 20 := by simp
  rw [e20]
  unfold palingref06_Right
  rw [rSum_spec (k := 10) (fun x hx => hB x (List.mem_of_mem_take hx)) (by simp; omega) (by decide)]
  simp only [Option.bind_some]
  by_cases c5 : nrm (tot (b.take 20)) = 65535
  case neg => rw [if_pos (by simpa using c5), if_pos c5]
  rw [if_neg (by simpa using c5), if_neg (show ¬ nrm (tot (b.take 20)) ≠ 65535 from by simpa using c5)]
  have p2 := pr2_bnd hB (o := 2) (by omega) (by omega)
  have p12 := pr2_bnd hB (o := 12) (by omega) (by omega)
  have p14 := pr2_bnd hB (o := 12 + 2) (by omega) (by omega)
  have p16 := pr2_bnd hB (o := 16) (by omega) (by omega)
  have p18 := pr2_bnd hB (o := 16 + 2) (by omega) (by omega)
  have i1 : inL b 1 := ⟨by omega, by omega⟩
  have i8 : inL b 8 := ⟨by omega, by omega⟩
  have i9 : inL b 9 := ⟨by omega, by omega⟩
  have b1 := hB _ (getI_mem i1)
  have b8 := hB _ (getI_mem i8)
  have b9 := hB _ (getI_mem i9)
  have hsl2 : slok b.length 20 (pr2 b 2) = true := by rw [slok_dec]; exact decide_eq_true (by omega)
  rw [nth_getI i1, Option.bind_some, if_pos (sl 4 6 (by omega) (by omega) (by omega)), n4, Option.bind_some, nth_getI i8, Option.bind_some, nth_getI i9, Option.bind_some, if_pos (sl 12 16 (by omega) (by omega) (by omega)), n12, Option.bind_some, if_pos (sl 16 20 (by omega) (by omega) (by omega)), n16, Option.bind_some, if_pos hsl2, if_pos (roomy_few (by simp; omega)),
    wr64 (n := getI b 1) (by omega) (by omega), wr64 (n := getI b 8) (by omega) (by omega), wr64 (n := getI b 9) (by omega) (by omega), wr32 (n := pr4 b 12) (by unfold pr4; omega) (by unfold pr4; omega), wr32 (n := pr4 b 16) (by unfold pr4; omega) (by unfold pr4; omega)]
  rfl
theorem takI_len {b : List Int} : (takI b).1.length ≤ b.length := by
  unfold takI
  repeat' split
  all_goals simp
  omega
end Go.Eng

set_option linter.unusedVariables false
set_option linter.unusedSectionVars false
set_option linter.unusedSimpArgs false
namespace Go.Eng
open Go Classical
attribute [local congr] ite_cg
theorem bytes_ok {b : List Int} (hb : okL (okI .u8) b) : BytesP b := fun x hx => by
  have := hb.2 x hx
  have h0 : 0 ≤ x := this.1
  have h1 : x ≤ 255 := this.2
  exact ⟨h0, by omega⟩
end Go.Eng

set_option linter.unusedVariables false
set_option linter.unusedSectionVars false
set_option linter.unusedSimpArgs false
namespace Go.Eng
open Go Classical
attribute [local congr] ite_cg
noncomputable def portX (a b : Int) : Int := 49152 + ((a.toNat ^^^ b.toNat) % 16384 : Nat)
theorem xor_u64 {a b : Int} (a0 : 0 ≤ a) (a1 : a < 18446744073709551616) (b0 : 0 ≤ b) (b1 : b < 18446744073709551616) : bits_xor .u64 a b = ((a.toNat ^^^ b.toNat : Nat) : Int) := by
  unfold bits_xor
  rw [ofInt_nat _ _ a0, ofInt_nat _ _ b0, BitVec.toNat_xor, BitVec.toNat_ofNat, BitVec.toNat_ofNat]
  simp only [IntKind.bits]
  rw [Nat.mod_eq_of_lt (by omega), Nat.mod_eq_of_lt (by omega)]
  have hx : a.toNat ^^^ b.toNat < 2 ^ 64 := Nat.xor_lt_two_pow (by omega) (by omega)
  have hw := wr64u (n := ((a.toNat ^^^ b.toNat : Nat) : Int)) (by omega) (by omega)
  unfold wr_u64 at hw
  exact hw
theorem udp_Port_spec {a b : Int} (a0 : 0 ≤ a) (a1 : a < 18446744073709551616) (b0 : 0 ≤ b) (b1 : b < 18446744073709551616) : udp_Port a b = some (portX a b) := by
  unfold udp_Port portX
  rw [xor_u64 a0 a1 b0 b1, Int.tmod_eq_emod_of_nonneg (by omega), wr64 (n := ((a.toNat ^^^ b.toNat : Nat) : Int) % 16384) (by omega) (by omega), wr64 (by omega) (by omega)]
  congr 1
theorem bit_step (A B i : Nat) : ((A / 2 ^ i) % 2 ≠ (B / 2 ^ i) % 2) ↔ (A ^^^ B).testBit i = true := by
  rw [Nat.testBit_xor, Nat.testBit_eq_decide_div_mod_eq, Nat.testBit_eq_decide_div_mod_eq]
  have h1 : A / 2 ^ i % 2 < 2 := Nat.mod_lt _ (by decide)
  have h2 : B / 2 ^ i % 2 < 2 := Nat.mod_lt _ (by decide)
  generalize A / 2 ^ i % 2 = x at *
  generalize B / 2 ^ i % 2 = y at *
  rcases (show x = 0 ∨ x = 1 by omega) with rfl | rfl <;> rcases (show y = 0 ∨ y = 1 by omega) with rfl | rfl <;> decide
theorem rPort_spec {a b : Int} (a0 : 0 ≤ a) (a1 : a < 18446744073709551616) (b0 : 0 ≤ b) (b1 : b < 18446744073709551616) : palingref08_Port a b = some (portX a b) := by
  unfold palingref08_Port
  obtain ⟨A, rfl⟩ : ∃ A : Nat, a = A := ⟨a.toNat, by omega⟩
  obtain ⟨B, rfl⟩ : ∃ B : Nat, b = B := ⟨b.toNat, by omega⟩
  have e : loopM (fun s : Int × Int × Int × Int × Int => match s with | (v3, v4, v5, v6, v7) => palingref08_Port_L1 v3 v4 v5 v6 v7) ((A : Int), (B : Int), 0, 1, 0) = some (((A ^^^ B) % 2 ^ 14 : Nat) : Int) := by
    have := loopM_trace (f := fun s : Int × Int × Int × Int × Int => match s with | (v3, v4, v5, v6, v7) => palingref08_Port_L1 v3 v4 v5 v6 v7) (r := (((A ^^^ B) % 2 ^ 14 : Nat) : Int)) (fun i => (((A / 2 ^ i : Nat) : Int), ((B / 2 ^ i : Nat) : Int), (((A ^^^ B) % 2 ^ i : Nat) : Int), ((2 ^ i : Nat) : Int), (i : Int))) 14 (by decide) (fun i hi => by
      have hA : A / 2 ^ i ≤ A := Nat.div_le_self _ _
      have hB : B / 2 ^ i ≤ B := Nat.div_le_self _ _
      have hp : 2 ^ i ≤ 2 ^ 14 := Nat.pow_le_pow_right (by decide) (by omega)
      have hp0 : 0 < 2 ^ i := Nat.two_pow_pos i
      have hm : (A ^^^ B) % 2 ^ i < 2 ^ i := Nat.mod_lt _ hp0
      have s1 := Nat.mod_pow_succ (x := A ^^^ B) (b := 2) (k := i)
      have dA : A / 2 ^ (i + 1) = A / 2 ^ i / 2 := by rw [Nat.pow_succ, Nat.div_div_eq_div_mul]
      have dB : B / 2 ^ (i + 1) = B / 2 ^ i / 2 := by rw [Nat.pow_succ, Nat.div_div_eq_div_mul]
      have c : (i : Int) < 14 := by omega
      have hb := bit_step A B i
      have p2 : 2 ^ (i + 1) = 2 * 2 ^ i := by rw [Nat.pow_succ, Nat.mul_comm]
      simp only [dA, dB]
      generalize A / 2 ^ i = X at *
      generalize B / 2 ^ i = Y at *
      have w1 := wr64u (n := (X : Int) / 2) (by omega) (by omega)
      have w2 := wr64u (n := (Y : Int) / 2) (by omega) (by omega)
      have w3 := wr64 (n := (i : Int) + 1) (by omega) (by omega)
      have w4 := wr64 (n := ((2 ^ i : Nat) : Int) * 2) (by omega) (by omega)
      have w5 := wr64 (n := (((A ^^^ B) % 2 ^ i : Nat) : Int) + ((2 ^ i : Nat) : Int)) (by omega) (by omega)
      simp only [palingref08_Port_L1, c, decide_true, if_true, Int.tdiv_eq_ediv_of_nonneg (Int.natCast_nonneg X), Int.tdiv_eq_ediv_of_nonneg (Int.natCast_nonneg Y), Int.tmod_eq_emod_of_nonneg (Int.natCast_nonneg X), Int.tmod_eq_emod_of_nonneg (Int.natCast_nonneg Y), w1, w2, w3, w4, w5]
      by_cases ht : (A ^^^ B).testBit i = true
      · have hne := hb.2 ht
        have hq : (A ^^^ B) / 2 ^ i % 2 = 1 := by rw [Nat.testBit_eq_decide_div_mod_eq] at ht; exact of_decide_eq_true ht
        rw [if_pos (by rw [bne_iff_ne]; omega), s1, hq, Nat.mul_one, p2]
        simp; omega
      · have hne : X % 2 = Y % 2 := by
          apply Classical.byContradiction; intro h; exact ht (hb.1 h)
        have hq : (A ^^^ B) / 2 ^ i % 2 = 0 := by
          rw [Nat.testBit_eq_decide_div_mod_eq] at ht
          have h3 : ¬ (A ^^^ B) / 2 ^ i % 2 = 1 := fun h => ht (decide_eq_true h)
          omega
        rw [if_neg (by rw [bne_iff_ne]; omega), s1, hq, Nat.mul_zero, Nat.add_zero, p2]
        simp; omega) (by simp [palingref08_Port_L1])
    simpa [Nat.mod_one] using this
  rw [e]
  simp only [Option.bind_some]
  rw [wr64 (by omega) (by omega)]
  rfl
noncomputable def wrapS (x y v : Int) (f : Api_Frame) : List Int × Int :=
  if f.type_ = 33024 then ([], 15)
  else if (putE f).2 ≠ 0 then ([], (putE f).2)
  else if (putV v).2 ≠ 0 then ([], (putV v).2)
  else if ((putE f).1.length : Int) > 1464 then ([], 14)
  else putE ⟨2199023255552 + y, 2199023255552 + x, 2048, (putI ⟨0, 0, 64, 17, x, y, (putU (portX f.dst f.src) 4789 ((putV v).1 ++ (putE f).1)).1⟩).1⟩
theorem host_or' {a : Int} (h0 : 0 ≤ a) (h1 : a < 4294967296) : bits_or .u64 2199023255552 (wr_u64 a) = 2199023255552 + a := by
  rw [wr64u h0 (by omega)]
  unfold bits_or
  rw [ofInt_nat _ _ (by decide), ofInt_nat _ _ h0, BitVec.toNat_or, BitVec.toNat_ofNat, BitVec.toNat_ofNat]
  simp only [IntKind.bits]
  rw [Nat.mod_eq_of_lt (by decide), Nat.mod_eq_of_lt (by omega)]
  have := Nat.two_pow_add_eq_or_of_lt (i := 32) (b := a.toNat) (by omega) 512
  have e : (2199023255552 : Int).toNat = 2 ^ 32 * 512 := by decide
  rw [e, ← this]
  have hw := wr64u (n := ((2 ^ 32 * 512 + a.toNat : Nat) : Int)) (by omega) (by omega)
  unfold wr_u64 at hw
  rw [hw]; omega
theorem hostM {a : Int} (h0 : 0 ≤ a) (h1 : a < 4294967296) : mac_Host a = some (2199023255552 + a) := by unfold mac_Host; rw [host_or' h0 h1]
theorem hostR {a : Int} (h0 : 0 ≤ a) (h1 : a < 4294967296) : palingref01_Host a = some (2199023255552 + a) := by
  unfold palingref01_Host
  rw [wr64u (n := a) h0 (by omega), wr64u (by omega) (by omega)]
theorem u64ok {x : Int} (h0 : 0 ≤ x) (h1 : x < 18446744073709551616) : okI .u64 x := by
  refine ⟨h0, ?_⟩
  have : x ≤ 18446744073709551615 := by omega
  exact this
theorem okU32 {x : Int} (h : okI .u32 x) : 0 ≤ x ∧ x < 4294967296 := ⟨h.1, by have : x ≤ 4294967295 := h.2; omega⟩
theorem putV_len {v : Int} (h : (putV v).2 = 0) : (putV v).1 = headB v ∧ 1 ≤ v ∧ v ≤ 16777215 := by
  unfold putV at *
  split at h
  · cases h
  rename_i c1
  rw [if_neg c1]
  exact ⟨rfl, by omega, by omega⟩
theorem headB_len {v : Int} : (headB v).length = 8 := rfl
theorem vxlan_Wrap_spec {x y v : Int} {f : Api_Frame} (hx : okI .u32 x) (hy : okI .u32 y) (hf : f.Ok) (hb : f.body.length ≤ 4000) : vxlan_Wrap x y v f = some (wrapS x y v f) := by
  unfold vxlan_Wrap wrapS tag_Is
  have hd := okU64 hf.1
  have hs := okU64 hf.2.1
  have hx := okU32 hx
  have hy := okU32 hy
  rw [Option.bind_some]
  by_cases c1 : f.type_ = 33024
  · rw [if_pos (by simpa using c1), if_pos c1]
  rw [if_neg (by simpa using c1), if_neg c1, ether_Put_spec, vxlan_Head_spec]
  simp only [Option.bind_some]
  by_cases c2 : (putE f).2 = 0
  case neg => rw [if_pos (by simpa using c2), if_pos c2]
  rw [if_neg (by simpa using c2), if_neg (show ¬ (putE f).2 ≠ 0 from by simpa using c2)]
  by_cases c3 : (putV v).2 = 0
  case neg => rw [if_pos (by simpa using c3), if_pos c3]
  rw [if_neg (by simpa using c3), if_neg (show ¬ (putV v).2 ≠ 0 from by simpa using c3)]
  by_cases c4 : ((putE f).1.length : Int) > 1464
  · rw [if_pos (decide_eq_true c4), if_pos c4]
  rw [if_neg (by simpa using c4), if_neg c4, udp_Port_spec hd.1 hd.2 hs.1 hs.2, Option.bind_some]
  rw [if_pos (roomy_few (by rw [(putV_len c3).1, List.length_append, headB_len]; omega)), udp_Put_spec]
  simp only [Option.bind_some]
  rw [ipv4_Put_spec hx hy, hostM hx.1 hx.2, hostM hy.1 hy.2]
  simp only [Option.bind_some]
  rw [ether_Put_spec]
  rfl
theorem rWrap_spec {x y v : Int} {f : Api_Frame} (hx : okI .u32 x) (hy : okI .u32 y) (hf : f.Ok) (hb : f.body.length ≤ 4000) : palingref09_Wrap x y v f = some (wrapS x y v f) := by
  unfold palingref09_Wrap wrapS
  have hd := okU64 hf.1
  have hs := okU64 hf.2.1
  have hx := okU32 hx
  have hy := okU32 hy
  by_cases c1 : f.type_ = 33024
  · rw [if_pos (by simpa using c1), if_pos c1]
  rw [if_neg (by simpa using c1), if_neg c1, rEther_Put_spec hf.1 hf.2.1, rHead_spec]
  simp only [Option.bind_some]
  by_cases c2 : (putE f).2 = 0
  case neg => rw [if_pos (by simpa using c2), if_pos c2]
  rw [if_neg (by simpa using c2), if_neg (show ¬ (putE f).2 ≠ 0 from by simpa using c2)]
  by_cases c3 : (putV v).2 = 0
  case neg => rw [if_pos (by simpa using c3), if_pos c3]
  rw [if_neg (by simpa using c3), if_neg (show ¬ (putV v).2 ≠ 0 from by simpa using c3)]
  by_cases c4 : ((putE f).1.length : Int) > 1464
  · rw [if_pos (decide_eq_true c4), if_pos c4]
  rw [if_neg (by simpa using c4), if_neg c4, rPort_spec hd.1 hd.2 hs.1 hs.2, Option.bind_some]
  rw [if_pos (roomy_few (by rw [(putV_len c3).1, List.length_append, headB_len]; omega)), rUdp_Put_spec]
  simp only [Option.bind_some]
  rw [rIpv4_Put_spec hx hy, hostR hx.1 hx.2, hostR hy.1 hy.2]
  simp only [Option.bind_some]
  rw [rEther_Put_spec (u64ok (by simp only; omega) (by simp only; omega)) (u64ok (by simp only; omega) (by simp only; omega))]
  rfl
end Go.Eng

set_option linter.unusedVariables false
set_option linter.unusedSectionVars false
set_option linter.unusedSimpArgs false
namespace Go.Eng
open Go Classical
attribute [local congr] ite_cg
theorem ipB_len {p : Api_Packet} : (ipB p).length = 20 + p.body.length := by simp [ipB, ipA, ipZ]; omega
theorem ipS_bnd {p : Api_Packet} (h : ¬ BadI p) : 0 ≤ ipS p ∧ ipS p ≤ 65535 := by
  have hn := nrm_bnd (tot_bnd _ (ipA_bytes h)).1
  unfold ipS; omega
theorem ipB_bytes {p : Api_Packet} (h : ¬ BadI p) (hb : BytesP p.body) : BytesP (ipB p) := by
  have := ipA_bytes h
  intro x hx
  simp only [ipB, List.mem_append, List.mem_cons, List.not_mem_nil, or_false] at hx
  rcases hx with hx | (rfl | rfl) | hx | hx
  · exact this x (by simp [hx])
  · omega
  · omega
  · exact this x (by simp [hx])
  · exact hb x hx
theorem ipB_take {p : Api_Packet} : (ipB p).take 20 = ipA p ++ ([ipS p / 256 % 256, ipS p % 256] ++ ipZ p) := rfl
theorem tot_pos {p : Api_Packet} (h : ¬ BadI p) : 0 < tot (ipA p ++ ipZ p) := by
  have hb := tot_bnd ((ipA p ++ ipZ p).drop 2) (fun x hx => ipA_bytes h x (List.mem_of_mem_drop hx))
  have e : tot (ipA p ++ ipZ p) = 69 * 256 + p.tos + tot ((ipA p ++ ipZ p).drop 2) := rfl
  unfold BadI at h
  omega
theorem ipB_sum {p : Api_Packet} (h : ¬ BadI p) : 0 < tot ((ipB p).take 20) ∧ tot ((ipB p).take 20) % 65535 = 0 := by
  have hs := ipS_bnd h
  have hp := tot_pos h
  have e : tot ((ipB p).take 20) = tot (ipA p ++ ipZ p) + (ipS p / 256 % 256 * 256 + ipS p % 256) := by
    rw [ipB_take]
    simp only [ipA, ipZ, List.cons_append, List.nil_append, tot]
    omega
  have e2 : ipS p / 256 % 256 * 256 + ipS p % 256 = ipS p := by omega
  rw [e, e2]
  unfold ipS nrm
  rw [if_neg (by omega)]
  omega
theorem nrm_full {t : Int} (h0 : 0 ≤ t) : nrm t = 65535 ↔ 0 < t ∧ t % 65535 = 0 := by
  unfold nrm
  split <;> omega
theorem tot_set : ∀ (l : List Int) (i : Nat) (y : Int), i < l.length → tot (l.set i y) = tot l + (y - getI l (i : Int)) * (if i % 2 = 0 then 256 else 1)
  | [], i, y, h => by simp at h
  | [x], 0, y, _ => by simp [tot, getI]; omega
  | [x], i + 1, y, h => by simp at h
  | x :: z :: r, 0, y, _ => by simp [tot, getI]; omega
  | x :: z :: r, 1, y, _ => by simp [tot, getI]; omega
  | x :: z :: r, i + 2, y, h => by
    have ih := tot_set r i y (by simp at h; omega)
    have e : getI (x :: z :: r) ((i + 2 : Nat) : Int) = getI r (i : Int) := by
      unfold getI
      rw [show ((i + 2 : Nat) : Int).toNat = (i : Int).toNat + 2 from by omega]
      rfl
    have e2 : (i + 2) % 2 = i % 2 := by omega
    rw [e, e2]
    simp only [List.set_cons_succ, tot, ih]
    omega
theorem turned {p : Api_Packet} (h : ¬ BadI p) (hb : BytesP p.body) {i : Nat} {y : Int} (hi : i < 20) (y0 : 0 ≤ y) (y1 : y < 256) (hne : y ≠ getI (ipB p) (i : Int)) : (takI ((ipB p).set i y)).2.2.2.2.2.2.2 ≠ 0 := by
  have hB := ipB_bytes h hb
  have hl := ipB_len (p := p)
  obtain ⟨s0, s1⟩ := ipB_sum h
  have hg : getI ((ipB p).take 20) (i : Int) = getI (ipB p) (i : Int) := by
    unfold getI
    rw [List.getElem?_take, if_pos (by omega)]
  have ht := tot_set ((ipB p).take 20) i y (by simp; omega)
  have hx := hB _ (getI_mem (l := ipB p) (i := (i : Int)) ⟨by omega, by omega⟩)
  have hset : ((ipB p).set i y).take 20 = ((ipB p).take 20).set i y := by rw [List.take_set]
  have hB2 : BytesP ((ipB p).set i y) := fun x hx => by
    rcases List.mem_or_eq_of_mem_set hx with h | h
    · exact hB x h
    · rw [h]; exact ⟨y0, y1⟩
  have hb0 := tot_bnd (((ipB p).set i y).take 20) (fun x hx => hB2 x (List.mem_of_mem_take hx))
  have hn : nrm (tot (((ipB p).set i y).take 20)) ≠ 65535 := by
    rw [Ne, nrm_full hb0.1, hset, ht, hg]
    generalize getI (ipB p) (i : Int) = x at *
    generalize tot ((ipB p).take 20) = T at *
    split <;> omega
  unfold takI
  split
  · decide
  split
  · decide
  split
  · decide
  split
  · decide
  · first | decide | (rw [if_pos hn]; decide)
end Go.Eng

set_option linter.unusedVariables false
set_option linter.unusedSectionVars false
set_option linter.unusedSimpArgs false
namespace Go.Eng
open Go Classical
attribute [local congr] ite_cg
section
variable {n : Api_Net}
end
end Go.Eng


set_option linter.unusedVariables false
set_option linter.unusedSectionVars false
set_option linter.unusedSimpArgs false
namespace Go.Eng
open Go Classical
attribute [local congr] ite_cg
section
variable {n : Api_Net}
theorem copied {b : List Int} (h : 14 ≤ b.length) : List.take 0 (List.replicate (Int.toNat ((b.length : Int) - 14)) (0 : Int)) ++ (List.take (min (List.length (List.drop (Int.toNat 14) (List.take (Int.toNat ((List.length b) : Int)) b))) ((List.length (List.replicate (Int.toNat ((b.length : Int) - 14)) (0 : Int))) - 0)) (List.drop (Int.toNat 14) (List.take (Int.toNat ((List.length b) : Int)) b)) ++ List.drop (0 + (min (List.length (List.drop (Int.toNat 14) (List.take (Int.toNat ((List.length b) : Int)) b))) ((List.length (List.replicate (Int.toNat ((b.length : Int) - 14)) (0 : Int))) - 0))) (List.replicate (Int.toNat ((b.length : Int) - 14)) (0 : Int))) = b.drop 14 := by
  have e1 : List.take (Int.toNat ((List.length b) : Int)) b = b := by simp
  have e2 : Int.toNat ((b.length : Int) - 14) = b.length - 14 := by omega
  have e3 : Int.toNat 14 = 14 := rfl
  rw [e1, e2, e3]
  have e4 : (b.drop 14).length = b.length - 14 := by simp
  have e5 : List.drop (b.length - 14) (List.replicate (b.length - 14) (0 : Int)) = [] := by simp
  have e6 : List.take (b.length - 14) (b.drop 14) = b.drop 14 := List.take_of_length_le (by omega)
  rw [e4, List.length_replicate, Nat.sub_zero, Nat.min_self, Nat.zero_add, List.take_zero, List.nil_append, e5, e6, List.append_nil]
end
end Go.Eng

set_option linter.unusedVariables false
set_option linter.unusedSectionVars false
set_option linter.unusedSimpArgs false
namespace Go.Eng
open Go Classical
attribute [local congr] ite_cg
section
variable {n : Api_Net}
theorem or_zero_i64 {v : Int} (h0 : 0 ≤ v) (h1 : v < 1152921504606846976) : bits_or .i64 0 v = v := by
  unfold bits_or
  rw [ofInt_nat _ _ (by decide), ofInt_nat _ _ h0, BitVec.toNat_or, BitVec.toNat_ofNat, BitVec.toNat_ofNat]
  simp only [IntKind.bits]
  rw [Nat.mod_eq_of_lt (by decide), Nat.mod_eq_of_lt (by omega), show (0 : Int).toNat = 0 from rfl, Nat.zero_or]
  have hw := wr64 (n := ((v.toNat : Nat) : Int)) (by omega) (by omega)
  unfold wr_i64 at hw
  rw [hw]; omega
noncomputable def tagS (f : Api_Frame) (v : Int) : List Int × Int × Int × Int × Int :=
  if f.type_ = 33024 ∨ v < 0 ∨ v > 4094 then ([], 0, 0, 0, 15)
  else if f.type_ < 0 ∨ f.type_ > 65535 then ([], 0, 0, 0, 11)
  else if (f.body.length : Int) > 1500 then ([], 0, 0, 0, 14)
  else ([v / 256 % 256, v % 256, f.type_ / 256 % 256, f.type_ % 256] ++ f.body, f.dst, f.src, 33024, 0)
theorem tag_Add_spec {f : Api_Frame} {v : Int} : tag_Add f v 0 = some (tagS f v) := by
  have hJ : tag_Add_J1 f v 0 = some (decide (f.type_ = 33024 ∨ v < 0 ∨ v > 4094)) := by
    unfold tag_Add_J1 tag_Is
    rw [Option.bind_some]
    by_cases c1 : f.type_ = 33024
    · rw [if_pos (by simpa using c1)]; simp [c1]
    rw [if_neg (by simpa using c1)]
    by_cases c2 : v < 0
    · rw [if_pos (decide_eq_true c2)]; simp [c2]
    rw [if_neg (by simpa using c2)]
    by_cases c3 : v > 4094
    · rw [if_pos (decide_eq_true c3)]; simp [c3]
    rw [if_neg (by simpa using c3)]
    simp [c1]; omega
  have hJ2 : tag_Add_J2 f v 0 = some (decide (f.type_ < 0 ∨ f.type_ > 65535)) := by
    unfold tag_Add_J2
    by_cases c : f.type_ < 0
    · rw [if_pos (decide_eq_true c)]; simp [c]
    · rw [if_neg (by simpa using c)]; simp [c]
  unfold tag_Add tagS
  rw [hJ, hJ2]
  simp only [Option.bind_some]
  by_cases c1 : f.type_ = 33024 ∨ v < 0 ∨ v > 4094
  · rw [if_pos (decide_eq_true c1), if_pos c1]
  rw [if_neg (by rw [decide_eq_true_eq]; exact c1), if_neg c1]
  by_cases c2 : f.type_ < 0 ∨ f.type_ > 65535
  · rw [if_pos (decide_eq_true c2), if_pos c2]
  rw [if_neg (by rw [decide_eq_true_eq]; exact c2), if_neg c2]
  by_cases c3 : (f.body.length : Int) > 1500
  · rw [if_pos (decide_eq_true c3), if_pos c3]
  have hb : bits_or .i64 (wr_i64 (0 * 2 ^ 12)) v = v := by
    rw [show (0 : Int) * 2 ^ 12 = 0 from rfl, wr64 (by omega) (by omega)]
    exact or_zero_i64 (by omega) (by omega)
  rw [if_neg (by simpa using c3), if_neg c3, hb, show (2 : Int) ^ 8 = 256 from rfl, fdiv_e (by decide), fdiv_e (by decide), wr8m, wr8m, wr8m, wr8m, if_pos (roomy_few (by simp; omega))]
theorem rTag_Add_spec {f : Api_Frame} {v : Int} : palingref05_Add f v 0 = some (tagS f v) := by
  unfold palingref05_Add tagS
  by_cases c1 : f.type_ = 33024
  · rw [if_pos (by simpa using c1), if_pos (.inl c1)]
  rw [if_neg (by simpa using c1)]
  by_cases c2 : v < 0
  · rw [if_pos (decide_eq_true c2), if_pos (.inr (.inl c2))]
  rw [if_neg (by simpa using c2)]
  by_cases c3 : v > 4094
  · rw [if_pos (by simp; omega), if_pos (.inr (.inr c3))]
  rw [if_neg (by simp; omega), if_neg (by decide), if_neg (by decide), if_neg (c := f.type_ = 33024 ∨ _) (by rintro (h | h | h) <;> contradiction)]
  by_cases c4 : f.type_ < 0
  · rw [if_pos (decide_eq_true c4), if_pos (.inl c4)]
  rw [if_neg (by simpa using c4)]
  by_cases c5 : f.type_ > 65535
  · rw [if_pos (by simp; omega), if_pos (.inr c5)]
  rw [if_neg (by simp; omega), if_neg (c := f.type_ < 0 ∨ _) (by rintro (h | h) <;> contradiction)]
  by_cases c6 : (f.body.length : Int) > 1500
  · rw [if_pos (decide_eq_true c6), if_pos c6]
  rw [if_neg (by simpa using c6), if_neg c6, show (0 : Int) * 4096 = 0 from rfl, wr64 (n := 0) (by omega) (by omega), Int.zero_add, wr64 (n := v) (by omega) (by omega), Int.tdiv_eq_ediv_of_nonneg (by omega), Int.tdiv_eq_ediv_of_nonneg (by omega), Int.tmod_eq_emod_of_nonneg (by omega), Int.tmod_eq_emod_of_nonneg (by omega),
    wr64 (by omega) (by omega), wr64 (by omega) (by omega), wr8m, wr8m, wr8m, wr8m, if_pos (roomy_few (by simp; omega))]
  have e1 : v % 256 % 256 = v % 256 := by omega
  have e2 : f.type_ % 256 % 256 = f.type_ % 256 := by omega
  rw [e1, e2]
theorem lplace_spec {α : Type} {l : List α} {i : Int} : leave_place i (l.length : Int) = some (decide (inL l i)) := by
  unfold leave_place inL
  by_cases c : i ≥ 0
  · rw [if_pos (decide_eq_true c)]; simp; omega
  · rw [if_neg (by simpa using c)]; simp; omega
noncomputable def atS (n : Api_Net) (p d : Int) (f : Api_Frame) : List Int × Int :=
  if ¬ (RightP n ∧ inL n.ports p ∧ inL n.domains d) then ([], 2)
  else if ¬ InDom n d (getI n.ports p) then ([], 16)
  else if f.type_ = 33024 then ([], 15)
  else if (getI n.domains d).vlan = (getI n.ports p).native then putE f
  else if (tagS f (getI n.domains d).vlan).2.2.2.2 ≠ 0 then ([], (tagS f (getI n.domains d).vlan).2.2.2.2)
  else putE ⟨(tagS f (getI n.domains d).vlan).2.1, (tagS f (getI n.domains d).vlan).2.2.1, (tagS f (getI n.domains d).vlan).2.2.2.1, (tagS f (getI n.domains d).vlan).1⟩
theorem leave_At_spec (hs : SmN n) {p d : Int} {f : Api_Frame} : leave_At n p d f = some (atS n p d f) := by
  unfold leave_At atS
  rw [lplace_spec, lplace_spec, names_Right_spec hs]
  simp only [Option.bind_some]
  by_cases hp : inL n.ports p
  case neg => rw [if_pos (by simpa using hp), if_pos (by simp [hp])]
  rw [if_neg (by simpa using hp)]
  by_cases hd : inL n.domains d
  case neg => rw [if_pos (by simpa using hd), if_pos (by simp [hd])]
  rw [if_neg (by simpa using hd)]
  by_cases hr : RightP n
  case neg => rw [if_pos (by simpa using hr), if_pos (by simp [hr])]
  rw [if_neg (by simpa using hr), if_neg (c := ¬ (RightP n ∧ _)) (by simp [hp, hd, hr]), nth_getI hp, Option.bind_some, nth_getI hd, Option.bind_some]
  have hJ : leave_At_J1 n f (getI n.ports p) (getI n.domains d) = some (decide (¬ InDom n d (getI n.ports p))) := by
    unfold leave_At_J1 InDom
    rw [Member_spec (hs.tagged _ (getI_mem hp))]
    by_cases c : (getI n.ports p).dev = (getI n.domains d).dev
    · rw [if_neg (by simpa using c)]; simp [c]
    · rw [if_pos (by simpa using c)]; simp [c]
  rw [hJ]
  simp only [Option.bind_some, tag_Is, leave_whole_bare, leave_whole_tagged, ether_Put_spec, tag_Add_spec]
  by_cases c1 : InDom n d (getI n.ports p)
  case neg => rw [if_pos (decide_eq_true c1), if_pos c1]
  rw [if_neg (by simpa using c1), if_neg (show ¬ ¬ InDom n d (getI n.ports p) from not_not.2 c1)]
  by_cases c2 : f.type_ = 33024
  · rw [if_pos (by simpa using c2), if_pos c2]
  rw [if_neg (by simpa using c2), if_neg c2]
  by_cases c3 : (getI n.domains d).vlan = (getI n.ports p).native
  · rw [if_pos (by simpa using c3), if_pos c3]
  rw [if_neg (by simpa using c3), if_neg c3]
  by_cases c4 : (tagS f (getI n.domains d).vlan).2.2.2.2 = 0
  case neg => rw [if_pos (by simpa using c4), if_pos c4]; rfl
  rw [if_neg (by simpa using c4), if_neg (show ¬ (tagS f (getI n.domains d).vlan).2.2.2.2 ≠ 0 from not_not.2 c4)]
  rfl
theorem tagS_ok {f : Api_Frame} {v : Int} (hf : f.Ok) : okI .u64 (tagS f v).2.1 ∧ okI .u64 (tagS f v).2.2.1 := by
  have z : okI .u64 0 := u64ok (by omega) (by omega)
  unfold tagS
  split
  · exact ⟨z, z⟩
  split
  · exact ⟨z, z⟩
  split
  · exact ⟨z, z⟩
  · exact ⟨hf.1, hf.2.1⟩
theorem rLeave_At_spec (hs : SmN n) {p d : Int} {f : Api_Frame} (hf : f.Ok) : palingref28_At n p d f = some (atS n p d f) := by
  unfold palingref28_At atS
  rw [rPlace_spec, rPlace_spec, rRight_spec hs]
  simp only [Option.bind_some]
  by_cases hr : RightP n
  case neg => rw [if_pos (by simpa using hr), if_pos (by simp [hr])]
  rw [if_neg (by simpa using hr)]
  by_cases hp : inL n.ports p
  case neg => rw [if_pos (by simpa using hp), if_pos (by simp [hp])]
  rw [if_neg (by simpa using hp)]
  by_cases hd : inL n.domains d
  case neg => rw [if_pos (by simpa using hd), if_pos (by simp [hd])]
  rw [if_neg (by simpa using hd), if_neg (c := ¬ (RightP n ∧ _)) (by simp [hp, hd, hr]), rMembers_spec hs, if_pos hd, Option.bind_some]
  have hl := membersL_len (n := n) (k := d)
  have hfp := hs.ports
  have hm : p ∈ membersL n d ↔ InDom n d (getI n.ports p) := by
    unfold membersL
    rw [mem_gatherI]
    constructor
    · rintro ⟨i, hi, h, rfl⟩; exact h
    · intro h; exact ⟨p, hp, h, rfl⟩
  simp only [rIn_spec (show Few (membersL n d) from by unfold Few at *; omega), Option.bind_some, hm, nth_getI hp, nth_getI hd, rEther_Put_spec hf.1 hf.2.1, rTag_Add_spec]
  by_cases c1 : InDom n d (getI n.ports p)
  case neg => rw [if_pos (by simpa using c1), if_pos c1]
  rw [if_neg (by simpa using c1), if_neg (show ¬ ¬ InDom n d (getI n.ports p) from not_not.2 c1)]
  by_cases c2 : f.type_ = 33024
  · rw [if_pos (by simpa using c2), if_pos c2]
  rw [if_neg (by simpa using c2), if_neg c2]
  by_cases c3 : (getI n.domains d).vlan = (getI n.ports p).native
  · rw [if_pos (by simpa using c3.symm), if_pos c3]
  rw [if_neg (by simpa using fun e => c3 e.symm), if_neg c3]
  have ho := tagS_ok (v := (getI n.domains d).vlan) hf
  by_cases c4 : (tagS f (getI n.domains d).vlan).2.2.2.2 = 0
  case neg => rw [if_pos (by simpa using c4), if_pos c4]
  rw [if_neg (by simpa using c4), if_neg (show ¬ (tagS f (getI n.domains d).vlan).2.2.2.2 ≠ 0 from not_not.2 c4), rEther_Put_spec ho.1 ho.2]
  rfl
end
end Go.Eng

set_option linter.unusedVariables false
set_option linter.unusedSectionVars false
set_option linter.unusedSimpArgs false
namespace Go.Eng
open Go Classical
attribute [local congr] ite_cg
section
variable {n : Api_Net}
end
end Go.Eng

set_option linter.unusedVariables false
set_option linter.unusedSectionVars false
set_option linter.unusedSimpArgs false
namespace Go.Eng
open Go Classical
attribute [local congr] ite_cg
section
variable {n : Api_Net}
noncomputable def vtI (n : Api_Net) (d : Int) : Int := (getI n.devices (getI n.domains d).dev).vtep
theorem vtep_spec (hr : RightP n) {d : Int} (hd : inL n.domains d) : leave_whole_vtep ⟨n⟩ d = some (vtI n d) := by
  have hb := (hr.bare d hd).1
  unfold leave_whole_vtep vtI
  simp only [nth_getI hd, nth_getI hb, Option.bind_some]
theorem rvtep_spec (hr : RightP n) {d : Int} (hd : inL n.domains d) : palingref28_vtep n d = some (vtI n d) := by
  have hb := (hr.bare d hd).1
  unfold palingref28_vtep vtI
  simp only [nth_getI hd, nth_getI hb, Option.bind_some]
theorem vtI_ok (hn : n.Ok) (hr : RightP n) {d : Int} (hd : inL n.domains d) : okI .u32 (vtI n d) := by
  have hb := (hr.bare d hd).1
  exact (hn.1.2 _ (getI_mem hb)).2.2.2.2.1
noncomputable def meshS (n : Api_Net) (d q : Int) (f : Api_Frame) : List Int × Int :=
  if ¬ (RightP n ∧ inL n.domains d ∧ inL n.domains q) then ([], 2)
  else if q ∉ (getI n.domains d).peers then ([], 17)
  else wrapS (vtI n d) (vtI n q) (getI n.domains d).vni f
theorem leave_Mesh_spec (hs : SmN n) (hn : n.Ok) {d q : Int} {f : Api_Frame} (hf : f.Ok) (hb : f.body.length ≤ 4000) : leave_Mesh n d q f = some (meshS n d q f) := by
  unfold leave_Mesh meshS
  rw [lplace_spec, lplace_spec, names_Right_spec hs]
  simp only [Option.bind_some]
  by_cases hq : inL n.domains q
  case neg => rw [if_pos (by simpa using hq), if_pos (by simp [hq])]
  rw [if_neg (by simpa using hq)]
  by_cases hd : inL n.domains d
  case neg => rw [if_pos (by simpa using hd), if_pos (by simp [hd])]
  rw [if_neg (by simpa using hd)]
  by_cases hr : RightP n
  case neg => rw [if_pos (by simpa using hr), if_pos (by simp [hr])]
  rw [if_neg (by simpa using hr), if_neg (c := ¬ (RightP n ∧ _)) (by simp [hq, hd, hr]), nth_getI hd]
  simp only [Option.bind_some, Contains_int_spec (hs.peers _ (getI_mem hd)), vtep_spec hr hd, vtep_spec hr hq]
  by_cases c : q ∈ (getI n.domains d).peers
  case neg => rw [if_pos (by simpa using c), if_pos c]
  rw [if_neg (by simpa using c), if_neg (show ¬ ¬ q ∈ (getI n.domains d).peers from not_not.2 c), vxlan_Wrap_spec (vtI_ok hn hr hd) (vtI_ok hn hr hq) hf hb]
  rfl
theorem rLeave_Mesh_spec (hs : SmN n) (hn : n.Ok) {d q : Int} {f : Api_Frame} (hf : f.Ok) (hb : f.body.length ≤ 4000) : palingref28_Mesh n d q f = some (meshS n d q f) := by
  unfold palingref28_Mesh meshS
  rw [rPlace_spec, rPlace_spec, rRight_spec hs]
  simp only [Option.bind_some]
  by_cases hr : RightP n
  case neg => rw [if_pos (by simpa using hr), if_pos (by simp [hr])]
  rw [if_neg (by simpa using hr)]
  by_cases hq : inL n.domains q
  case neg => rw [if_pos (by simpa using hq), if_pos (by simp [hq])]
  rw [if_neg (by simpa using hq)]
  by_cases hd : inL n.domains d
  case neg => rw [if_pos (by simpa using hd), if_pos (by simp [hd])]
  rw [if_neg (by simpa using hd), if_neg (c := ¬ (RightP n ∧ _)) (by simp [hq, hd, hr]), nth_getI hd]
  simp only [Option.bind_some, rIn_spec (hs.peers _ (getI_mem hd)), rvtep_spec hr hd, rvtep_spec hr hq]
  by_cases c : q ∈ (getI n.domains d).peers
  case neg => rw [if_pos (by simpa using c), if_pos c]
  rw [if_neg (by simpa using c), if_neg (show ¬ ¬ q ∈ (getI n.domains d).peers from not_not.2 c), rWrap_spec (vtI_ok hn hr hd) (vtI_ok hn hr hq) hf hb]
  rfl
end
end Go.Eng

set_option linter.unusedVariables false
set_option linter.unusedSectionVars false
set_option linter.unusedSimpArgs false
namespace Go.Eng
open Go Classical
attribute [local congr] ite_cg
section
variable {n : Api_Net}

end
end Go.Eng

set_option linter.unusedVariables false
set_option linter.unusedSectionVars false
set_option linter.unusedSimpArgs false
namespace Go.Eng
open Go Classical
attribute [local congr] ite_cg
section
variable {n : Api_Net}
/-! ### What is wrapped is unwrapped -/
/-! ### No twins -/
end
end Go.Eng

set_option linter.unusedVariables false
set_option linter.unusedSectionVars false
set_option linter.unusedSimpArgs false
namespace Go.Eng
open Go Classical
attribute [local congr] ite_cg

/-! ### Gathering that may stop -/
theorem gatherI_sorted {α : Type} [Inhabited α] {l : List α} {P : Int → α → Prop} : (gatherI l P (fun i _ => i)).Pairwise (· < ·) := by
  have key : ∀ (l : List α) (k : Nat), (((l.zipIdx k).filterMap fun q => if P q.2 q.1 then some (q.2 : Int) else none).Pairwise (· < ·)) ∧ ∀ x ∈ ((l.zipIdx k).filterMap fun q => if P q.2 q.1 then some (q.2 : Int) else none), (k : Int) ≤ x := by
    intro l
    induction l with
    | nil => intro k; simp
    | cons a l ih =>
      intro k
      obtain ⟨h1, h2⟩ := ih (k + 1)
      rw [List.zipIdx_cons, List.filterMap_cons]
      by_cases hp : P k a
      · simp only [hp, if_true]
        refine ⟨List.pairwise_cons.2 ⟨fun x hx => by have := h2 x hx; omega, h1⟩, fun x hx => ?_⟩
        rcases List.mem_cons.1 hx with rfl | hx
        · omega
        · have := h2 x hx; omega
      · simp only [hp, if_false]
        exact ⟨h1, fun x hx => by have := h2 x hx; omega⟩
  exact (key l 0).1

theorem loop_gatherx {α β : Type} [Inhabited α] {f : List β × Int → Option ((List β × Int) ⊕ (Unit ⊕ List β))} (l : List α) (X P : Int → α → Prop) (e : Int → α → β) (hb : Few l)
    (h1 : ∀ (i : Int) (s : List β), 0 ≤ i → i < l.length → inL l i → s.length ≤ i → f (s, i) = some (if X i (getI l i) then .inr (.inl ()) else .inl (if P i (getI l i) then s ++ [e i (getI l i)] else s, i + 1)))
    (h2 : ∀ s, f (s, l.length) = some (.inr (.inr s))) : loopM f ([], 0) = if ∃ i, inL l i ∧ X i (getI l i) then some (.inl ()) else some (.inr (gatherI l P e)) := by
  by_cases hx : ∃ i, inL l i ∧ X i (getI l i)
  · rw [if_pos hx]
    obtain ⟨i0, hi0, hX⟩ := hx
    obtain ⟨r, hr, hq⟩ := loopM_rule (f := f) (fun s => 0 ≤ s.2 ∧ s.2 ≤ i0 ∧ s.1.length ≤ s.2) (fun r => r = .inl ()) (fun s => (i0 - s.2).toNat) (s := ([], 0)) (fun s hs => by
      obtain ⟨s, i⟩ := s
      obtain ⟨g0, g1, g2⟩ := hs
      simp only at g0 g1 g2
      have h0 := hi0.1; have hl := hi0.2
      rw [h1 i s g0 (by omega) ⟨g0, by omega⟩ g2]
      by_cases hXi : X i (getI l i)
      · exact ⟨_, rfl, by simp [hXi]⟩
      · have hne : i ≠ i0 := fun e => hXi (e ▸ hX)
        refine ⟨_, rfl, ?_⟩
        rw [if_neg hXi]
        simp only
        refine ⟨⟨by omega, by omega, ?_⟩, by omega⟩
        split
        · simp; omega
        · omega) ⟨by simp, hi0.1, by simp⟩ (by simp; have := hi0.2; omega)
    rw [hr, hq]
  · rw [if_neg hx]
    exact loop_gather l P e (out := fun s => Sum.inr s) hb (fun i s a b c d => by rw [h1 i s a b c d, if_neg (fun h => hx ⟨i, c, h⟩)]) h2

/-! ### Prefixes -/
def kOf (p : Api_Prefix) : Nat := (32 - p.bits).toNat
def pw (k : Nat) : Int := ((2 ^ k : Nat) : Int)
def firstA (p : Api_Prefix) : Int := p.addr - p.addr % pw (kOf p)
def lastA (p : Api_Prefix) : Int := p.addr - p.addr % pw (kOf p) + (pw (kOf p) - 1)
structure PreOk (p : Api_Prefix) : Prop where
  b0 : 0 ≤ p.bits
  b1 : p.bits ≤ 32
  a0 : 0 ≤ p.addr
  a1 : p.addr < 4294967296
theorem pw_pos (k : Nat) : 0 < pw k := by unfold pw; have := Nat.two_pow_pos k; omega
theorem pw_le {k : Nat} (h : k ≤ 32) : pw k ≤ 4294967296 := by
  unfold pw
  have : 2 ^ k ≤ 2 ^ 32 := Nat.pow_le_pow_right (by decide) h
  omega
theorem kOf_le {p : Api_Prefix} (h : PreOk p) : kOf p ≤ 32 := by have := h.b0; unfold kOf; omega
theorem addr_rest_spec {p : Api_Prefix} (h : PreOk p) : addr_rest p = some (pw (kOf p) - 1) := by
  have h0 := h.b0; have h1 := h.b1
  unfold addr_rest
  rw [wr64 (by omega) (by omega)]
  simp only [show decide (0 ≤ 32 - p.bits) = true from decide_eq_true (by omega), if_true]
  have hk : min (32 - p.bits).toNat 32 = kOf p := by unfold kOf; omega
  rw [hk, Int.one_mul]
  have hp := pw_pos (kOf p)
  have hl := pw_le (kOf_le h)
  have e : ((2 : Int) ^ kOf p) = pw (kOf p) := by unfold pw; simp
  rw [e]
  congr 1
  by_cases hz : pw (kOf p) = 4294967296
  · rw [hz]; decide
  · have e1 : wr_u32 (pw (kOf p)) = pw (kOf p) := wr32 (by omega) (by omega)
    rw [e1, wr32 (by omega) (by omega)]
theorem addr_Right_spec {p : Api_Prefix} (h : PreOk p) : addr_Right p = some true := by
  have h0 := h.b0; have h1 := h.b1
  simp [addr_Right, h0, h1]
theorem first_le {p : Api_Prefix} (h : PreOk p) : 0 ≤ firstA p ∧ firstA p ≤ p.addr ∧ p.addr ≤ lastA p ∧ lastA p < 4294967296 := by
  have hp := pw_pos (kOf p)
  have hm := Int.emod_nonneg p.addr (by omega : pw (kOf p) ≠ 0)
  have hm2 := Int.emod_lt_of_pos p.addr hp
  have hd := Int.mul_ediv_add_emod p.addr (pw (kOf p))
  have a0 := h.a0; have a1 := h.a1
  refine ⟨?_, ?_, ?_, ?_⟩
  · unfold firstA
    have := Int.ediv_nonneg a0 (by omega : 0 ≤ pw (kOf p))
    have := Int.mul_nonneg (by omega : 0 ≤ pw (kOf p)) this
    omega
  · unfold firstA; omega
  · unfold lastA; omega
  · have := or_u32 (x := p.addr) (k := kOf p) a0 a1 (kOf_le h)
    have hw : bits_or .u32 p.addr ((2 ^ kOf p - 1 : Nat) : Int) < 4294967296 := by
      unfold bits_or IntKind.wrap
      simp [IntKind.signed, IntKind.bits]
      omega
    unfold lastA pw
    omega
def HasP (p : Api_Prefix) (a : Int) : Prop := firstA p ≤ a ∧ a ≤ lastA p
theorem hasP_div {p : Api_Prefix} {a : Int} : p.addr / pw (kOf p) = a / pw (kOf p) ↔ HasP p a := by
  have hp := pw_pos (kOf p)
  have hd := Int.mul_ediv_add_emod p.addr (pw (kOf p))
  have hd2 := Int.mul_ediv_add_emod a (pw (kOf p))
  have hm := Int.emod_nonneg a (by omega : pw (kOf p) ≠ 0)
  have hm2 := Int.emod_lt_of_pos a hp
  unfold HasP firstA lastA
  constructor
  · intro h; rw [← h] at hd2; omega
  · rintro ⟨h1, h2⟩
    have e1 : p.addr - p.addr % pw (kOf p) = pw (kOf p) * (p.addr / pw (kOf p)) := by omega
    rw [e1] at h1 h2
    have g1 : p.addr / pw (kOf p) ≤ a / pw (kOf p) := by
      rw [Int.le_ediv_iff_mul_le hp, Int.mul_comm]; exact h1
    have g2 : a / pw (kOf p) < p.addr / pw (kOf p) + 1 := by
      rw [Int.ediv_lt_iff_lt_mul hp, Int.add_mul, Int.mul_comm]; omega
    omega
theorem addr_Has_spec {p : Api_Prefix} {a : Int} (h : PreOk p) (h0 : 0 ≤ a) (h1 : a < 4294967296) : addr_Has p a = some (decide (HasP p a)) := by
  have := xorNot_u32 (x := p.addr) (y := a) (k := kOf p) h.a0 h.a1 h0 h1 (kOf_le h)
  have e : ((2 ^ kOf p - 1 : Nat) : Int) = pw (kOf p) - 1 := by unfold pw; have := Nat.two_pow_pos (kOf p); omega
  rw [e] at this
  simp only [addr_Has, addr_Right_spec h, addr_rest_spec h, Option.bind_some, if_true, ibeq]
  exact sdec (this.trans hasP_div)

/-! ### Leaks, and what an interface sees -/
section
variable {n : Api_Net}
def LeaksP (n : Api_Net) (a b : Int) : Prop := a = b ∨ (getI n.vrfs a).dev = (getI n.vrfs b).dev ∧ ∃ t ∈ (getI n.vrfs a).exports, t ∈ (getI n.vrfs b).imports
theorem vrfs_Leaks_spec (hs : SmN n) (hr : RightP n) {a b : Int} (ha : inL n.vrfs a) (hb : inL n.vrfs b) : vrfs_Leaks n a b = some (decide (LeaksP n a b)) := by
  have a0 : ¬ a < 0 := by have := ha.1; omega
  have b0 : ¬ b < 0 := by have := hb.1; omega
  have a1 : ¬ (n.vrfs.length : Int) ≤ a := by have := ha.2; omega
  have b1 : ¬ (n.vrfs.length : Int) ≤ b := by have := hb.2; omega
  have fi := hs.imports _ (getI_mem hb)
  have fe := hs.exports _ (getI_mem ha)
  have hc : slices_ContainsFunc_int_Leaks_1 (getI n.vrfs a).exports (getI n.vrfs b) = some (decide (∃ t ∈ (getI n.vrfs a).exports, t ∈ (getI n.vrfs b).imports)) := by
    unfold slices_ContainsFunc_int_Leaks_1 slices_IndexFunc_int_Leaks_1
    rw [loop_first (getI n.vrfs a).exports (fun t => t ∈ (getI n.vrfs b).imports) fe (fun i h0 h1 h2 => by
      simp (disch := omega) only [slices_IndexFunc_int_Leaks_1_L1, vrfs_Leaks_1, Contains_int_spec fi, h1, nth_getI h2, wr64, bind_ite, Option.bind_some, dif1, dif2, dif3, dif4, dif5, dif6, dif7, dnot, ibeq, ibne, decide_eq_true_eq, if_not2, ge_iff_le, gt_iff_lt, fst_ret, Bool.false_eq_true, decide_false, decide_true, if_true]
      exact fpos Iff.rfl) (by simp [slices_IndexFunc_int_Leaks_1_L1])]
    simp only [bind_ite, Option.bind_some, dif1, dif2, dif3, dif4, dif5, dif6, dif7, dnot, ibeq, ibne, decide_eq_true_eq, if_not2, ge_iff_le, gt_iff_lt, fst_ret, Bool.false_eq_true, decide_false]
    refine sdec ?_
    have := fstI_none_mem (l := (getI n.vrfs a).exports) (P := fun t => t ∈ (getI n.vrfs b).imports)
    constructor
    · intro h
      apply Classical.byContradiction
      intro hn
      have := this.2 (fun y hy e => hn ⟨y, hy, e⟩); omega
    · rintro ⟨t, h1, h2⟩
      apply Classical.byContradiction
      intro hn
      exact this.1 (by omega) t h1 h2
  simp only [vrfs_Leaks, a0, b0, a1, b1, names_Right_spec hs, hr, nth_getI ha, nth_getI hb, hc, bind_ite, Option.bind_some, dif1, dif2, dif3, dif4, dif5, dif6, dif7, dnot, ibeq, ibne, decide_eq_true_eq, if_not2, ge_iff_le, gt_iff_lt, fst_ret, Bool.false_eq_true, decide_false, decide_true, if_false, Bool.not_true]
  exact sdec (by unfold LeaksP; simp)

noncomputable def irbDev (n : Api_Net) (i : Int) : Int := (getI n.domains (getI n.irbs i).domain).dev
theorem RightP.irb (hr : RightP n) {i : Int} (hi : inL n.irbs i) : IrbP n i (getI n.irbs i) := hr.irbs i hi
theorem route_device_spec (hr : RightP n) {i : Int} (hi : inL n.irbs i) : route_device n i = some (irbDev n i) := by
  simp only [route_device, nth_getI hi, nth_getI (hr.irb hi).1, Option.bind_some]; rfl
def SeesP (n : Api_Net) (irb i : Int) : Prop := irbDev n irb = irbDev n i ∧ LeaksP n (getI n.irbs i).vrf (getI n.irbs irb).vrf
theorem route_sees_spec (hs : SmN n) (hr : RightP n) {irb i : Int} (h1 : inL n.irbs irb) (h2 : inL n.irbs i) : route_sees n irb i = some (decide (SeesP n irb i)) := by
  simp only [route_sees, route_device_spec hr h1, route_device_spec hr h2, nth_getI h1, nth_getI h2, vrfs_Leaks_spec hs hr (hr.irb h2).2.1 (hr.irb h1).2.1, bind_ite, Option.bind_some, dif1, dif2, dif3, dif4, dif5, dif6, dif7, dnot, ibeq, ibne, decide_eq_true_eq, if_not2, ge_iff_le, gt_iff_lt, fst_ret, Bool.false_eq_true, decide_false]
  exact sdec Iff.rfl

theorem irb_pre (ho : n.Ok) (hr : RightP n) {i : Int} (hi : inL n.irbs i) : PreOk (getI n.irbs i).net ∧ 1 ≤ (getI n.irbs i).net.bits ∧ (getI n.irbs i).net.bits ≤ 30 := by
  have h := (hr.irb hi).2.2.2.2
  have h2 : okI .u32 (getI n.irbs i).net.addr := (ho.2.2.2.2.2.2.2.1.2 _ (getI_mem hi)).2.2.2.1.1
  simp [okI, IntKind.min, IntKind.max, IntKind.signed, IntKind.bits] at h2
  exact ⟨⟨by omega, by omega, by omega, by omega⟩, h.1, h.2⟩

/-! ### Where an address is led -/
noncomputable def keyI (n : Api_Net) (irb i : Int) : Int := 2 * (getI n.irbs i).net.bits + if (getI n.irbs i).vrf = (getI n.irbs irb).vrf then 1 else 0
theorem lookup_2_spec {a b irb : Int} (hr : RightP n) (ha : inL n.irbs a) (hb : inL n.irbs b) (hi : inL n.irbs irb) : ∃ r, route_lookup_2 a b n n irb = some r ∧ (r > 0 ↔ keyI n irb b < keyI n irb a) := by
  have h1 := (hr.irb ha).2.2.2.2
  have h2 := (hr.irb hb).2.2.2.2
  simp only [route_lookup_2, route_lookup_1, nth_getI ha, nth_getI hb, nth_getI hi, bind_ite, Option.bind_some, dif1, dif2, dif3, dif4, dif5, dif6, dif7, dnot, ibeq, ibne, decide_eq_true_eq, if_not2, ge_iff_le, gt_iff_lt, fst_ret, Bool.false_eq_true, decide_false]
  by_cases hn : (getI n.irbs a).net.bits = (getI n.irbs b).net.bits
  · simp only [hn, ne_eq, not_true_eq_false, if_false, if_true]
    by_cases c1 : (getI n.irbs a).vrf = (getI n.irbs irb).vrf <;> by_cases c2 : (getI n.irbs b).vrf = (getI n.irbs irb).vrf <;> simp only [c1, c2, if_true, if_false, Option.bind_some] <;> refine ⟨_, rfl, ?_⟩ <;> rw [wr64 (by omega) (by omega)] <;> unfold keyI <;> simp [c1, c2, hn] <;> omega
  · simp only [hn, ne_eq, not_false_eq_true, if_true, if_false]
    refine ⟨_, rfl, ?_⟩
    rw [wr64 (by omega) (by omega)]
    unfold keyI
    split <;> split <;> omega

def BestP (key : Int → Int) (l : List Int) (m : Int) : Prop := ∃ k, inL l k ∧ getI l k = m ∧ ∀ j, inL l j → key (getI l j) ≤ key m ∧ (j < k → key (getI l j) < key m)
theorem MaxFunc_spec {l : List Int} {irb : Int} (hr : RightP n) (hl : Few l) (h0 : 0 < l.length) (hall : ∀ x ∈ l, inL n.irbs x) (hi : inL n.irbs irb) : ∃ m, slices_MaxFunc_int_lookup_2 l n n irb = some m ∧ BestP (keyI n irb) l m := by
  have hz : inL l 0 := ⟨by omega, by omega⟩
  have g0 : ¬ (l.length : Int) < 1 := by omega
  simp only [slices_MaxFunc_int_lookup_2, g0, nth_getI hz, bind_ite, Option.bind_some, dif1, dif2, dif3, dif4, dif5, dif6, dif7, dnot, ibeq, ibne, decide_eq_true_eq, if_not2, ge_iff_le, gt_iff_lt, fst_ret, Bool.false_eq_true, decide_false, if_false]
  obtain ⟨r, hr2, hq⟩ := loopM_rule (f := fun s : Int × Int => match s with | (v8, v9) => slices_MaxFunc_int_lookup_2_L1 l n n irb v8 v9)
    (fun s => 1 ≤ s.2 ∧ s.2 ≤ l.length ∧ ∃ k, inL l k ∧ k < s.2 ∧ getI l k = s.1 ∧ ∀ j, inL l j → j < s.2 → keyI n irb (getI l j) ≤ keyI n irb s.1 ∧ (j < k → keyI n irb (getI l j) < keyI n irb s.1))
    (fun m => BestP (keyI n irb) l m) (fun s => (l.length - s.2).toNat) (s := (getI l 0, 1)) (fun s hs => by
      obtain ⟨m, i⟩ := s
      obtain ⟨h1, h2, k, hk, hki, hm, hall2⟩ := hs
      simp only at h1 h2 hki hm hall2 ⊢
      by_cases hlt : i < l.length
      · have hii : inL l i := ⟨by omega, hlt⟩
        have hmI : inL n.irbs m := hm ▸ hall _ (getI_mem hk)
        obtain ⟨r, e1, e2⟩ := lookup_2_spec hr (hall _ (getI_mem hii)) hmI hi
        have hw := wr64 (n := i + 1) (by omega) (by omega)
        simp only [slices_MaxFunc_int_lookup_2_L1, hlt, nth_getI hii, e1, hw, bind_ite, Option.bind_some, dif1, dif2, dif3, dif4, dif5, dif6, dif7, dnot, ibeq, ibne, decide_eq_true_eq, if_not2, ge_iff_le, gt_iff_lt, fst_ret, Bool.false_eq_true, decide_false, decide_true, if_true]
        by_cases hg : keyI n irb m < keyI n irb (getI l i)
        · rw [if_pos (e2.2 hg)]
          refine ⟨_, rfl, ⟨by omega, by omega, i, hii, by omega, rfl, fun j hj hjl => ?_⟩, by omega⟩
          simp only at hjl ⊢
          by_cases hji : j = i
          · subst hji; exact ⟨Int.le_refl _, fun h => by omega⟩
          · have := (hall2 j hj (by omega)).1
            exact ⟨by omega, fun _ => by omega⟩
        · rw [if_neg (fun h => hg (e2.1 h))]
          refine ⟨_, rfl, ⟨by omega, by omega, k, hk, by omega, hm, fun j hj hjl => ?_⟩, by omega⟩
          simp only at hjl ⊢
          by_cases hji : j = i
          · subst hji; exact ⟨by omega, fun h => by omega⟩
          · exact hall2 j hj (by omega)
      · have : i = l.length := by omega
        subst this
        refine ⟨.inr m, by simp [slices_MaxFunc_int_lookup_2_L1], k, hk, hm, fun j hj => ?_⟩
        exact hall2 j hj hj.2) ⟨by simp, by simp; omega, 0, hz, by simp, rfl, fun j hj hjl => by
          simp only at hjl
          have : j = 0 := by have := hj.1; omega
          subst this; exact ⟨Int.le_refl _, fun h => by omega⟩⟩ (by simp only; unfold Few at hl; omega)
  exact ⟨r, by rw [hr2]; rfl, hq⟩

def OwnA (n : Api_Net) (irb x : Int) : Prop := ∃ i, inL n.irbs i ∧ (irbDev n i = irbDev n irb ∧ (getI n.irbs i).net.addr = x)
def CandP (n : Api_Net) (irb x i : Int) : Prop := HasP (getI n.irbs i).net x ∧ SeesP n irb i
structure LedP (n : Api_Net) (irb x m : Int) : Prop where
  own : ¬ OwnA n irb x
  im : inL n.irbs m
  cand : CandP n irb x m
  best : ∀ j, inL n.irbs j → CandP n irb x j → keyI n irb j ≤ keyI n irb m ∧ (j < m → keyI n irb j < keyI n irb m)
def NoLed (n : Api_Net) (irb x : Int) : Prop := OwnA n irb x ∨ ∀ j, inL n.irbs j → ¬ CandP n irb x j

theorem route_lookup_spec (ho : n.Ok) (hs : SmN n) (hr : RightP n) {irb x : Int} (hi : inL n.irbs irb) (x0 : 0 ≤ x) (x1 : x < 4294967296) :
    ∃ r, route_lookup n irb x = some r ∧ ((r = (0, false) ∧ NoLed n irb x) ∨ ∃ m, r = (m, true) ∧ LedP n irb x m) := by
  have hf := hs.irbs
  have hcand : ∀ y, y ∈ gatherI n.irbs (fun i _ => CandP n irb x i) (fun i _ => i) ↔ inL n.irbs y ∧ CandP n irb x y := by
    intro y
    rw [mem_gatherI]
    constructor
    · rintro ⟨i, h1, h2, rfl⟩; exact ⟨h1, h2⟩
    · rintro ⟨h1, h2⟩; exact ⟨y, h1, h2, rfl⟩
  unfold route_lookup
  rw [loop_gatherx n.irbs (fun i y => irbDev n i = irbDev n irb ∧ y.net.addr = x) (fun i _ => CandP n irb x i) (fun i _ => i) hf (fun i s h0 h1 h2 h3 => by
    have h5 : roomy 8 (s ++ [i]) = true := roomy_few (by simp; omega)
    have hP := (irb_pre ho hr h2).1
    simp (disch := omega) only [route_lookup_L1, route_lookup_J2, h1, nth_getI h2, route_device_spec hr h2, route_device_spec hr hi, addr_Has_spec hP x0 x1, route_sees_spec hs hr hi h2, h5, wr64, bind_ite, Option.bind_some, dif1, dif2, dif3, dif4, dif5, dif6, dif7, dnot, ibeq, ibne, decide_eq_true_eq, if_not2, ge_iff_le, gt_iff_lt, fst_ret, Bool.false_eq_true, decide_false, mrg1, mrg2, mrg3, mrg4, mrg5, mrg6, mrg7, decide_true, if_true]
    unfold CandP
    by_cases c1 : irbDev n i = irbDev n irb ∧ (getI n.irbs i).net.addr = x
    · simp [c1]
    · simp only [c1, if_false]
      by_cases c2 : HasP (getI n.irbs i).net x <;> by_cases c3 : SeesP n irb i <;> simp [c2, c3]) (fun s => by simp [route_lookup_L1])]
  by_cases hown : OwnA n irb x
  · have hown' : ∃ i, inL n.irbs i ∧ (irbDev n i = irbDev n irb ∧ (getI n.irbs i).net.addr = x) := hown
    rw [if_pos hown']
    exact ⟨_, rfl, .inl ⟨rfl, .inl hown⟩⟩
  · have hown' : ¬ ∃ i, inL n.irbs i ∧ (irbDev n i = irbDev n irb ∧ (getI n.irbs i).net.addr = x) := hown
    rw [if_neg hown']
    simp only [Option.bind_some, ibeq, decide_eq_true_eq]
    have hsort := gatherI_sorted (l := n.irbs) (P := fun i _ => CandP n irb x i)
    have hlen := gatherI_len (l := n.irbs) (P := fun i _ => CandP n irb x i) (e := fun i _ => i)
    generalize gatherI n.irbs (fun i _ => CandP n irb x i) (fun i _ => i) = l at *
    by_cases hl : (l.length : Int) = 0
    · rw [if_pos hl]
      refine ⟨_, rfl, .inl ⟨rfl, .inr fun j hj hc => ?_⟩⟩
      have := (hcand j).2 ⟨hj, hc⟩
      rw [List.eq_nil_of_length_eq_zero (by omega : l.length = 0)] at this
      cases this
    · rw [if_neg hl]
      obtain ⟨m, hm, k, hk, rfl, hbest⟩ := MaxFunc_spec (n := n) (irb := irb) hr (by unfold Few at hf ⊢; omega) (by omega) (fun y hy => ((hcand y).1 hy).1) hi
      rw [hm]
      have hmem := (hcand _).1 (getI_mem hk)
      refine ⟨_, rfl, .inr ⟨_, rfl, hown, hmem.1, hmem.2, fun j hj hc => ?_⟩⟩
      obtain ⟨q, hq, rfl⟩ := mem_getI ((hcand j).2 ⟨hj, hc⟩)
      refine ⟨(hbest q hq).1, fun hlt => (hbest q hq).2 ?_⟩
      apply Classical.byContradiction
      intro hn
      have hk0 := hk.1; have hq0 := hq.1; have hq1 := hq.2; have hk1 := hk.2
      by_cases e : q = k
      · subst e; omega
      · have := List.pairwise_iff_getElem.1 hsort k.toNat q.toNat (by omega) (by omega) (by omega)
        have e1 := (List.getElem?_eq_some_iff.1 (getI_get? hk)).2
        have e2 := (List.getElem?_eq_some_iff.1 (getI_get? hq)).2
        rw [e1, e2] at this
        omega

end
end Go.Eng

set_option linter.unusedVariables false
set_option linter.unusedSectionVars false
set_option linter.unusedSimpArgs false
namespace Go.Eng
open Go Classical
attribute [local congr] ite_cg

theorem r02Right_spec {p : Api_Prefix} (h : PreOk p) : palingref02_Right p = some true := by
  have := h.b0; have := h.b1
  simp only [palingref02_Right, bind_ite, Option.bind_some, dif1, dif2, dif3, dif4, dif5, dif6, dif7, dnot, ibeq, ibne, decide_eq_true_eq, if_not2, ge_iff_le, gt_iff_lt, fst_ret, Bool.false_eq_true, decide_false]
  rw [decide_eq_true ⟨by omega, by omega⟩]
theorem pw_succ (k : Nat) : pw (k + 1) = pw k * 2 := by unfold pw; rw [Nat.pow_succ]; simp
theorem r02size_spec {p : Api_Prefix} (h : PreOk p) : palingref02_size p = some (pw (kOf p)) := by
  have b0 := h.b0; have b1 := h.b1
  have hk := kOf_le h
  have hkb : (kOf p : Int) = 32 - p.bits := by unfold kOf; omega
  have := loopM_trace (f := fun s : Int × Int => match s with | (v2, v3) => palingref02_size_L1 v2 v3) (r := pw (kOf p)) (fun i => (pw i, p.bits + (i : Int))) (kOf p) (by omega) (fun i hi => by
    have h1 := pw_pos i
    have h2 := pw_le (k := i) (by omega)
    have e1 := wr64 (n := pw i * 2) (by omega) (by omega)
    have e2 := wr64 (n := p.bits + (i : Int) + 1) (by omega) (by omega)
    have hlt : p.bits + (i : Int) < 32 := by omega
    simp only [palingref02_size_L1, hlt, decide_true, if_true, e1, e2]
    rw [pw_succ]
    simp [Int.add_assoc]) (by
    have hn : ¬ p.bits + (kOf p : Int) < 32 := by omega
    simp [palingref02_size_L1, hn])
  have e0 : (pw 0, p.bits + ((0 : Nat) : Int)) = ((1 : Int), p.bits) := by simp [pw]
  rw [e0] at this
  simp only [palingref02_size, this, Option.bind_some]
theorem r02First_spec {p : Api_Prefix} (h : PreOk p) : palingref02_First p = some (firstA p) := by
  have h1 := first_le h
  have hp := pw_pos (kOf p)
  have hq := pw_le (kOf_le h)
  have ha0 := h.a0; have ha1 := h.a1
  have hd : p.addr / pw (kOf p) * pw (kOf p) = firstA p := by
    unfold firstA
    have := Int.emod_add_mul_ediv p.addr (pw (kOf p))
    rw [Int.mul_comm] at this
    omega
  have e1 := wr64 (n := p.addr) (by omega) (by omega)
  have hdiv : Int.tdiv p.addr (pw (kOf p)) = p.addr / pw (kOf p) := Int.tdiv_eq_ediv_of_nonneg (by omega)
  have hd0 : 0 ≤ p.addr / pw (kOf p) := Int.ediv_nonneg (by omega) (by omega)
  have hd1 : p.addr / pw (kOf p) ≤ p.addr := Int.ediv_le_self _ (by omega)
  have e2 := wr64 (n := p.addr / pw (kOf p)) (by omega) (by omega)
  have e3 := wr64 (n := firstA p) (by omega) (by omega)
  have e4 := wr32 (n := firstA p) (by omega) (by omega)
  have hne : ¬ pw (kOf p) = 0 := by omega
  simp only [palingref02_First, r02Right_spec h, r02size_spec h, bind_ite, Option.bind_some, dif1, dif2, dif3, dif4, dif5, dif6, dif7, dnot, ibeq, ibne, decide_eq_true_eq, if_not2, ge_iff_le, gt_iff_lt, fst_ret, Bool.false_eq_true, decide_false, Bool.not_true, hne, ne_eq, not_false_eq_true, if_true, e1, hdiv, e2, hd, e3, e4, if_false]
theorem r02Last_spec {p : Api_Prefix} (h : PreOk p) : palingref02_Last p = some (lastA p) := by
  have h1 := first_le h
  have hp := pw_pos (kOf p)
  have hq := pw_le (kOf_le h)
  have hl : lastA p = firstA p + (pw (kOf p) - 1) := rfl
  have e1 := wr64 (n := firstA p) (by omega) (by omega)
  have e2 := wr64 (n := firstA p + pw (kOf p)) (by omega) (by omega)
  have e3 := wr64 (n := firstA p + pw (kOf p) - 1) (by omega) (by omega)
  have e4 := wr32 (n := firstA p + pw (kOf p) - 1) (by omega) (by omega)
  simp only [palingref02_Last, r02Right_spec h, r02size_spec h, r02First_spec h, bind_ite, Option.bind_some, dif1, dif2, dif3, dif4, dif5, dif6, dif7, dnot, ibeq, ibne, decide_eq_true_eq, if_not2, ge_iff_le, gt_iff_lt, fst_ret, Bool.false_eq_true, decide_false, Bool.not_true, if_false, e1, e2, e3, e4]
  congr 1; omega
theorem r02Has_spec {p : Api_Prefix} {a : Int} (h : PreOk p) : palingref02_Has p a = some (decide (HasP p a)) := by
  simp only [palingref02_Has, r02Right_spec h, r02First_spec h, r02Last_spec h, bind_ite, Option.bind_some, dif1, dif2, dif3, dif4, dif5, dif6, dif7, dnot, ibeq, ibne, decide_eq_true_eq, if_not2, ge_iff_le, gt_iff_lt, fst_ret, Bool.false_eq_true, decide_false, if_true]
  exact sdec (by unfold HasP; simp)

section
variable {n : Api_Net}
theorem r30device_spec (hr : RightP n) {i : Int} (hi : inL n.irbs i) : palingref30_device n i = some (irbDev n i) := by
  simp only [palingref30_device, nth_getI hi, nth_getI (hr.irb hi).1, Option.bind_some]; rfl
theorem r20Leaks_spec (hs : SmN n) {a b : Int} (ha : inL n.vrfs a) (hb : inL n.vrfs b) : palingref20_Leaks n a b = some (decide (LeaksP n a b)) := by
  have fi := hs.imports _ (getI_mem hb)
  have fe := hs.exports _ (getI_mem ha)
  simp only [palingref20_Leaks, rPlace_spec, ha, hb, bind_ite, Option.bind_some, dif1, dif2, dif3, dif4, dif5, dif6, dif7, dnot, ibeq, ibne, decide_eq_true_eq, if_not2, ge_iff_le, gt_iff_lt, fst_ret, Bool.false_eq_true, decide_false, Bool.not_true, if_false, decide_true]
  rw [loop_each (f := palingref20_Leaks_L1 n a b) (getI n.vrfs a).exports (fun _ t => ¬ ((getI n.vrfs a).dev = (getI n.vrfs b).dev ∧ t ∈ (getI n.vrfs b).imports)) (.inl ()) (.inr ()) fe (fun i h0 h1 h2 => by
    simp (disch := omega) only [palingref20_Leaks_L1, nth_getI ha, nth_getI hb, h1, nth_getI h2, rIn_spec fi, wr64, bind_ite, Option.bind_some, dif1, dif2, dif3, dif4, dif5, dif6, dif7, dnot, ibeq, ibne, decide_eq_true_eq, if_not2, ge_iff_le, gt_iff_lt, fst_ret, Bool.false_eq_true, decide_false, mrg1, mrg2, mrg3, mrg4, mrg5, mrg6, mrg7, decide_true, if_true]
    by_cases c1 : (getI n.vrfs a).dev = (getI n.vrfs b).dev <;> by_cases c2 : getI (getI n.vrfs a).exports i ∈ (getI n.vrfs b).imports <;> simp [c1, c2]) (by simp [palingref20_Leaks_L1, nth_getI ha])]
  have hk : EachP (getI n.vrfs a).exports (fun _ t => ¬ ((getI n.vrfs a).dev = (getI n.vrfs b).dev ∧ t ∈ (getI n.vrfs b).imports)) ↔ ¬ ((getI n.vrfs a).dev = (getI n.vrfs b).dev ∧ ∃ t ∈ (getI n.vrfs a).exports, t ∈ (getI n.vrfs b).imports) := by
    rw [eachP_mem]
    constructor
    · rintro h ⟨h1, t, h2, h3⟩; exact h t h2 ⟨h1, h3⟩
    · rintro h t h2 ⟨h1, h3⟩; exact h ⟨h1, t, h2, h3⟩
  unfold LeaksP
  by_cases e : a = b
  · simp [e]
  · by_cases h : EachP (getI n.vrfs a).exports (fun _ t => ¬ ((getI n.vrfs a).dev = (getI n.vrfs b).dev ∧ t ∈ (getI n.vrfs b).imports))
    · rw [if_pos h]
      have := hk.1 h
      simp only [e, if_false, false_or, Option.bind_some, this, decide_false]
    · rw [if_neg h]
      have := Classical.not_not.1 (fun g => h (hk.2 g))
      simp only [e, if_false, false_or, Option.bind_some]
      rw [decide_eq_true this]

def BestTo (n : Api_Net) (irb x i m : Int) : Prop :=
  (m = -1 ∧ ∀ j, inL n.irbs j → j < i → ¬ CandP n irb x j) ∨
  (inL n.irbs m ∧ m < i ∧ CandP n irb x m ∧ ∀ j, inL n.irbs j → j < i → CandP n irb x j → keyI n irb j ≤ keyI n irb m ∧ (j < m → keyI n irb j < keyI n irb m))
theorem r30better_spec (hr : RightP n) {irb a b : Int} (hi : inL n.irbs irb) (ha : inL n.irbs a) (hb : inL n.irbs b) : palingref30_better n irb a b = some (decide (keyI n irb b < keyI n irb a)) := by
  simp only [palingref30_better, nth_getI hi, nth_getI ha, nth_getI hb, bind_ite, Option.bind_some, dif1, dif2, dif3, dif4, dif5, dif6, dif7, dnot, ibeq, ibne, decide_eq_true_eq, if_not2, ge_iff_le, gt_iff_lt, fst_ret, Bool.false_eq_true, decide_false]
  by_cases h : (getI n.irbs a).net.bits = (getI n.irbs b).net.bits
  · by_cases c1 : (getI n.irbs a).vrf = (getI n.irbs irb).vrf <;> by_cases c2 : (getI n.irbs b).vrf = (getI n.irbs irb).vrf <;> simp [c1, c2, keyI, h] <;> try omega
  · by_cases c1 : (getI n.irbs a).vrf = (getI n.irbs irb).vrf <;> by_cases c2 : (getI n.irbs b).vrf = (getI n.irbs irb).vrf <;> simp [c1, c2, keyI, h] <;> omega
theorem r30Lookup_spec (ho : n.Ok) (hs : SmN n) (hr : RightP n) {irb x : Int} (hi : inL n.irbs irb) :
    ∃ r, palingref30_Lookup n irb x = some r ∧ ((r = (0, false) ∧ NoLed n irb x) ∨ ∃ m, r = (m, true) ∧ LedP n irb x m) := by
  have hf := hs.irbs
  obtain ⟨q, h1, h2⟩ := loopM_rule (f := fun s : Int × Int => match s with | (v7, v8) => palingref30_Lookup_L1 n irb x v7 v8)
    (fun s => 0 ≤ s.2 ∧ s.2 ≤ n.irbs.length ∧ BestTo n irb x s.2 s.1 ∧ ∀ j, inL n.irbs j → j < s.2 → ¬ (irbDev n j = irbDev n irb ∧ (getI n.irbs j).net.addr = x))
    (fun r => match r with | .inl _ => OwnA n irb x | .inr m => BestTo n irb x n.irbs.length m ∧ ¬ OwnA n irb x) (fun s => (n.irbs.length - s.2).toNat) (s := (-1, 0)) (fun s hI => by
      obtain ⟨m, i⟩ := s
      obtain ⟨h0, h1, hb, hn⟩ := hI
      simp only at h0 h1 hb hn ⊢
      by_cases hlt : i < n.irbs.length
      · have hii : inL n.irbs i := ⟨h0, hlt⟩
        have hP := (irb_pre ho hr hii).1
        have hw := wr64 (n := i + 1) (by omega) (by unfold Few at hf; omega)
        have skip : ¬ CandP n irb x i → BestTo n irb x (i + 1) m := fun hc => by
          rcases hb with ⟨e, h⟩ | ⟨a1, a2, a3, a4⟩
          · exact .inl ⟨e, fun j hj hji => by by_cases e : j = i; subst e; exact hc; exact h j hj (by omega)⟩
          · exact .inr ⟨a1, by omega, a3, fun j hj hji hc' => by by_cases e : j = i; subst e; exact absurd hc' hc; exact a4 j hj (by omega) hc'⟩
        have own1 : ¬ (irbDev n i = irbDev n irb ∧ (getI n.irbs i).net.addr = x) → ∀ j, inL n.irbs j → j < i + 1 → ¬ (irbDev n j = irbDev n irb ∧ (getI n.irbs j).net.addr = x) := fun h j hj hji => by
          by_cases e : j = i; subst e; exact h; exact hn j hj (by omega)
        simp only [palingref30_Lookup_L1, hlt, nth_getI hii, nth_getI hi, r30device_spec hr hii, r30device_spec hr hi, r02Has_spec hP, r20Leaks_spec hs (hr.irb hii).2.1 (hr.irb hi).2.1, hw, bind_ite, Option.bind_some, dif1, dif2, dif3, dif4, dif5, dif6, dif7, dnot, ibeq, ibne, decide_eq_true_eq, if_not2, ge_iff_le, gt_iff_lt, fst_ret, Bool.false_eq_true, decide_false, decide_true, if_true]
        by_cases c1 : irbDev n i = irbDev n irb
        case neg =>
          refine ⟨_, if_neg c1, ⟨by omega, by omega, skip (fun h => c1 h.2.1.symm), own1 (fun h => c1 h.1)⟩, by omega⟩
        rw [if_pos c1]
        by_cases c2 : (getI n.irbs i).net.addr = x
        · refine ⟨_, if_pos c2, i, hii, c1, c2⟩
        rw [if_neg c2]
        by_cases c3 : HasP (getI n.irbs i).net x
        case neg => refine ⟨_, if_neg c3, ⟨by omega, by omega, skip (fun h => c3 h.1), own1 (fun h => c2 h.2)⟩, by omega⟩
        rw [if_pos c3]
        by_cases c4 : LeaksP n (getI n.irbs i).vrf (getI n.irbs irb).vrf
        case neg => refine ⟨_, if_neg c4, ⟨by omega, by omega, skip (fun h => c4 h.2.2), own1 (fun h => c2 h.2)⟩, by omega⟩
        rw [if_pos c4]
        have hc : CandP n irb x i := ⟨c3, c1.symm, c4⟩
        rcases hb with ⟨e, h⟩ | ⟨a1, a2, a3, a4⟩
        · refine ⟨_, if_pos (by omega), ⟨by omega, by omega, .inr ⟨hii, by omega, hc, fun j hj hji hc' => ?_⟩, own1 (fun h => c2 h.2)⟩, by omega⟩
          by_cases e : j = i
          · subst e; exact ⟨Int.le_refl _, fun h => by omega⟩
          · exact absurd hc' (h j hj (by omega))
        · rw [if_neg (by have := a1.1; omega), r30better_spec hr hi hii a1]
          simp only [Option.bind_some, decide_eq_true_eq]
          by_cases c5 : keyI n irb m < keyI n irb i
          · refine ⟨_, if_pos c5, ⟨by omega, by omega, .inr ⟨hii, by omega, hc, fun j hj hji hc' => ?_⟩, own1 (fun h => c2 h.2)⟩, by omega⟩
            by_cases e : j = i
            · subst e; exact ⟨Int.le_refl _, fun h => by omega⟩
            · have := (a4 j hj (by omega) hc').1; simp only; exact ⟨by omega, fun _ => by omega⟩
          · refine ⟨_, if_neg c5, ⟨by omega, by omega, .inr ⟨a1, by omega, a3, fun j hj hji hc' => ?_⟩, own1 (fun h => c2 h.2)⟩, by omega⟩
            by_cases e : j = i
            · subst e; simp only; exact ⟨by omega, fun h => by omega⟩
            · exact a4 j hj (by omega) hc'
      · have : i = n.irbs.length := by omega
        subst this
        refine ⟨.inr (.inr m), by simp [palingref30_Lookup_L1], hb, ?_⟩
        rintro ⟨j, hj, h⟩
        exact hn j hj hj.2 h) ⟨by simp, by simp, .inl ⟨rfl, fun j hj h => by have := hj.1; simp at h; omega⟩, fun j hj h => by have := hj.1; simp at h; omega⟩ (by simp only; unfold Few at hf; omega)
  simp only [palingref30_Lookup, rPlace_spec, hi, h1, bind_ite, Option.bind_some, dif1, dif2, dif3, dif4, dif5, dif6, dif7, dnot, ibeq, ibne, decide_eq_true_eq, if_not2, ge_iff_le, gt_iff_lt, fst_ret, Bool.false_eq_true, decide_false, decide_true, Bool.not_true, if_false]
  rcases q with u | m
  · exact ⟨_, rfl, .inl ⟨rfl, .inl h2⟩⟩
  · obtain ⟨hb, hno⟩ := h2
    rcases hb with ⟨rfl, h⟩ | ⟨a1, a2, a3, a4⟩
    · exact ⟨_, by simp, .inl ⟨rfl, .inr fun j hj => h j hj hj.2⟩⟩
    · have : ¬ m < 0 := by have := a1.1; omega
      exact ⟨(m, true), by simp [this], .inr ⟨m, rfl, hno, a1, a3, fun j hj hc => a4 j hj hj.2 hc⟩⟩
end
end Go.Eng

set_option linter.unusedVariables false
set_option linter.unusedSectionVars false
set_option linter.unusedSimpArgs false
namespace Go.Eng
open Go Classical
attribute [local congr] ite_cg
section
variable {n : Api_Net}
theorem takI_bnd {b : List Int} (hB : BytesP b) (h : (takI b).2.2.2.2.2.2.2 = 0) : (0 ≤ (takI b).2.1 ∧ (takI b).2.1 ≤ 255) ∧ (0 ≤ (takI b).2.2.1 ∧ (takI b).2.2.1 ≤ 65535) ∧ (0 ≤ (takI b).2.2.2.1 ∧ (takI b).2.2.2.1 ≤ 255) ∧
    (0 ≤ (takI b).2.2.2.2.1 ∧ (takI b).2.2.2.2.1 ≤ 255) ∧ (0 ≤ (takI b).2.2.2.2.2.1 ∧ (takI b).2.2.2.2.2.1 < 4294967296) ∧ (0 ≤ (takI b).2.2.2.2.2.2.1 ∧ (takI b).2.2.2.2.2.2.1 < 4294967296) := by
  unfold takI at *
  split at h
  · cases h
  rename_i h1
  split at h
  · cases h
  rename_i h2
  split at h
  · cases h
  rename_i h3
  split at h
  · cases h
  rename_i h4
  split at h
  · cases h
  rename_i h5
  rw [if_neg h1, if_neg h2, if_neg h3, if_neg h4, if_neg h5]
  have b1 := hB _ (getI_mem (l := b) (i := 1) ⟨by omega, by omega⟩)
  have b8 := hB _ (getI_mem (l := b) (i := 8) ⟨by omega, by omega⟩)
  have b9 := hB _ (getI_mem (l := b) (i := 9) ⟨by omega, by omega⟩)
  have p4 := pr2_bnd hB (o := 4) (by omega) (by omega)
  have p12 := pr2_bnd hB (o := 12) (by omega) (by omega)
  have p14 := pr2_bnd hB (o := 12 + 2) (by omega) (by omega)
  have p16 := pr2_bnd hB (o := 16) (by omega) (by omega)
  have p18 := pr2_bnd hB (o := 16 + 2) (by omega) (by omega)
  simp only [pr4]
  omega
theorem lookup_both (ho : n.Ok) (hs : SmN n) (hr : RightP n) {irb x : Int} (hi : inL n.irbs irb) (x0 : 0 ≤ x) (x1 : x < 4294967296) :
    ∃ r, route_lookup n irb x = some r ∧ palingref30_Lookup n irb x = some r ∧ ((r = (0, false) ∧ NoLed n irb x) ∨ ∃ m, r = (m, true) ∧ LedP n irb x m) := by
  obtain ⟨r, h1, h2⟩ := route_lookup_spec ho hs hr hi x0 x1
  obtain ⟨r', h1', h2'⟩ := r30Lookup_spec ho hs hr hi (x := x)
  refine ⟨r, h1, ?_, h2⟩
  rw [h1']
  have no : ∀ m, LedP n irb x m → NoLed n irb x → False := fun m h g => by
    rcases g with g | g
    · exact h.own g
    · exact g m h.im h.cand
  rcases h2 with ⟨rfl, g⟩ | ⟨m, rfl, g⟩ <;> rcases h2' with ⟨rfl, g'⟩ | ⟨m', rfl, g'⟩
  · rfl
  · exact (no _ g' g).elim
  · exact (no _ g g').elim
  · have hu : m' = m := by
      have e1 := (g.best m' g'.im g'.cand)
      have e2 := (g'.best m g.im g.cand)
      by_cases c : m' < m
      · have := e1.2 c; omega
      · by_cases c2 : m < m'
        · have := e2.2 c2; omega
        · omega
    rw [hu]
noncomputable def hopP (b : List Int) : Api_Packet := ⟨(takI b).2.1, (takI b).2.2.1, (takI b).2.2.2.1 - 1, (takI b).2.2.2.2.1, (takI b).2.2.2.2.2.1, (takI b).2.2.2.2.2.2.1, (takI b).1⟩
structure HopOk (n : Api_Net) (irb : Int) (f : Api_Frame) (m : Int) : Prop where
  right : RightP n
  hirb : inL n.irbs irb
  type : f.type_ = 2048
  err : (takI f.body).2.2.2.2.2.2.2 = 0
  ttl : 1 < (takI f.body).2.2.2.1
  led : LedP n irb (takI f.body).2.2.2.2.2.2.1 m
  len : (takI f.body).1.length ≤ 1480
theorem hop_both (ho : n.Ok) (hs : SmN n) {irb : Int} {f : Api_Frame} (hB : BytesP f.body) (hb : f.body.length ≤ 4000) :
    (∃ e : Int, (e ≠ 0 ∧ (RightP n → inL n.irbs irb → e ≠ 2)) ∧ route_Hop n irb f = some ([], 0, 0, 0, 0, e) ∧ palingref30_Hop n irb f = some ([], 0, 0, 0, 0, e)) ∨
    ∃ m, HopOk n irb f m ∧ route_Hop n irb f = some (ipB (hopP f.body), (getI n.irbs m).domain, 2199023255552 + (takI f.body).2.2.2.2.2.2.1, 2199023255552 + (getI n.irbs m).net.addr, 2048, 0) ∧
      palingref30_Hop n irb f = some (ipB (hopP f.body), (getI n.irbs m).domain, 2199023255552 + (takI f.body).2.2.2.2.2.2.1, 2199023255552 + (getI n.irbs m).net.addr, 2048, 0) := by
  unfold route_Hop palingref30_Hop
  rw [rRight_spec hs, rPlace_spec, names_Right_spec hs]
  simp only [Option.bind_some]
  by_cases hi : inL n.irbs irb
  case neg =>
    refine .inl ⟨2, ⟨by decide, fun _ h => absurd h hi⟩, ?_, ?_⟩
    · by_cases h1 : irb < 0
      · rw [if_pos (decide_eq_true h1)]
      · rw [if_neg (by simpa using h1), if_pos (by simp; unfold inL at hi; omega)]
    · by_cases hr : RightP n
      · rw [if_neg (by simpa using hr), if_pos (by simpa using hi)]
      · rw [if_pos (by simpa using hr)]
  have a0 : ¬ irb < 0 := by have := hi.1; omega
  have a1 : ¬ irb ≥ (n.irbs.length : Int) := by have := hi.2; omega
  have b0 : decide (irb < 0) = false := decide_eq_false a0
  have b1 : decide (irb ≥ (n.irbs.length : Int)) = false := decide_eq_false a1
  simp only [b0, b1, Bool.false_eq_true, if_false]
  by_cases hr : RightP n
  case neg => exact .inl ⟨2, ⟨by decide, fun h => absurd h hr⟩, by simp [hr], by simp [hr]⟩
  have b2 : (!decide (RightP n)) = false := by simp [hr]
  have b3 : (!decide (inL n.irbs irb)) = false := by simp [hi]
  simp only [b2, b3, Bool.false_eq_true, if_false]
  by_cases ht : f.type_ = 2048
  case neg => exact .inl ⟨11, ⟨by decide, fun _ _ => by decide⟩, by simp [ht], by simp [ht]⟩
  have b4 : (f.type_ != 2048) = false := by simp [ht]
  simp only [b4, Bool.false_eq_true, if_false]
  rw [ipv4_Take_spec hB (by omega), rIpv4_Take_spec hB (by omega)]
  have hbnd := takI_bnd hB
  have hlen := takI_len (b := f.body)
  have hpk : hopP f.body = ⟨(takI f.body).2.1, (takI f.body).2.2.1, (takI f.body).2.2.2.1 - 1, (takI f.body).2.2.2.2.1, (takI f.body).2.2.2.2.2.1, (takI f.body).2.2.2.2.2.2.1, (takI f.body).1⟩ := rfl
  have hok : ∀ m, (takI f.body).2.2.2.2.2.2.2 = 0 → 1 < (takI f.body).2.2.2.1 → LedP n irb (takI f.body).2.2.2.2.2.2.1 m → (takI f.body).1.length ≤ 1480 → HopOk n irb f m := fun m h1 h2 h3 h4 => ⟨hr, hi, ht, h1, h2, h3, h4⟩
  have hne2 : (takI f.body).2.2.2.2.2.2.2 ≠ 2 := by unfold takI; (repeat' split) <;> simp
  generalize hopP f.body = Q at *
  generalize takI f.body = A at *
  obtain ⟨l, to, id, tt, pro, sr, ds, e⟩ := A
  simp only [Option.bind_some] at *
  have hne : e ≠ 2 := hne2
  by_cases c1 : e = 0
  case neg => exact .inl ⟨e, ⟨c1, fun _ _ => hne⟩, by simp [route_Hop_J1, c1], by simp [c1]⟩
  subst c1
  obtain ⟨_, _, _, _, b5, b6⟩ := hbnd rfl
  have hbq := hbnd rfl
  simp only [route_Hop_J1, ipv4_Hop, palingref07_Hop, slices_Clone_byte, beq_self_eq_true, if_true, bne_self_eq_false, Bool.false_eq_true, if_false]
  by_cases c2 : tt ≤ 1
  · exact .inl ⟨13, ⟨by decide, fun _ _ => by decide⟩, by simp [c2], by simp [c2]⟩
  have hw := wr64 (n := tt - 1) (by omega) (by omega)
  have c2' : decide (tt ≤ 1) = false := decide_eq_false c2
  have hroom : roomy 1 l = true := roomy_few (by omega)
  simp only [c2', Bool.false_eq_true, if_false, hroom, if_true, Option.bind_some, hw, bne_self_eq_false]
  obtain ⟨r, r1, r2, r3⟩ := lookup_both ho hs hr hi b6.1 b6.2
  rw [r1, r2]
  simp only [Option.bind_some]
  rcases r3 with ⟨rfl, g⟩ | ⟨m, rfl, g⟩
  · exact .inl ⟨31, ⟨by decide, fun _ _ => by decide⟩, by simp, by simp⟩
  simp only [Bool.not_true, Bool.false_eq_true, if_false]
  rw [ipv4_Put_spec (by simp only; omega) (by simp only; omega), rIpv4_Put_spec (by simp only; omega) (by simp only; omega), ← hpk]
  have hm := g.im
  have hma := (irb_pre ho hr hm).1
  have hbad : ¬ BadI Q := by rw [hpk]; unfold BadI; simp only; omega
  have hbl : Q.body.length = l.length := by rw [hpk]
  unfold putI
  rw [if_neg hbad]
  by_cases c3 : (Q.body.length : Int) > 1480
  · rw [if_pos c3]
    exact .inl ⟨14, ⟨by decide, fun _ _ => by decide⟩, by simp, by simp⟩
  rw [if_neg c3]
  refine .inr ⟨m, hok m rfl (by omega) g (by omega), ?_, ?_⟩
  · simp [nth_getI hm, hostM b6.1 b6.2, hostM hma.a0 hma.a1]
  · simp [nth_getI hm, hostR b6.1 b6.2, hostR hma.a0 hma.a1]
end
end Go.Eng

set_option linter.unusedVariables false
set_option linter.unusedSectionVars false
set_option linter.unusedSimpArgs false
namespace Go.Eng
open Go Classical
attribute [local congr] ite_cg
section
variable {n : Api_Net}
theorem brouter_spec (hs : SmN n) (hn : n.Ok) {d m : Int} : vrfs_Router n d m =
    some (if RightP n ∧ inL n.domains d ∧ 0 ≤ (getI n.domains d).irb ∧ 2199023255552 + (getI n.irbs (getI n.domains d).irb).net.addr = m then ((getI n.domains d).irb, true) else (0, false)) := by
  unfold vrfs_Router
  by_cases c1 : d < 0
  · rw [if_pos (decide_eq_true c1), if_neg (fun h => by have := h.2.1.1; omega)]
  rw [if_neg (by simpa using c1)]
  by_cases c2 : d ≥ (n.domains.length : Int)
  · rw [if_pos (decide_eq_true c2), if_neg (fun h => by have := h.2.1.2; omega)]
  rw [if_neg (by simpa using c2)]
  have hd : inL n.domains d := ⟨by omega, by omega⟩
  rw [names_Right_spec hs, Option.bind_some]
  by_cases hr : RightP n
  case neg => rw [if_pos (by simpa using hr), if_neg (fun h => hr h.1)]
  rw [if_neg (by simpa using hr), nth_getI hd, Option.bind_some]
  by_cases c3 : (getI n.domains d).irb < 0
  · rw [if_pos (decide_eq_true c3), if_neg (fun h => by have := h.2.2.1; omega)]
  rw [if_neg (by simpa using c3)]
  have hi : inL n.irbs (getI n.domains d).irb := by
    rcases (hr.bare d hd).2.2.2.2.2.1 with e | ⟨e, _⟩
    · omega
    · exact e
  have ho : okI .u32 (getI n.irbs (getI n.domains d).irb).net.addr := (hn.2.2.2.2.2.2.2.1.2 _ (getI_mem hi)).2.2.2.1.1
  have h0 : (0 : Int) ≤ (getI n.irbs (getI n.domains d).irb).net.addr := ho.1
  have h1 : (getI n.irbs (getI n.domains d).irb).net.addr ≤ 4294967295 := ho.2
  rw [nth_getI hi, Option.bind_some, hostM h0 (by omega), Option.bind_some]
  by_cases c4 : 2199023255552 + (getI n.irbs (getI n.domains d).irb).net.addr = m
  · rw [if_neg (by simpa using c4), if_pos ⟨hr, hd, by omega, c4⟩]
  · rw [if_pos (by simpa using c4), if_neg (fun h => c4 h.2.2.2)]
theorem brRouter_spec (hs : SmN n) (hn : n.Ok) (hr : RightP n) {d m : Int} : palingref20_Router n d m =
    some (if RightP n ∧ inL n.domains d ∧ 0 ≤ (getI n.domains d).irb ∧ 2199023255552 + (getI n.irbs (getI n.domains d).irb).net.addr = m then ((getI n.domains d).irb, true) else (0, false)) := by
  have hfi := hs.irbs
  have hloop : palingref20_Router n d m = some (if 0 ≤ fstI n.irbs (fun x => x.domain = d ∧ 2199023255552 + x.net.addr = m) then (fstI n.irbs (fun x => x.domain = d ∧ 2199023255552 + x.net.addr = m), true) else (0, false)) := by
    unfold palingref20_Router
    rw [loop_first n.irbs (fun x => x.domain = d ∧ 2199023255552 + x.net.addr = m) hs.irbs (fun i h0 h1 h2 => by
      have ho : okI .u32 (getI n.irbs i).net.addr := (hn.2.2.2.2.2.2.2.1.2 _ (getI_mem h2)).2.2.2.1.1
      have o0 : (0 : Int) ≤ (getI n.irbs i).net.addr := ho.1
      have o1 : (getI n.irbs i).net.addr ≤ 4294967295 := ho.2
      have hw := wr64 (n := i + 1) (by omega) (by unfold Few at hfi; omega)
      simp only [palingref20_Router_L1, h1, nth_getI h2, hostR o0 (by omega : (getI n.irbs i).net.addr < 4294967296), hw, decide_true, if_true, Option.bind_some]
      by_cases c1 : (getI n.irbs i).domain = d <;> by_cases c2 : 2199023255552 + (getI n.irbs i).net.addr = m <;> simp [c1, c2]) (by simp [palingref20_Router_L1])]
    split <;> simp_all
  rw [hloop]
  congr 1
  by_cases hc : RightP n ∧ inL n.domains d ∧ 0 ≤ (getI n.domains d).irb ∧ 2199023255552 + (getI n.irbs (getI n.domains d).irb).net.addr = m
  · rw [if_pos hc]
    obtain ⟨_, hd, hi, hm⟩ := hc
    have hii : inL n.irbs (getI n.domains d).irb ∧ (getI n.irbs (getI n.domains d).irb).domain = d := by
      rcases (hr.bare d hd).2.2.2.2.2.1 with e | e
      · omega
      · exact e
    have : fstI n.irbs (fun x => x.domain = d ∧ 2199023255552 + x.net.addr = m) = (getI n.domains d).irb := by
      refine (fstI_eq hii.1).2 ⟨⟨hii.2, hm⟩, fun j hj hlt hp => ?_⟩
      have := (hr.irbs j hj).2.2.2.1
      rw [hp.1] at this
      omega
    rw [this, if_pos hi]
  · rw [if_neg hc, if_neg]
    intro h
    have hin := fstI_inL.1 h
    have hp := fstI_is h
    obtain ⟨q1, q2, q3, q4, q5⟩ := hr.irbs _ hin
    rw [hp.1] at q1 q4
    refine hc ⟨hr, q1, by omega, ?_⟩
    rw [q4]; exact hp.2
end
end Go.Eng
