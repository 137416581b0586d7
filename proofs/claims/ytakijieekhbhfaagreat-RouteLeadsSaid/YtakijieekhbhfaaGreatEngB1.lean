/- Bytes of frames, packets and datagrams: how they are put. -/
import Derived.Test.YtakijieekhbhfaaGreatEngB0
set_option linter.unusedVariables false
set_option linter.unusedSectionVars false
set_option linter.unusedSimpArgs false
namespace Go.Eng
open Go Classical
attribute [local congr] ite_cg
theorem wr8m {x : Int} : wr_u8 x = x % 256 := by
  unfold wr_u8 IntKind.wrap
  simp [IntKind.signed, IntKind.bits]
theorem fdiv_e {a b : Int} (h : 0 ≤ b) : Int.fdiv a b = a / b := Int.fdiv_eq_ediv_of_nonneg a h
noncomputable def macB (m : Int) : List Int := [m / 1099511627776 % 256, m / 4294967296 % 256, m / 16777216 % 256, m / 65536 % 256, m / 256 % 256, m % 256]
theorem mput_step {m : Int} (l : List Int) (hl : l.length ≤ 1000) (i k : Nat) (hi : i + k = 5) :
    mac_Put_own_L1 m l (i : Int) = some (.inl (l ++ [m / (256 ^ k : Nat) % 256], (i : Int) + 1)) := by
  have hs : mac_shift (i : Int) = some (8 * (k : Int)) := by
    unfold mac_shift
    rw [wr64 (n := 5 - (i : Int)) (by omega) (by omega), wr64 (by omega) (by omega), wr64u (by omega) (by omega)]
    congr 1; omega
  have c : (i : Int) < 6 := by omega
  have c2 : (0 : Int) ≤ 8 * (k : Int) := by omega
  have e : min (Int.toNat (8 * (k : Int))) 64 = 8 * k := by omega
  have e2 : (2 : Int) ^ (8 * k) = ((256 ^ k : Nat) : Int) := by rw [Int.pow_mul]; norm_cast
  have hw := wr64 (n := (i : Int) + 1) (by omega) (by omega)
  have hr : roomy 1 (l ++ [m / (256 ^ k : Nat) % 256]) = true := roomy_few (by simp; omega)
  simp only [mac_Put_own_L1, c, hs, Option.bind_some, c2, decide_true, if_true, e, e2, wr8m, fdiv_e (Int.natCast_nonneg _), hw, hr]
theorem mac_Put_spec {m : Int} {l : List Int} (hl : l.length ≤ 100) : mac_Put_own l m = some (l ++ macB m) := by
  unfold mac_Put_own
  have e : loopM (fun s : (List Int) × Int => match s with | (l3, v4) => mac_Put_own_L1 m l3 v4) (l, 0) = some (l ++ macB m) := by
    have key : ∀ i : Nat, i ≤ 6 → (l ++ (macB m).take i).length ≤ 1000 := fun i hi => by simp [macB]; omega
    have s0 := mput_step (m := m) (l ++ (macB m).take 0) (key 0 (by omega)) 0 5 rfl
    have s1 := mput_step (m := m) (l ++ (macB m).take 1) (key 1 (by omega)) 1 4 rfl
    have s2 := mput_step (m := m) (l ++ (macB m).take 2) (key 2 (by omega)) 2 3 rfl
    have s3 := mput_step (m := m) (l ++ (macB m).take 3) (key 3 (by omega)) 3 2 rfl
    have s4 := mput_step (m := m) (l ++ (macB m).take 4) (key 4 (by omega)) 4 1 rfl
    have s5 := mput_step (m := m) (l ++ (macB m).take 5) (key 5 (by omega)) 5 0 rfl
    have := loopM_trace (f := fun s : (List Int) × Int => match s with | (l3, v4) => mac_Put_own_L1 m l3 v4) (r := l ++ macB m) (fun i => (l ++ (macB m).take i, (i : Int))) 6 (by decide) (fun i hi => by
      match i, hi with
      | 0, _ => simpa [macB] using s0
      | 1, _ => simpa [macB] using s1
      | 2, _ => simpa [macB] using s2
      | 3, _ => simpa [macB] using s3
      | 4, _ => simpa [macB] using s4
      | 5, _ => simpa [macB] using s5) (by simp [mac_Put_own_L1, macB])
    simpa using this
  rw [e]; rfl
theorem macB_len {m : Int} : (macB m).length = 6 := rfl
noncomputable def frB (f : Api_Frame) : List Int := macB f.dst ++ (macB f.src ++ ([f.type_ / 256 % 256, f.type_ % 256] ++ f.body))
noncomputable def putE (f : Api_Frame) : List Int × Int :=
  if f.dst > 281474976710655 ∨ f.src > 281474976710655 ∨ f.type_ < 0 ∨ f.type_ > 65535 then ([], 11)
  else if (f.body.length : Int) > 1504 then ([], 14) else (frB f, 0)
theorem frB_len {f : Api_Frame} : (frB f).length = 14 + f.body.length := by simp [frB, macB_len]; omega
theorem ether_Put_spec {f : Api_Frame} : ether_Put f = some (putE f) := by
  unfold ether_Put putE
  by_cases c1 : f.dst > 281474976710655
  · rw [if_pos (decide_eq_true c1), if_pos (.inl c1)]
  rw [if_neg (by simpa using c1)]
  by_cases c2 : f.src > 281474976710655
  · rw [if_pos (decide_eq_true c2), if_pos (.inr (.inl c2))]
  rw [if_neg (by simpa using c2)]
  by_cases c3 : f.type_ < 0
  · rw [if_pos (decide_eq_true c3), if_pos (.inr (.inr (.inl c3)))]
  rw [if_neg (by simpa using c3)]
  by_cases c4 : f.type_ > 65535
  · rw [if_pos (decide_eq_true c4), if_pos (.inr (.inr (.inr c4)))]
  rw [if_neg (by simpa using c4), if_neg (c := f.dst > 281474976710655 ∨ _) (by rintro (h | h | h | h) <;> contradiction)]
  by_cases c5 : (f.body.length : Int) > 1504
  · rw [if_pos (decide_eq_true c5), if_pos c5]
  rw [if_neg (by simpa using c5), if_neg c5, mac_Put_spec (by simp)]
  simp only [Option.bind_some, List.nil_append]
  rw [mac_Put_spec (by simp [macB_len])]
  simp only [Option.bind_some, wr8m]
  rw [if_pos (roomy_few (by simp [macB_len])), if_pos (roomy_few (by simp [macB_len]; omega))]
  simp [frB, fdiv_e]
theorem rEther_Put_spec {f : Api_Frame} (h1 : okI .u64 f.dst) (h2 : okI .u64 f.src) : palingref04_Put f = some (putE f) := by
  unfold palingref04_Put putE
  have hd := okU64 h1
  have hs := okU64 h2
  by_cases c1 : f.dst > 281474976710655
  · rw [if_pos (by simp; omega), if_pos (.inl c1)]
  rw [if_neg (by simp; omega)]
  by_cases c2 : f.src > 281474976710655
  · rw [if_pos (by simp; omega), if_pos (.inr (.inl c2))]
  rw [if_neg (by simp; omega)]
  by_cases c3 : f.type_ < 0
  · rw [if_pos (decide_eq_true c3), if_pos (.inr (.inr (.inl c3)))]
  rw [if_neg (by simpa using c3)]
  by_cases c4 : f.type_ > 65535
  · rw [if_pos (by simp; omega), if_pos (.inr (.inr (.inr c4)))]
  rw [if_neg (by simp; omega), if_neg (c := f.dst > 281474976710655 ∨ _) (by rintro (h | h | h | h) <;> contradiction)]
  by_cases c5 : (f.body.length : Int) > 1504
  · rw [if_pos (decide_eq_true c5), if_pos c5]
  rw [if_neg (by simpa using c5), if_neg c5, r01Bytes_spec hd.1 hd.2, Option.bind_some, r01Bytes_spec hs.1 hs.2, Option.bind_some]
  simp only
  rw [if_pos (roomy_few (by simp)), if_pos (roomy_few (by simp)), if_pos (roomy_few (by simp; omega)), Int.tdiv_eq_ediv_of_nonneg (by omega), Int.tmod_eq_emod_of_nonneg (by omega), wr64 (by omega) (by omega), wr8m, wr8m]
  simp [frB, macB]
noncomputable def headB (v : Int) : List Int := [8, 0, 0, 0, v / 65536 % 256, v / 256 % 256, v % 256, 0]
noncomputable def putV (v : Int) : List Int × Int := if v < 1 ∨ v > 16777215 then ([], 17) else (headB v, 0)
theorem vxlan_Head_spec {v : Int} : vxlan_Head v = some (putV v) := by
  unfold vxlan_Head putV
  by_cases c1 : v < 1
  · rw [if_pos (decide_eq_true c1), if_pos (.inl c1)]
  rw [if_neg (by simpa using c1)]
  by_cases c2 : v > 16777215
  · rw [if_pos (decide_eq_true c2), if_pos (.inr c2)]
  rw [if_neg (by simpa using c2), if_neg (c := v < 1 ∨ _) (by rintro (h | h) <;> contradiction)]
  simp [headB, wr8m, fdiv_e]
theorem rHead_spec {v : Int} : palingref09_Head v = some (putV v) := by
  unfold palingref09_Head putV
  by_cases c1 : v < 1
  · rw [if_pos (decide_eq_true c1), if_pos (.inl c1)]
  rw [if_neg (by simpa using c1)]
  by_cases c2 : v > 16777215
  · rw [if_pos (by simp; omega), if_pos (.inr c2)]
  rw [if_neg (by simp; omega), if_neg (c := v < 1 ∨ _) (by rintro (h | h) <;> contradiction)]
  rw [Int.tdiv_eq_ediv_of_nonneg (by omega), Int.tdiv_eq_ediv_of_nonneg (by omega), wr64 (by omega) (by omega), wr64 (by omega) (by omega), Int.tmod_eq_emod_of_nonneg (by omega), Int.tmod_eq_emod_of_nonneg (by omega), wr8m, wr8m, wr8m]
  simp [headB]
noncomputable def udpB (s d : Int) (b : List Int) : List Int := [s / 256 % 256, s % 256, d / 256 % 256, d % 256, (8 + (b.length : Int)) / 256 % 256, (8 + (b.length : Int)) % 256, 0, 0] ++ b
noncomputable def putU (s d : Int) (b : List Int) : List Int × Int :=
  if s < 0 ∨ s > 65535 ∨ d < 0 ∨ d > 65535 then ([], 11) else if (b.length : Int) > 1472 then ([], 14) else (udpB s d b, 0)
theorem udp_Put_spec {s d : Int} {b : List Int} : udp_Put s d b = some (putU s d b) := by
  unfold udp_Put putU
  by_cases c1 : s < 0
  · rw [if_pos (decide_eq_true c1), if_pos (.inl c1)]
  rw [if_neg (by simpa using c1)]
  by_cases c2 : s > 65535
  · rw [if_pos (decide_eq_true c2), if_pos (.inr (.inl c2))]
  rw [if_neg (by simpa using c2)]
  by_cases c3 : d < 0
  · rw [if_pos (decide_eq_true c3), if_pos (.inr (.inr (.inl c3)))]
  rw [if_neg (by simpa using c3)]
  by_cases c4 : d > 65535
  · rw [if_pos (decide_eq_true c4), if_pos (.inr (.inr (.inr c4)))]
  rw [if_neg (by simpa using c4), if_neg (c := s < 0 ∨ _) (by rintro (h | h | h | h) <;> contradiction)]
  by_cases c5 : (b.length : Int) > 1472
  · rw [if_pos (decide_eq_true c5), if_pos c5]
  rw [if_neg (by simpa using c5), if_neg c5]
  have hw := wr64 (n := 8 + (b.length : Int)) (by omega) (by omega)
  let H : List Int := [s / 256 % 256, s % 256, d / 256 % 256, d % 256, (8 + (b.length : Int)) / 256 % 256, (8 + (b.length : Int)) % 256, 0, 0]
  have e : loopM (fun s_1 : (List Int) × Int => match s_1 with | (l9, v10) => udp_Put_L1 s d b l9 v10) ([], 0) = some H :=
    loopM_trace (f := fun s_1 : (List Int) × Int => match s_1 with | (l9, v10) => udp_Put_L1 s d b l9 v10) (r := H) (fun i => (H.take (2 * i), (i : Int))) 4 (by decide) (fun i hi => by
      have hr : ∀ l : List Int, l.length ≤ 100 → roomy 1 l = true := fun l h => roomy_few (by omega)
      match i, hi with
      | 0, _ => simp [udp_Put_L1, H, wr8m, fdiv_e, hr, wr64]
      | 1, _ => simp [udp_Put_L1, H, wr8m, fdiv_e, hr, wr64]
      | 2, _ => simp [udp_Put_L1, H, wr8m, fdiv_e, hr, wr64, hw]
      | 3, _ => simp [udp_Put_L1, H, wr8m, fdiv_e, hr, wr64]) (by simp [udp_Put_L1, H])
  rw [e]
  simp only [Option.bind_some]
  rw [if_pos (roomy_few (by simp [H]; omega))]
  rfl
theorem rUdp_Put_spec {s d : Int} {b : List Int} : palingref08_Put s d b = some (putU s d b) := by
  unfold palingref08_Put putU
  by_cases c1 : s < 0
  · rw [if_pos (decide_eq_true c1), if_pos (.inl c1)]
  rw [if_neg (by simpa using c1)]
  by_cases c3 : d < 0
  · rw [if_pos (decide_eq_true c3), if_pos (.inr (.inr (.inl c3)))]
  rw [if_neg (by simpa using c3)]
  by_cases c2 : s > 65535
  · rw [if_pos (by simp; omega), if_pos (.inr (.inl c2))]
  rw [if_neg (by simp; omega)]
  by_cases c4 : d > 65535
  · rw [if_pos (by simp; omega), if_pos (.inr (.inr (.inr c4)))]
  rw [if_neg (by simp; omega), if_neg (c := s < 0 ∨ _) (by rintro (h | h | h | h) <;> contradiction)]
  by_cases c5 : (b.length : Int) > 1472
  · rw [if_pos (decide_eq_true c5), if_pos c5]
  rw [if_neg (by simpa using c5), if_neg c5]
  have hw := wr64 (n := 8 + (b.length : Int)) (by omega) (by omega)
  rw [if_pos (roomy_few (by simp; omega))]
  rw [hw, Int.tdiv_eq_ediv_of_nonneg (by omega), Int.tdiv_eq_ediv_of_nonneg (by omega), Int.tdiv_eq_ediv_of_nonneg (by omega), Int.tmod_eq_emod_of_nonneg (by omega), Int.tmod_eq_emod_of_nonneg (by omega), Int.tmod_eq_emod_of_nonneg (by omega), wr64 (by omega) (by omega), wr64 (by omega) (by omega), wr64 (by omega) (by omega)]
  simp [udpB, wr8m]
end Go.Eng
