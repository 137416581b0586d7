/- Chapter 11: words of lines that hold no lists; static entries' lines, on both sides. -/
import Derived.Test.YtgohlmiaddkkeaaGreatEngU1
import Derived.Test.YtgohlmiaddkkeaaGreatEngT4
import Derived.Test.YtgohlmiaddkkeaaGreatEngQ3
import Derived.Test.YtgohlmiaddkkeaaGreatEngGL7a
set_option linter.unusedVariables false
set_option linter.unusedSectionVars false
set_option linter.unusedSimpArgs false
namespace Go.Eng
open Go Classical
def StnP (m : Int) : Prop := m ≤ 281474976710655 ∧ ¬ m / 4294967296 = 512 ∧ ¬ GrpP m
theorem and48u {v : Int} (h0 : 0 ≤ v) (h1 : v ≤ 281474976710655) : bits_and .u64 v 281474976710655 = v := by
  unfold bits_and
  rw [ofInt_nat _ _ h0, ofInt_nat _ _ (by decide), BitVec.toNat_and, BitVec.toNat_ofNat, BitVec.toNat_ofNat]
  simp only [IntKind.bits]
  rw [Nat.mod_eq_of_lt (by omega), Nat.mod_eq_of_lt (by decide), show (281474976710655 : Int).toNat = 2 ^ 48 - 1 from rfl, Nat.and_two_pow_sub_one_eq_mod, Nat.mod_eq_of_lt (by omega)]
  have hw := wr64u (n := ((v.toNat : Nat) : Int)) (by omega) (by omega)
  unfold wr_u64 at hw
  rw [hw]; omega
theorem s_station {m : Int} (h0 : 0 ≤ m) (h1 : m < 18446744073709551616) : stmt_station m = some (decide (StnP m)) := by
  unfold stmt_station mac_IsHost StnP
  by_cases c : m ≤ 281474976710655
  · rw [and48u h0 c, fdiv_e (by decide), show (2 : Int) ^ 32 = 4294967296 from rfl, mac_Group_spec h0 h1]
    by_cases d : m / 4294967296 = 512
    · simp [c, d]
    · simp [c, d]
  · simp only [c, decide_false, Bool.false_eq_true, if_false, false_and]
    split <;> rfl
theorem numF4 {a b c d : Int} : ∃ r, palingref01_number [a, b, c, d] = some r := by
  obtain ⟨r, e, _⟩ := loopM_rule (f := fun s : Int × Int => match s with | (v2, v3) => palingref01_number_L1 [a, b, c, d] v2 v3) (fun s => 0 ≤ s.2 ∧ s.2 ≤ 4) (fun _ => True) (fun s => (4 - s.2).toNat) (s := (0, 0)) (fun s hI => by
    obtain ⟨v, i⟩ := s
    obtain ⟨i0, i1⟩ := hI
    simp only at i0 i1 ⊢
    by_cases g : i < 4
    · have il : inL [a, b, c, d] i := ⟨i0, by simpa using g⟩
      exact ⟨.inl (_, i + 1), by
        show palingref01_number_L1 [a, b, c, d] v i = _
        unfold palingref01_number_L1
        rw [if_pos (decide_eq_true il.2), nth_getI il, Option.bind_some, wr64 (by omega) (by omega)], ⟨by simp only; omega, by simp only; omega⟩, by simp only; omega⟩
    · exact ⟨.inr v, by
        show palingref01_number_L1 [a, b, c, d] v i = _
        unfold palingref01_number_L1
        rw [if_neg (by simp; omega)], trivial⟩) ⟨by simp, by simp⟩ (by simp)
  exact ⟨r, by unfold palingref01_number; rw [e]; rfl⟩
theorem r_station {m : Int} (h0 : 0 ≤ m) (h1 : m < 18446744073709551616) : palingref11_Station m = some (decide (StnP m)) := by
  have hH : ∃ x b, palingref01_IsHost m = some (x, b) ∧ (m ≤ 281474976710655 → (b = true ↔ m / 4294967296 = 512)) := by
    unfold palingref01_IsHost
    rw [r01Bytes_spec h0 h1, Option.bind_some]
    dsimp only
    have l0 : lin [m / 1099511627776 % 256, m / 4294967296 % 256, m / 16777216 % 256, m / 65536 % 256, m / 256 % 256, m % 256] 0 = true := by rw [lin_dec]; exact decide_eq_true ⟨by decide, by simp⟩
    have l1 : lin [m / 1099511627776 % 256, m / 4294967296 % 256, m / 16777216 % 256, m / 65536 % 256, m / 256 % 256, m % 256] 1 = true := by rw [lin_dec]; exact decide_eq_true ⟨by decide, by simp⟩
    have s1 : slok (List.length [m / 1099511627776 % 256, m / 4294967296 % 256, m / 16777216 % 256, m / 65536 % 256, m / 256 % 256, m % 256]) 2 ((List.length [m / 1099511627776 % 256, m / 4294967296 % 256, m / 16777216 % 256, m / 65536 % 256, m / 256 % 256, m % 256] : Nat) : Int) = true := by rw [slok_dec]; exact decide_eq_true ⟨by decide, by simp, by simp⟩
    rw [if_pos l0]
    by_cases d0 : m / 1099511627776 % 256 = 2
    · by_cases d1 : m / 4294967296 % 256 = 0
      · obtain ⟨r, hr⟩ := numF4 (a := m / 16777216 % 256) (b := m / 65536 % 256) (c := m / 256 % 256) (d := m % 256)
        refine ⟨wr_u32 r, true, ?_, fun hm => ⟨fun _ => by omega, fun _ => rfl⟩⟩
        show (if (m / 1099511627776 % 256 != 2) = true then some ((0 : Int), false) else _) = _
        rw [if_neg (by simpa using d0), if_pos l1]
        show (if (m / 4294967296 % 256 != 0) = true then some ((0 : Int), false) else _) = _
        rw [if_neg (by simpa using d1), if_pos s1]
        show (palingref01_number [m / 16777216 % 256, m / 65536 % 256, m / 256 % 256, m % 256]).bind _ = _
        rw [hr]; rfl
      · refine ⟨0, false, ?_, fun hm => ⟨fun h => by simp at h, fun h => by omega⟩⟩
        show (if (m / 1099511627776 % 256 != 2) = true then some ((0 : Int), false) else _) = _
        rw [if_neg (by simpa using d0), if_pos l1]
        show (if (m / 4294967296 % 256 != 0) = true then some ((0 : Int), false) else _) = _
        rw [if_pos (by simpa using d1)]
    · refine ⟨0, false, ?_, fun hm => ⟨fun h => by simp at h, fun h => by omega⟩⟩
      show (if (m / 1099511627776 % 256 != 2) = true then some ((0 : Int), false) else _) = _
      rw [if_pos (by simpa using d0)]
  obtain ⟨x, b, hH, hb⟩ := hH
  unfold palingref11_Station StnP
  rw [hH, Option.bind_some]
  by_cases c : m ≤ 281474976710655
  · have hb := hb c
    rw [if_pos (decide_eq_true (show m < 281474976710656 by omega)), r01Group_spec h0 h1]
    cases b with
    | true => have := hb.1 rfl; simp [this]
    | false =>
      have : ¬ m / 4294967296 = 512 := fun h => by have := hb.2 h; simp at this
      simp [c, this]
  · rw [if_neg (by simp; omega)]; simp [c]
/-! ### A line's words without lists -/
structure Sc where
  dev : ByteArray
  port : ByteArray
  peer : ByteArray
  far : ByteArray
  name : ByteArray
  mac : Int
  addr : Int
  bits : Int
  vlan : Int
  num : Int
  cost : Int
abbrev fS (ws : List ByteArray) (row : Int) (fm : ByteArray) (kd : Int) := fun s : (List Int) × (List Int) × (List Int) × ByteArray × ByteArray × ByteArray × ByteArray × ByteArray × Int × Int × Int × Int × Int × Int × Int × Int × (List Int) => match s with | (l31, l32, l33, v34, v35, v36, v37, v38, v39, v40, v41, v42, v43, v44, v45, v46, l47) => palingref11_Read_L3 ws row fm kd l31 l32 l33 v34 v35 v36 v37 v38 v39 v40 v41 v42 v43 v44 v45 v46 l47
section
variable {ws : List ByteArray} {row kd : Int} {fm : ByteArray}
end
end Go.Eng
