/- Part of the proof of PortsPuts: plain laws of the printed mirrors. No conditions. -/
import Derived.Test.YtgohlmiaddkkeaaGreatEngGP1
import Derived.Test.YtgohlmiaddkkeaaGreatMAM
set_option linter.unusedVariables false
set_option linter.unusedSectionVars false
set_option linter.unusedSimpArgs false
namespace Go.Eng
open Go Classical
attribute [local congr] ite_cg

/-! ### One bit of a number -/
theorem and_two_pow' (x k : Nat) : x &&& 2 ^ k = (x.testBit k).toNat * 2 ^ k := by
  apply Nat.eq_of_testBit_eq
  intro i
  rw [Nat.testBit_and, Nat.testBit_two_pow]
  by_cases h : k = i
  · subst h
    cases hb : x.testBit k <;> simp
  · cases hb : x.testBit k <;> simp [h, Nat.testBit_two_pow]
theorem okU64 {x : Int} (h : okI .u64 x) : 0 ≤ x ∧ x < 18446744073709551616 := ⟨h.1, by have : x ≤ 18446744073709551615 := h.2; omega⟩
theorem bit_u64 {x : Int} {k : Nat} (h1 : 0 ≤ x) (h2 : x < 18446744073709551616) (hk : k < 64) : bits_and .u64 x (2 ^ k : Nat) ≠ 0 ↔ x / (2 ^ k : Nat) % 2 = 1 := by
  have hp := Nat.two_pow_pos k
  have hlt : 2 ^ k < 2 ^ 64 := Nat.pow_lt_pow_right (by decide) hk
  unfold bits_and
  rw [ofInt_nat _ _ h1, ofInt_nat _ _ (by omega), BitVec.toNat_and, BitVec.toNat_ofNat, BitVec.toNat_ofNat]
  simp only [IntKind.bits, Int.toNat_natCast]
  rw [Nat.mod_eq_of_lt (by omega), Nat.mod_eq_of_lt (by omega), and_two_pow', show x.toNat.testBit k = decide (x.toNat / 2 ^ k % 2 = 1) from Nat.testBit_eq_decide_div_mod_eq]
  have e : x / (2 ^ k : Nat) % 2 = ((x.toNat / 2 ^ k % 2 : Nat) : Int) := by
    rw [Int.natCast_emod, Int.natCast_ediv]
    rw [show ((x.toNat : Nat) : Int) = x from by omega]; rfl
  rw [e]
  generalize 2 ^ k = p at *
  have hb := Nat.mod_two_eq_zero_or_one (x.toNat / p)
  generalize x.toNat / p % 2 = c at *
  rcases hb with rfl | rfl
  · have : IntKind.u64.wrap 0 = 0 := by decide
    simp [this]
  · have := wr64u (n := (p : Int)) (by omega) (by omega)
    unfold wr_u64 at this
    simp [this]; omega
def GrpP (m : Int) : Prop := m / 1099511627776 % 2 = 1
theorem mac_Group_spec {m : Int} (h1 : 0 ≤ m) (h2 : m < 18446744073709551616) : mac_Group m = some (decide (GrpP m)) := by
  have h := bit_u64 (k := 40) h1 h2 (by decide)
  simp only [mac_Group, ibne]
  refine sdec ?_
  unfold GrpP
  simpa using h

/-! ### Bytes of an address -/
theorem bytes_round {m : Int} (h1 : 0 ≤ m) (h2 : m < 18446744073709551616) (l : List Int) (k : Nat) (hk : k ≤ 6) :
    loopM (fun s : Int × Int => match s with | (v5, v6) => palingref01_Bytes_L2 m l (k : Int) v5 v6) (m, 0) = some (m / (256 ^ k : Nat)) := by
  have key := loopM_trace (f := fun s : Int × Int => match s with | (v5, v6) => palingref01_Bytes_L2 m l (k : Int) v5 v6) (fun i => (m / (256 ^ i : Nat), (i : Int))) k (r := m / (256 ^ k : Nat)) (by omega) (fun i hi => by
    have hp : 0 < 256 ^ i := Nat.pow_pos (by decide)
    have a1 : (0 : Int) ≤ m / (256 ^ i : Nat) := Int.ediv_nonneg h1 (by omega)
    have a2 : m / (256 ^ i : Nat) ≤ m := Int.ediv_le_self _ h1
    have e : Int.tdiv (m / (256 ^ i : Nat)) 256 = m / (256 ^ (i + 1) : Nat) := by
      rw [Int.tdiv_eq_ediv_of_nonneg a1, Int.ediv_ediv_of_nonneg (by omega), Nat.pow_succ]; simp
    have b1 : (0 : Int) ≤ m / (256 ^ (i + 1) : Nat) := Int.ediv_nonneg h1 (by omega)
    have b2 : m / (256 ^ (i + 1) : Nat) ≤ m := Int.ediv_le_self _ h1
    have w1 := wr64u b1 (by omega)
    have w2 := wr64 (n := (i : Int) + 1) (by omega) (by omega)
    have hlt : (i : Int) < k := by omega
    simp only [palingref01_Bytes_L2, hlt, e, w1, w2, decide_true, if_true]
    simp) (by simp [palingref01_Bytes_L2])
  simpa using key
theorem r01_step {m : Int} (h1 : 0 ≤ m) (h2 : m < 18446744073709551616) (l : List Int) (hl : l.length ≤ 100) (k : Nat) (hk : k ≤ 5) :
    palingref01_Bytes_L1 m l (k : Int) = some (.inl (l ++ [m / (256 ^ k : Nat) % 256], (k : Int) - 1)) := by
  have h0 : (k : Int) ≥ 0 := by omega
  have a1 : (0 : Int) ≤ m / (256 ^ k : Nat) := Int.ediv_nonneg h1 (Int.natCast_nonneg _)
  have w := wr8 (n := m / (256 ^ k : Nat) % 256) (Int.emod_nonneg _ (by decide)) (Int.emod_lt_of_pos _ (by decide))
  have w2 := wr64 (n := (k : Int) - 1) (by omega) (by omega)
  have hr : roomy 1 (l ++ [m / (256 ^ k : Nat) % 256]) = true := roomy_few (by simp; omega)
  simp only [palingref01_Bytes_L1, h0, bytes_round h1 h2 l k (by omega), Int.tmod_eq_emod_of_nonneg a1, w, w2, hr, decide_true, if_true, Option.bind_some]
theorem r01Bytes_spec {m : Int} (h1 : 0 ≤ m) (h2 : m < 18446744073709551616) : palingref01_Bytes m = some [m / 1099511627776 % 256, m / 4294967296 % 256, m / 16777216 % 256, m / 65536 % 256, m / 256 % 256, m % 256] := by
  unfold palingref01_Bytes
  have e : loopM (fun s : (List Int) × Int => match s with | (l2, v3) => palingref01_Bytes_L1 m l2 v3) ([], 5) = some [m / 1099511627776 % 256, m / 4294967296 % 256, m / 16777216 % 256, m / 65536 % 256, m / 256 % 256, m % 256] := by
    have s5 := r01_step h1 h2 [] (by simp) 5 (by omega)
    have s4 := r01_step h1 h2 [m / 1099511627776 % 256] (by simp) 4 (by omega)
    have s3 := r01_step h1 h2 [m / 1099511627776 % 256, m / 4294967296 % 256] (by simp) 3 (by omega)
    have s2 := r01_step h1 h2 [m / 1099511627776 % 256, m / 4294967296 % 256, m / 16777216 % 256] (by simp) 2 (by omega)
    have s1 := r01_step h1 h2 [m / 1099511627776 % 256, m / 4294967296 % 256, m / 16777216 % 256, m / 65536 % 256] (by simp) 1 (by omega)
    have s0 := r01_step h1 h2 [m / 1099511627776 % 256, m / 4294967296 % 256, m / 16777216 % 256, m / 65536 % 256, m / 256 % 256] (by simp) 0 (by omega)
    simp at s5 s4 s3 s2 s1 s0
    exact loopM_trace (f := fun s : (List Int) × Int => match s with | (l2, v3) => palingref01_Bytes_L1 m l2 v3) (r := [m / 1099511627776 % 256, m / 4294967296 % 256, m / 16777216 % 256, m / 65536 % 256, m / 256 % 256, m % 256]) (fun i => ([m / 1099511627776 % 256, m / 4294967296 % 256, m / 16777216 % 256, m / 65536 % 256, m / 256 % 256, m % 256].take i, 5 - (i : Int))) 6 (by decide) (fun i hi => by
      match i, hi with
      | 0, _ => simpa using s5
      | 1, _ => simpa using s4
      | 2, _ => simpa using s3
      | 3, _ => simpa using s2
      | 4, _ => simpa using s1
      | 5, _ => simpa using s0) (by simp [palingref01_Bytes_L1])
  rw [e]; rfl
theorem r01Group_spec {m : Int} (h1 : 0 ≤ m) (h2 : m < 18446744073709551616) : palingref01_Group m = some (decide (GrpP m)) := by
  have a : (0 : Int) ≤ m / 1099511627776 % 256 := Int.emod_nonneg _ (by decide)
  simp only [palingref01_Group, r01Bytes_spec h1 h2, Option.bind_some]
  have l0 : lin [m / 1099511627776 % 256, m / 4294967296 % 256, m / 16777216 % 256, m / 65536 % 256, m / 256 % 256, m % 256] 0 = true := by rw [lin_dec]; exact decide_eq_true ⟨by decide, by simp⟩
  simp only [l0, if_true]
  have e : ([m / 1099511627776 % 256, m / 4294967296 % 256, m / 16777216 % 256, m / 65536 % 256, m / 256 % 256, m % 256] : List Int)[Int.toNat 0]? = some (m / 1099511627776 % 256) := rfl
  rw [e]
  simp only [Option.bind_some, Int.tmod_eq_emod_of_nonneg a, ibeq]
  refine sdec ?_
  unfold GrpP
  omega

end Go.Eng

set_option linter.unusedVariables false
set_option linter.unusedSectionVars false
set_option linter.unusedSimpArgs false
namespace Go.Eng
open Go Classical
attribute [local congr] ite_cg
end Go.Eng

set_option linter.unusedVariables false
set_option linter.unusedSectionVars false
set_option linter.unusedSimpArgs false
namespace Go.Eng
open Go Classical
attribute [local congr] ite_cg
theorem fdiv_e {a b : Int} (h : 0 ≤ b) : Int.fdiv a b = a / b := Int.fdiv_eq_ediv_of_nonneg a h
end Go.Eng
