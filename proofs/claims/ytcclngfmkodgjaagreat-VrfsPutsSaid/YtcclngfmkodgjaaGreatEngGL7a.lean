/- Part of the proof of VrfsPuts: plain laws of the printed mirrors. No conditions. -/
import Derived.Test.YtcclngfmkodgjaaGreatEngGP1
import Derived.Test.YtcclngfmkodgjaaGreatMAM
set_option linter.unusedVariables false
set_option linter.unusedSectionVars false
set_option linter.unusedSimpArgs false
namespace Go.Eng
open Go Classical
attribute [local congr] ite_cg

/-! ### One bit of a number -/
theorem okU64 {x : Int} (h : okI .u64 x) : 0 ≤ x ∧ x < 18446744073709551616 := ⟨h.1, by have : x ≤ 18446744073709551615 := h.2; omega⟩
/-! ### Bytes of an address -/
theorem bytes_round {m : Int} (h1 : 0 ≤ m) (h2 : m < 18446744073709551616) (l : List Int) (k : Nat) (hk : k ≤ 6) :
    loopM (fun s : Int × Int => match s with | (v5, v6) => palingref01_Bytes_L2 m l (k : Int) v5 v6) (m, 0) = some (m / (256 ^ k : Nat)) := by
  have key := loopM_trace (f := fun s : Int × Int => match s with | (v5, v6) => palingref01_Bytes_L2 m l (k : Int) v5 v6) (fun i => (m / (256 ^ i : Nat), (i : Int))) k (r := m / (256 ^ k : Nat)) (by omega) (fun i hi => by
    have hp : 0 < 256 ^ i := Nat.pow_pos (by decide)
    have a1 : (0 : Int) ≤ m / (256 ^ i : Nat) := Int.ediv_nonneg h1 (by omega)
    have a2 : m / (256 ^ i : Nat) ≤ m := Int.ediv_le_self _ h1
    have e : Int.tdiv (m / (256 ^ i : Nat)) 256 = m / (256 ^ (i + 1) : Nat) := by
      rw [Int.tdiv_eq_ediv_of_nonneg a1, Int.ediv_ediv_of_nonneg (by omega), Nat.pow_succ]; simp
    have b1 : (0 : Int) ≤ m / (256 ^ (i + 1) : Nat) := Int.ediv_nonneg h1 (by omega)
    have b2 : m / (256 ^ (i + 1) : Nat) ≤ m := Int.ediv_le_self _ h1
    have w1 := wr64u b1 (by omega)
    have w2 := wr64 (n := (i : Int) + 1) (by omega) (by omega)
    have hlt : (i : Int) < k := by omega
    simp only [palingref01_Bytes_L2, hlt, e, w1, w2, decide_true, if_true]
    simp) (by simp [palingref01_Bytes_L2])
  simpa using key
theorem r01_step {m : Int} (h1 : 0 ≤ m) (h2 : m < 18446744073709551616) (l : List Int) (hl : l.length ≤ 100) (k : Nat) (hk : k ≤ 5) :
    palingref01_Bytes_L1 m l (k : Int) = some (.inl (l ++ [m / (256 ^ k : Nat) % 256], (k : Int) - 1)) := by
  have h0 : (k : Int) ≥ 0 := by omega
  have a1 : (0 : Int) ≤ m / (256 ^ k : Nat) := Int.ediv_nonneg h1 (Int.natCast_nonneg _)
  have w := wr8 (n := m / (256 ^ k : Nat) % 256) (Int.emod_nonneg _ (by decide)) (Int.emod_lt_of_pos _ (by decide))
  have w2 := wr64 (n := (k : Int) - 1) (by omega) (by omega)
  have hr : roomy 1 (l ++ [m / (256 ^ k : Nat) % 256]) = true := roomy_few (by simp; omega)
  simp only [palingref01_Bytes_L1, h0, bytes_round h1 h2 l k (by omega), Int.tmod_eq_emod_of_nonneg a1, w, w2, hr, decide_true, if_true, Option.bind_some]
theorem r01Bytes_spec {m : Int} (h1 : 0 ≤ m) (h2 : m < 18446744073709551616) : palingref01_Bytes m = some [m / 1099511627776 % 256, m / 4294967296 % 256, m / 16777216 % 256, m / 65536 % 256, m / 256 % 256, m % 256] := by
  unfold palingref01_Bytes
  have e : loopM (fun s : (List Int) × Int => match s with | (l2, v3) => palingref01_Bytes_L1 m l2 v3) ([], 5) = some [m / 1099511627776 % 256, m / 4294967296 % 256, m / 16777216 % 256, m / 65536 % 256, m / 256 % 256, m % 256] := by
    have s5 := r01_step h1 h2 [] (by simp) 5 (by omega)
    have s4 := r01_step h1 h2 [m / 1099511627776 % 256] (by simp) 4 (by omega)
    have s3 := r01_step h1 h2 [m / 1099511627776 % 256, m / 4294967296 % 256] (by simp) 3 (by omega)
    have s2 := r01_step h1 h2 [m / 1099511627776 % 256, m / 4294967296 % 256, m / 16777216 % 256] (by simp) 2 (by omega)
    have s1 := r01_step h1 h2 [m / 1099511627776 % 256, m / 4294967296 % 256, m / 16777216 % 256, m / 65536 % 256] (by simp) 1 (by omega)
    have s0 := r01_step h1 h2 [m / 1099511627776 % 256, m / 4294967296 % 256, m / 16777216 % 256, m / 65536 % 256, m / 256 % 256] (by simp) 0 (by omega)
    simp at s5 s4 s3 s2 s1 s0
    exact loopM_trace (f := fun s : (List Int) × Int => match s with | (l2, v3) => palingref01_Bytes_L1 m l2 v3) (r := [m / 1099511627776 % 256, m / 4294967296 % 256, m / 16777216 % 256, m / 65536 % 256, m / 256 % 256, m % 256]) (fun i => ([m / 1099511627776 % 256, m / 4294967296 % 256, m / 16777216 % 256, m / 65536 % 256, m / 256 % 256, m % 256].take i, 5 - (i : Int))) 6 (by decide) (fun i hi => by
      match i, hi with
      | 0, _ => simpa using s5
      | 1, _ => simpa using s4
      | 2, _ => simpa using s3
      | 3, _ => simpa using s2
      | 4, _ => simpa using s1
      | 5, _ => simpa using s0) (by simp [palingref01_Bytes_L1])
  rw [e]; rfl
end Go.Eng

set_option linter.unusedVariables false
set_option linter.unusedSectionVars false
set_option linter.unusedSimpArgs false
namespace Go.Eng
open Go Classical
attribute [local congr] ite_cg
end Go.Eng

set_option linter.unusedVariables false
set_option linter.unusedSectionVars false
set_option linter.unusedSimpArgs false
namespace Go.Eng
open Go Classical
attribute [local congr] ite_cg
end Go.Eng
