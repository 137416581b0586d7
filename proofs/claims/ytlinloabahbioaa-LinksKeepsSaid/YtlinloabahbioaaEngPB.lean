/- Plain laws of bits: masks of the lower bits. -/
import Derived.Test.YtlinloabahbioaaEngP1
set_option linter.unusedVariables false
set_option linter.unusedSectionVars false
set_option linter.unusedSimpArgs false
namespace Go.Eng
open Go

theorem wr32 {n : Int} (h1 : 0 ≤ n) (h2 : n < 4294967296) : wr_u32 n = n := by
  unfold wr_u32 IntKind.wrap
  simp [IntKind.signed, IntKind.bits]
  omega
theorem wr64u {n : Int} (h1 : 0 ≤ n) (h2 : n < 18446744073709551616) : wr_u64 n = n := by
  unfold wr_u64 IntKind.wrap
  simp [IntKind.signed, IntKind.bits]
  omega
theorem wr8 {n : Int} (h1 : 0 ≤ n) (h2 : n < 256) : wr_u8 n = n := by
  unfold wr_u8 IntKind.wrap
  simp [IntKind.signed, IntKind.bits]
  omega

theorem low_or (X k : Nat) : X ||| (2 ^ k - 1) = X - X % 2 ^ k + (2 ^ k - 1) := by
  have h : X - X % 2 ^ k = (X / 2 ^ k) * 2 ^ k := by have := Nat.div_add_mod X (2 ^ k); rw [Nat.mul_comm] at this; omega
  rw [h, Nat.mul_comm, Nat.two_pow_add_eq_or_of_lt (by have := Nat.two_pow_pos k; omega)]
  apply Nat.eq_of_testBit_eq
  intro i
  simp only [Nat.testBit_or, Nat.testBit_two_pow_sub_one, Nat.testBit_two_pow_mul, Nat.testBit_div_two_pow]
  by_cases hi : i < k
  · simp [hi]
  · have : k ≤ i := by omega
    simp [hi, this]
theorem low_and (X k n : Nat) (hX : X < 2 ^ n) (hk : k ≤ n) : X &&& (2 ^ n - 1 - (2 ^ k - 1)) = X - X % 2 ^ k := by
  have h : X - X % 2 ^ k = 2 ^ k * (X / 2 ^ k) := by have := Nat.div_add_mod X (2 ^ k); omega
  rw [h]
  apply Nat.eq_of_testBit_eq
  intro i
  have hlt : 2 ^ k - 1 < 2 ^ n := by have := Nat.pow_le_pow_right (by decide : 0 < 2) hk; have := Nat.two_pow_pos k; omega
  rw [Nat.testBit_and, show 2 ^ n - 1 - (2 ^ k - 1) = 2 ^ n - (2 ^ k - 1 + 1) from by omega, Nat.testBit_two_pow_sub_succ hlt, Nat.testBit_two_pow_mul, Nat.testBit_div_two_pow, Nat.testBit_two_pow_sub_one]
  by_cases hi : i < k
  · have : ¬ k ≤ i := by omega
    simp [hi, this]
  · have h2 : k ≤ i := by omega
    by_cases hn : i < n
    · simp [hi, h2, hn]
    · have : X.testBit i = false := Nat.testBit_lt_two_pow (Nat.lt_of_lt_of_le hX (Nat.pow_le_pow_right (by decide) (by omega)))
      simp [hi, h2, hn, this]

theorem ofInt_nat (n : Nat) (x : Int) (h1 : 0 ≤ x) : BitVec.ofInt n x = BitVec.ofNat n x.toNat := by
  have h : BitVec.ofInt n ((x.toNat : Nat) : Int) = BitVec.ofNat n x.toNat := BitVec.ofInt_natCast ..
  rwa [show ((x.toNat : Nat) : Int) = x from by omega] at h

theorem or_u32 {x : Int} {k : Nat} (h1 : 0 ≤ x) (h2 : x < 4294967296) (hk : k ≤ 32) : bits_or .u32 x (2 ^ k - 1 : Nat) = x - x % (2 ^ k : Nat) + ((2 ^ k : Nat) - 1) := by
  have hp := Nat.two_pow_pos k
  have hle : 2 ^ k ≤ 4294967296 := Nat.pow_le_pow_right (n := 2) (by decide) hk
  unfold bits_or
  rw [ofInt_nat _ _ h1, ofInt_nat _ _ (by omega), BitVec.toNat_or, BitVec.toNat_ofNat, BitVec.toNat_ofNat]
  simp only [IntKind.bits, Int.toNat_natCast]
  rw [Nat.mod_eq_of_lt (by omega), Nat.mod_eq_of_lt (by omega), low_or]
  have hm : x.toNat % 2 ^ k < 2 ^ k := Nat.mod_lt _ hp
  have hdm := Nat.div_add_mod x.toNat (2 ^ k)
  have hub : x.toNat - x.toNat % 2 ^ k + (2 ^ k - 1) < 4294967296 := by
    have : x.toNat ||| (2 ^ k - 1) < 2 ^ 32 := Nat.or_lt_two_pow (by omega) (by omega)
    rw [low_or] at this; omega
  have hmod : ((x.toNat % 2 ^ k : Nat) : Int) = x % (2 ^ k : Nat) := by rw [Int.natCast_emod]; congr 1; omega
  have hle2 : x.toNat % 2 ^ k ≤ x.toNat := Nat.mod_le _ _
  have := wr32 (n := ((x.toNat - x.toNat % 2 ^ k + (2 ^ k - 1) : Nat) : Int)) (by omega) (by omega)
  unfold wr_u32 at this
  rw [this, ← hmod]
  omega

theorem andNot_u32 {x : Int} {k : Nat} (h1 : 0 ≤ x) (h2 : x < 4294967296) (hk : k ≤ 32) : bits_andNot .u32 x (2 ^ k - 1 : Nat) = x - x % (2 ^ k : Nat) := by
  have hp := Nat.two_pow_pos k
  have hle : 2 ^ k ≤ 4294967296 := Nat.pow_le_pow_right (n := 2) (by decide) hk
  unfold bits_andNot
  rw [ofInt_nat _ _ h1, ofInt_nat _ _ (by omega), BitVec.toNat_and, BitVec.toNat_not, BitVec.toNat_ofNat, BitVec.toNat_ofNat]
  simp only [IntKind.bits, Int.toNat_natCast]
  rw [Nat.mod_eq_of_lt (by omega), Nat.mod_eq_of_lt (by omega), low_and _ k 32 (by omega) hk]
  have hm : x.toNat % 2 ^ k < 2 ^ k := Nat.mod_lt _ hp
  have hmod : ((x.toNat % 2 ^ k : Nat) : Int) = x % (2 ^ k : Nat) := by rw [Int.natCast_emod]; congr 1; omega
  have hle2 : x.toNat % 2 ^ k ≤ x.toNat := Nat.mod_le _ _
  have := wr32 (n := ((x.toNat - x.toNat % 2 ^ k : Nat) : Int)) (by omega) (by omega)
  unfold wr_u32 at this
  rw [this, ← hmod]
  omega

theorem xor_zero {a b : Nat} (h : a ^^^ b = 0) : a = b := by
  apply Nat.eq_of_testBit_eq; intro i
  have := congrArg (fun q => q.testBit i) h
  simp only [Nat.testBit_xor, Nat.zero_testBit] at this
  simpa using this
theorem xor_low {x y k : Nat} : (x ^^^ y) - (x ^^^ y) % 2 ^ k = 0 ↔ x / 2 ^ k = y / 2 ^ k := by
  have h : (x ^^^ y) - (x ^^^ y) % 2 ^ k = 2 ^ k * ((x ^^^ y) / 2 ^ k) := by have := Nat.div_add_mod (x ^^^ y) (2 ^ k); omega
  rw [h]
  have hp := Nat.two_pow_pos k
  have h2 : (x ^^^ y) / 2 ^ k = (x / 2 ^ k) ^^^ (y / 2 ^ k) := by
    apply Nat.eq_of_testBit_eq; intro i
    simp [Nat.testBit_div_two_pow]
  rw [h2]
  constructor
  · intro h3
    have : (x / 2 ^ k) ^^^ (y / 2 ^ k) = 0 := by
      rcases Nat.mul_eq_zero.1 h3 with h4 | h4
      · omega
      · exact h4
    exact xor_zero this
  · intro h3; rw [h3]; simp
theorem xorNot_u32 {x y : Int} {k : Nat} (h1 : 0 ≤ x) (h2 : x < 4294967296) (h3 : 0 ≤ y) (h4 : y < 4294967296) (hk : k ≤ 32) :
    bits_andNot .u32 (bits_xor .u32 x y) (2 ^ k - 1 : Nat) = 0 ↔ x / (2 ^ k : Nat) = y / (2 ^ k : Nat) := by
  have e : bits_xor .u32 x y = ((x.toNat ^^^ y.toNat : Nat) : Int) := by
    unfold bits_xor
    rw [ofInt_nat _ _ h1, ofInt_nat _ _ h3, BitVec.toNat_xor, BitVec.toNat_ofNat, BitVec.toNat_ofNat]
    simp only [IntKind.bits]
    rw [Nat.mod_eq_of_lt (by omega), Nat.mod_eq_of_lt (by omega)]
    have : x.toNat ^^^ y.toNat < 2 ^ 32 := Nat.xor_lt_two_pow (by omega) (by omega)
    exact wr32 (by omega) (by omega)
  have hlt : x.toNat ^^^ y.toNat < 2 ^ 32 := Nat.xor_lt_two_pow (by omega) (by omega)
  rw [e, andNot_u32 (by omega) (by omega) hk]
  have h5 := @xor_low x.toNat y.toNat k
  have h6 : (((x.toNat ^^^ y.toNat) % 2 ^ k : Nat) : Int) = ((x.toNat ^^^ y.toNat : Nat) : Int) % (2 ^ k : Nat) := Int.natCast_emod _ _
  have h7 : ((x.toNat / 2 ^ k : Nat) : Int) = x / (2 ^ k : Nat) := by rw [Int.natCast_ediv]; congr 1; omega
  have h8 : ((y.toNat / 2 ^ k : Nat) : Int) = y / (2 ^ k : Nat) := by rw [Int.natCast_ediv]; congr 1; omega
  rw [← h6, ← h7, ← h8]
  have h9 : (x.toNat ^^^ y.toNat) % 2 ^ k ≤ (x.toNat ^^^ y.toNat) := Nat.mod_le _ _
  constructor
  · intro h; have := h5.1 (by omega); omega
  · intro h; have := h5.2 (by omega); omega
end Go.Eng
