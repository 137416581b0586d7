/- Plain laws of chapter 42: the example; bits. -/
import Derived.Test.YtlinloabahbioaaEngV2
set_option linter.unusedVariables false
set_option linter.unusedSectionVars false
set_option linter.unusedSimpArgs false
namespace Go.Eng
open Go Classical
attribute [local congr] ite_cg

theorem works42 : palinglaw42_works = some true := by kernel_rfl
theorem andNot64 {a b : Int} (a0 : 0 ≤ a) (a1 : a < 1024) (b0 : 0 ≤ b) (b1 : b < 1024) (h : ∀ t, tb a t = true → tb b t = true) : bits_andNot .i64 a b = 0 := by
  have e : (BitVec.ofInt 64 a &&& ~~~ BitVec.ofInt 64 b) = 0#64 := by
    rw [ofInt_nat _ _ a0, ofInt_nat _ _ b0]
    apply BitVec.eq_of_getLsbD_eq
    intro i hi
    rw [BitVec.getLsbD_and, BitVec.getLsbD_not, BitVec.getLsbD_ofNat, BitVec.getLsbD_ofNat]
    have := h i
    unfold tb at this
    cases c : a.toNat.testBit i
    · simp
    · rw [this c]; simp [hi]
  show wr_i64 (((BitVec.ofInt 64 a &&& ~~~ BitVec.ofInt 64 b).toNat : Nat) : Int) = 0
  rw [e]
  exact wr64 (by decide) (by decide)
theorem shift_bit {x : Int} (x0 : 0 ≤ x) (x1 : x < 1000000000000) {t : Nat} (ht : t ≤ 64) : bits_and .i64 (Int.fdiv x (2 ^ (min (Int.toNat (t : Int)) 64))) 1 = if tb x t = true then 1 else 0 := by
  have hm : min (Int.toNat (t : Int)) 64 = t := by omega
  rw [hm]
  have e1 : Int.fdiv x (2 ^ t) = ((x.toNat / 2 ^ t : Nat) : Int) := by
    rw [Int.fdiv_eq_ediv_of_nonneg _ (by exact Int.le_of_lt (Int.pow_pos (by decide)))]
    conv => lhs; rw [show x = ((x.toNat : Nat) : Int) by omega]
    simp
  have hle : x.toNat / 2 ^ t ≤ x.toNat := Nat.div_le_self _ _
  rw [e1]
  generalize hy : x.toNat / 2 ^ t = y at *
  have e2 : (BitVec.ofInt 64 ((y : Nat) : Int) &&& BitVec.ofInt 64 1).toNat = y % 2 := by
    rw [ofInt_nat _ _ (Int.natCast_nonneg _), ofInt_nat _ _ (by decide), BitVec.toNat_and, BitVec.toNat_ofNat, BitVec.toNat_ofNat, Int.toNat_natCast, Nat.mod_eq_of_lt (by omega)]
    exact Nat.and_one_is_mod y
  show wr_i64 (((BitVec.ofInt 64 ((y : Nat) : Int) &&& BitVec.ofInt 64 1).toNat : Nat) : Int) = _
  rw [e2, wr64 (by omega) (by omega)]
  unfold tb
  rw [Nat.testBit_eq_decide_div_mod_eq, hy]
  by_cases c : y % 2 = 1
  · rw [if_pos (decide_eq_true c), c]; rfl
  · rw [if_neg (by simpa using c), show y % 2 = 0 by omega]; rfl
end Go.Eng
