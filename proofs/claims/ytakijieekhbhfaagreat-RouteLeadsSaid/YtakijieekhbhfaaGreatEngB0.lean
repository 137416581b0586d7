/- Bytes as numbers. -/
import Derived.Test.YtakijieekhbhfaaGreatEngL7a
set_option linter.unusedVariables false
set_option linter.unusedSectionVars false
set_option linter.unusedSimpArgs false
namespace Go.Eng
open Go Classical
attribute [local congr] ite_cg
theorem nat_or8 (a x : Nat) (h : x < 256) : a * 256 ||| x = a * 256 + x := by
  have := Nat.two_pow_add_eq_or_of_lt (i := 8) (b := x) (by omega) a
  rw [show a * 256 = 2 ^ 8 * a from by omega, ← this]
theorem or_u64_8 {v x : Int} (h0 : 0 ≤ v) (h1 : v < 72057594037927936) (x0 : 0 ≤ x) (x1 : x < 256) : bits_or .u64 (wr_u64 (v * 2 ^ 8)) (wr_u64 x) = v * 256 + x := by
  rw [wr64u (n := v * 2 ^ 8) (by omega) (by omega), wr64u x0 (by omega)]
  have hv : Int.toNat (v * 2 ^ 8) = v.toNat * 256 := by omega
  unfold bits_or
  rw [ofInt_nat _ _ (by omega), ofInt_nat _ _ x0, BitVec.toNat_or, BitVec.toNat_ofNat, BitVec.toNat_ofNat]
  simp only [IntKind.bits]
  rw [Nat.mod_eq_of_lt (by omega), Nat.mod_eq_of_lt (by omega), hv, nat_or8 _ _ (by omega)]
  have hw := wr64u (n := ((v.toNat * 256 + x.toNat : Nat) : Int)) (by omega) (by omega)
  unfold wr_u64 at hw
  first | (rw [hw]; omega) | omega
theorem or_i64_8 {v x : Int} (h0 : 0 ≤ v) (h1 : v < 256) (x0 : 0 ≤ x) (x1 : x < 256) : bits_or .i64 (wr_i64 ((wr_i64 v) * 2 ^ 8)) (wr_i64 x) = v * 256 + x := by
  rw [wr64 (n := v) (by omega) (by omega), wr64 (n := v * 2 ^ 8) (by omega) (by omega), wr64 (n := x) (by omega) (by omega)]
  have hv : Int.toNat (v * 2 ^ 8) = v.toNat * 256 := by omega
  unfold bits_or
  rw [ofInt_nat _ _ (by omega), ofInt_nat _ _ x0, BitVec.toNat_or, BitVec.toNat_ofNat, BitVec.toNat_ofNat]
  simp only [IntKind.bits]
  rw [Nat.mod_eq_of_lt (by omega), Nat.mod_eq_of_lt (by omega), hv, nat_or8 _ _ (by omega)]
  have hw := wr64 (n := ((v.toNat * 256 + x.toNat : Nat) : Int)) (by omega) (by omega)
  unfold wr_i64 at hw
  first | (rw [hw]; omega) | omega
theorem and_i64_12 {v : Int} (h0 : 0 ≤ v) (h1 : v < 65536) : bits_and .i64 v 4095 = v % 4096 := by
  unfold bits_and
  rw [ofInt_nat _ _ h0, ofInt_nat _ _ (by omega), BitVec.toNat_and, BitVec.toNat_ofNat, BitVec.toNat_ofNat]
  simp only [IntKind.bits]
  rw [Nat.mod_eq_of_lt (by omega), Nat.mod_eq_of_lt (by decide), show (4095 : Int).toNat = 2 ^ 12 - 1 from rfl, Nat.and_two_pow_sub_one_eq_mod]
  have hw := wr64 (n := ((v.toNat % 2 ^ 12 : Nat) : Int)) (by omega) (by omega)
  unfold wr_i64 at hw
  first | (rw [hw]; omega) | omega
theorem kind_ref {x y : Int} (h0 : 0 ≤ x) (h1 : x < 256) (y0 : 0 ≤ y) (y1 : y < 256) : wr_i64 ((wr_i64 ((wr_i64 x) * 256)) + (wr_i64 y)) = x * 256 + y := by
  rw [wr64 (n := x) (by omega) (by omega), wr64 (n := x * 256) (by omega) (by omega), wr64 (n := y) (by omega) (by omega), wr64 (by omega) (by omega)]
/-- Bytes as a number. -/
noncomputable def numB (b : List Int) (o : Int) : Nat → Int
  | 0 => 0
  | k + 1 => numB b o k * 256 + getI b (o + (k : Int))
def BytesP (b : List Int) : Prop := ∀ x ∈ b, 0 ≤ x ∧ x < 256
theorem numB_lt {b : List Int} {o : Int} (hB : BytesP b) (h0 : 0 ≤ o) : ∀ (k : Nat), o + k ≤ b.length → 0 ≤ numB b o k ∧ numB b o k < (256 ^ k : Nat)
  | 0, _ => by simp [numB]
  | k + 1, h => by
    obtain ⟨a1, a2⟩ := numB_lt hB h0 k (by omega)
    obtain ⟨c1, c2⟩ := hB _ (getI_mem (l := b) (i := o + (k : Int)) ⟨by omega, by omega⟩)
    simp only [numB]
    rw [Nat.pow_succ]
    omega
theorem mac_take_num {b : List Int} {o : Int} (hB : BytesP b) (h0 : 0 ≤ o) (h1 : o + 6 ≤ b.length) (hb : b.length ≤ 1000000) : mac_Take b o = some (numB b o 6, true) := by
  unfold mac_Take
  have hw := wr64 (n := (b.length : Int) - 6) (by omega) (by omega)
  rw [if_neg (by simpa using h0), hw, if_neg (by simp; omega)]
  have := loopM_trace (f := fun s : Int × Int => match s with | (v5, v6) => mac_Take_L1 b o v5 v6) (fun i => (numB b o i, (i : Int))) 6 (r := numB b o 6) (by omega) (fun i hi => by
    have hwi := wr64 (n := (i : Int) + 1) (by omega) (by omega)
    have hwo := wr64 (n := o + (i : Int)) (by omega) (by omega)
    have hin : inL b (o + (i : Int)) := ⟨by omega, by omega⟩
    obtain ⟨c1, c2⟩ := hB _ (getI_mem hin)
    obtain ⟨a1, a2⟩ := numB_lt hB h0 i (by omega)
    have hp : 256 ^ i ≤ 256 ^ 6 := Nat.pow_le_pow_right (by decide) (by omega)
    have c : (i : Int) < 6 := by omega
    simp only [mac_Take_L1, c, hwo, nth_getI hin, hwi, decide_true, if_true, Option.bind_some]
    rw [or_u64_8 a1 (by omega) c1 c2]
    simp [numB]) (by simp [mac_Take_L1])
  have e : loopM (fun s : Int × Int => match s with | (v5, v6) => mac_Take_L1 b o v5 v6) (0, 0) = some (numB b o 6) := this
  rw [e]
  rfl
theorem r01_take_num {b : List Int} {o : Int} (hB : BytesP b) (h0 : 0 ≤ o) (h1 : o + 6 ≤ b.length) (hb : b.length ≤ 1000000) : palingref01_Take b o = some (numB b o 6, true) := by
  unfold palingref01_Take
  have hw := wr64 (n := (b.length : Int) - o) (by omega) (by omega)
  have hw2 := wr64 (n := o + 6) (by omega) (by omega)
  rw [if_neg (by simpa using h0), if_neg (by simp; omega), hw, if_neg (by simp; omega), hw2, if_pos (by rw [slok_dec]; exact decide_eq_true (by omega))]
  unfold palingref01_number
  have hlen : (List.drop o.toNat (List.take (o + 6).toNat b)).length = 6 := by simp; omega
  have hget : ∀ i : Int, 0 ≤ i → i < 6 → getI (List.drop o.toNat (List.take (o + 6).toNat b)) i = getI b (o + i) := fun i i0 i1 => by
    unfold getI
    rw [List.getElem?_drop, List.getElem?_take, if_pos (by omega), show o.toNat + i.toNat = (o + i).toNat from by omega]
  generalize List.drop o.toNat (List.take (o + 6).toNat b) = q at *
  have := loopM_trace (f := fun s : Int × Int => match s with | (v2, v3) => palingref01_number_L1 q v2 v3) (fun i => (numB b o i, (i : Int))) 6 (r := numB b o 6) (by omega) (fun i hi => by
    have hwi := wr64 (n := (i : Int) + 1) (by omega) (by omega)
    have hin : inL q (i : Int) := ⟨by omega, by omega⟩
    have hin2 : inL b (o + (i : Int)) := ⟨by omega, by omega⟩
    obtain ⟨c1, c2⟩ := hB _ (getI_mem hin2)
    obtain ⟨a1, a2⟩ := numB_lt hB h0 i (by omega)
    have hp : 256 ^ i ≤ 256 ^ 6 := Nat.pow_le_pow_right (by decide) (by omega)
    have c : (i : Int) < (q.length : Int) := by omega
    simp only [palingref01_number_L1, c, nth_getI hin, hget (i : Int) (by omega) (by omega), hwi, decide_true, if_true, Option.bind_some]
    rw [wr64u (n := numB b o i * 256) (by omega) (by omega), wr64u c1 (by omega), wr64u (by omega) (by omega)]
    simp [numB]) (by simp [palingref01_number_L1, hlen])
  have e : loopM (fun s : Int × Int => match s with | (v2, v3) => palingref01_number_L1 q v2 v3) (0, 0) = some (numB b o 6) := this
  rw [e]
  rfl
end Go.Eng
