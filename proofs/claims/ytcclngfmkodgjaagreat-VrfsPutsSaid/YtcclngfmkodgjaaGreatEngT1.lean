/- Plain laws of chapter 03: what is written is read again. -/
import Derived.Test.YtcclngfmkodgjaaGreatEngT0
import Derived.Test.YtcclngfmkodgjaaGreatEngPE
set_option linter.unusedVariables false
set_option linter.unusedSectionVars false
set_option linter.unusedSimpArgs false
namespace Go.Eng
open Go Classical

def DigP (l : List Int) : Prop := ∀ x ∈ l, 48 ≤ x ∧ x ≤ 57
theorem valD_take {l : List Int} (hl : DigP l) : ∀ j : Nat, j ≤ l.length → 0 ≤ valD (l.take j) ∧ valD (l.take j) < ((10 ^ j : Nat) : Int)
  | 0, _ => by simp [valD]
  | j + 1, h => by
    have hx : l[j]? = some l[j] := List.getElem?_eq_getElem (by omega)
    have ih := valD_take hl j (by omega)
    have hd := hl l[j] (List.getElem_mem _)
    rw [List.take_add_one, hx]
    show 0 ≤ valD (l.take j ++ [l[j]]) ∧ valD (l.take j ++ [l[j]]) < _
    rw [valD_app, Nat.pow_succ]
    omega
theorem pow10 {j : Nat} (h : j ≤ 10) : ((10 ^ j : Nat) : Int) ≤ 10000000000 := by
  have : 10 ^ j ≤ 10 ^ 10 := Nat.pow_le_pow_right (by decide) h
  omega
theorem read_loop {l : List Int} {k : Nat} (hk : k ≤ l.length) (hb : ∀ x ∈ l, 0 ≤ x ∧ x < 256) (hd : DigP (l.drop k)) (hl : l.length ≤ k + 10) (hk1 : k ≤ 1) {lo hi : Int} :
    loopM (fun s : Int × Int => match s with | (v13, v14) => palingref03_Read_L2 (bstr l) lo hi (k : Int) v13 v14) (0, (k : Int)) = some (.inr (valD (l.drop k))) := by
  have hlen : (l.drop k).length = l.length - k := by simp
  have e := loopM_trace (f := fun s : Int × Int => match s with | (v13, v14) => palingref03_Read_L2 (bstr l) lo hi (k : Int) v13 v14) (r := Sum.inr (valD (l.drop k))) (fun j => (valD ((l.drop k).take j), (k : Int) + j)) (l.length - k) (by omega) (fun j hj => by
    have hv := valD_take hd j (by omega)
    have hp := pow10 (j := j) (by omega)
    have hx : (l.drop k)[j]? = some (l.drop k)[j] := List.getElem?_eq_getElem (by omega)
    have hdj := hd _ (List.getElem_mem (l := l.drop k) (n := j) (by omega))
    have il : inL l ((k : Int) + j) := ⟨by omega, by omega⟩
    have gx : getI l ((k : Int) + j) = (l.drop k)[j] := by
      rw [List.getElem?_drop] at hx
      have : getI l (((k + j : Nat) : Nat) : Int) = (l.drop k)[j] := getI_nat hx
      rw [← this]; congr 1
    have hby : byteAt (bstr l) ((k : Int) + j) = (l.drop k)[j] := by rw [byteAt_bstr hb il, gx]
    have htk : valD ((l.drop k).take (j + 1)) = valD ((l.drop k).take j) * 10 + (l.drop k)[j] - 48 := by
      rw [List.take_add_one, hx]
      exact valD_app
    generalize (l.drop k)[j] = b at *
    generalize valD ((l.drop k).take j) = v at *
    simp only [palingref03_Read_L2, bstr_size]
    rw [if_pos (by simp; omega), if_pos (by simp; omega), hby, if_neg (by simp; omega), if_neg (by simp; omega), htk, wr64 (n := v * 10) (by omega) (by omega), wr64 (n := b) (by omega) (by omega), wr64 (n := v * 10 + b) (by omega) (by omega), wr64 (n := v * 10 + b - 48) (by omega) (by omega), wr64 (n := (k : Int) + j + 1) (by omega) (by omega)]
    rw [show (k : Int) + j + 1 = (k : Int) + ((j + 1 : Nat) : Int) by omega]) (by
    simp only [palingref03_Read_L2, bstr_size]
    rw [if_neg (by simp; omega), List.take_of_length_le (by omega)])
  simpa [valD] using e
theorem rRead_text {n lo hi : Int} (n1 : -9223372036854775808 ≤ n) (n2 : n < 9223372036854775808) (l0 : 0 ≤ lo) (h1 : hi ≤ 4294967295) : palingref03_Read (textI n) lo hi = some (if lo ≤ n ∧ n ≤ hi then (n, true) else (0, false)) := by
  unfold palingref03_Read
  by_cases c : n < 0
  · have et : textI n = bstr (45 :: digL (-n).toNat) := by unfold textI; rw [if_pos c]
    have hdig : DigP (digL (-n).toNat) := fun x hx => digL_mem _ _ (Nat.le_refl _) x hx
    have hb : ∀ x ∈ (45 :: digL (-n).toNat : List Int), 0 ≤ x ∧ x < 256 := fun x hx => by
      rcases List.mem_cons.1 hx with rfl | hx
      · omega
      · have := hdig x hx; omega
    have hlen := digL_len 19 (-n).toNat (by omega)
    have hv := valD_digL (-n).toNat
    have hb0 : byteAt (bstr (45 :: digL (-n).toNat)) 0 = 45 := by rw [byteAt_bstr hb ⟨by omega, by simp only [List.length_cons]; omega⟩]; rfl
    have hJ : palingref03_Read_J1 (bstr (45 :: digL (-n).toNat)) lo hi = some 1 := by
      unfold palingref03_Read_J1
      rw [bstr_size, if_pos (by simp), if_pos (by simp), hb0]; rfl
    rw [et, hJ, Option.bind_some]
    simp only [bstr_size]
    rw [if_neg (show ¬ (lo ≤ n ∧ n ≤ hi) by omega)]
    have hlc : ((45 :: digL (-n).toNat : List Int).length : Int) = (digL (-n).toNat).length + 1 := by simp
    rw [hlc, wr64 (by omega) (by omega), if_neg (by simp; omega)]
    by_cases c2 : (digL (-n).toNat).length > 10
    · rw [if_pos (by simp; omega)]
    · rw [if_neg (by simp; omega)]
      have e := read_loop (l := 45 :: digL (-n).toNat) (k := 1) (by simp) hb (by simpa using hdig) (by simp; omega) (by omega) (lo := lo) (hi := hi)
      have e' : loopM (fun s : Int × Int => match s with | (v13, v14) => palingref03_Read_L2 (bstr (45 :: digL (-n).toNat)) lo hi 1 v13 v14) (0, 1) = some (.inr (valD (digL (-n).toNat))) := e
      rw [e', Option.bind_some, hv]
      simp only
      have hJ3 : palingref03_Read_J3 (bstr (45 :: digL (-n).toNat)) lo hi 1 (((-n).toNat : Nat) : Int) = some n := by
        unfold palingref03_Read_J3
        rw [if_pos (show ((1 : Int) == 1) = true from rfl), show (0 : Int) - (((-n).toNat : Nat) : Int) = n by omega, wr64 n1 n2]
      rw [hJ3, Option.bind_some, if_pos (by simp; omega)]
  · have et : textI n = bstr (digL n.toNat) := by unfold textI; rw [if_neg c]
    have hdig : DigP (digL n.toNat) := fun x hx => digL_mem _ _ (Nat.le_refl _) x hx
    have hb : ∀ x ∈ digL n.toNat, 0 ≤ x ∧ x < 256 := fun x hx => by have := hdig x hx; omega
    have hlen := digL_len 19 n.toNat (by omega)
    have hv := valD_digL n.toNat
    have i0 : inL (digL n.toNat) 0 := ⟨by omega, by omega⟩
    have hb0 : byteAt (bstr (digL n.toNat)) 0 ≠ 45 := by
      rw [byteAt_bstr hb i0]
      have := hdig _ (getI_mem i0); omega
    have hJ : palingref03_Read_J1 (bstr (digL n.toNat)) lo hi = some 0 := by
      unfold palingref03_Read_J1
      rw [bstr_size, if_pos (by simp; omega), if_pos (by simp; omega), if_neg (by simpa using hb0)]
    have hT := rText_spec n1 n2
    rw [et] at hT
    rw [et, hJ, Option.bind_some]
    simp only [bstr_size]
    rw [Int.sub_zero, wr64 (by omega) (by omega), if_neg (by simp; omega)]
    by_cases c2 : (digL n.toNat).length > 10
    · have : ¬ n.toNat < 10 ^ (9 + 1) := fun h => by have := (digL_len 9 n.toNat h).1; omega
      rw [if_pos (by simp; omega), if_neg (show ¬ (lo ≤ n ∧ n ≤ hi) by omega)]
    · rw [if_neg (by simp; omega)]
      have e := read_loop (l := digL n.toNat) (k := 0) (by omega) hb (by simpa using hdig) (by omega) (by omega) (lo := lo) (hi := hi)
      have e' : loopM (fun s : Int × Int => match s with | (v13, v14) => palingref03_Read_L2 (bstr (digL n.toNat)) lo hi 0 v13 v14) (0, 0) = some (.inr (valD (digL n.toNat))) := e
      rw [e', Option.bind_some, hv]
      simp only
      have hJ3 : palingref03_Read_J3 (bstr (digL n.toNat)) lo hi 0 ((n.toNat : Nat) : Int) = some n := by
        unfold palingref03_Read_J3
        rw [if_neg (by simp), show ((n.toNat : Nat) : Int) = n by omega]
      rw [hJ3, Option.bind_some]
      by_cases q1 : n < lo
      · rw [if_pos (by simpa using q1), if_neg (show ¬ (lo ≤ n ∧ n ≤ hi) by omega)]
      · rw [if_neg (by simpa using q1)]
        by_cases q2 : n > hi
        · rw [if_pos (by simpa using q2), if_neg (show ¬ (lo ≤ n ∧ n ≤ hi) by omega)]
        · rw [if_neg (by simpa using q2), hT, Option.bind_some, seqB_dec, if_neg (by simp), if_pos (show lo ≤ n ∧ n ≤ hi by omega)]
end Go.Eng
