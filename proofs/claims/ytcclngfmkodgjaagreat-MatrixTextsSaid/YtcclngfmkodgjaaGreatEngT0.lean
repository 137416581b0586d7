/- Plain laws of chapter 03 (numbers as texts): a number written in decimal digits is read again. -/
import Derived.Test.YtcclngfmkodgjaaGreatEngGP1
set_option linter.unusedVariables false
set_option linter.unusedSectionVars false
set_option linter.unusedSimpArgs false
namespace Go.Eng
open Go Classical

def digL (m : Nat) : List Int := if h : m < 10 then [48 + (m : Int)] else digL (m / 10) ++ [48 + ((m % 10 : Nat) : Int)]
termination_by m
decreasing_by omega
theorem digL_lt {m : Nat} (h : m < 10) : digL m = [48 + (m : Int)] := by rw [digL, dif_pos h]
theorem digL_ge {m : Nat} (h : 10 ≤ m) : digL m = digL (m / 10) ++ [48 + ((m % 10 : Nat) : Int)] := by rw [digL, dif_neg (by omega)]
theorem digL_len : ∀ (k m : Nat), m < 10 ^ (k + 1) → (digL m).length ≤ k + 1 ∧ 1 ≤ (digL m).length
  | 0, m, h => by rw [digL_lt (by omega)]; simp
  | k + 1, m, h => by
    by_cases c : m < 10
    · rw [digL_lt c]; simp
    · have := digL_len k (m / 10) (by rw [Nat.pow_succ] at h; omega)
      rw [digL_ge (by omega)]; simp; omega
theorem bstr_app {a b : List Int} : bstr a ++ bstr b = bstr (a ++ b) := by
  unfold bstr
  apply ByteArray.ext
  simp
theorem bstr_size {l : List Int} : (bstr l).size = l.length := by
  show (bstr l).data.size = _
  unfold bstr
  simp
theorem digits_spec {m : Nat} (hm : m ≤ 9223372036854775808) : palingref03_digits (m : Int) = some (bstr (digL m)) := by
  have hlen := (digL_len 19 m (by omega)).1
  obtain ⟨⟨v, s⟩, e, w, hw, w10, t, ht, k3, k4⟩ := loopM_rule (f := fun s : Int × ByteArray => match s with | (v2, v3) => palingref03_digits_L1 v2 v3)
    (fun s => ∃ (v : Nat) (t : List Int), s = ((v : Int), bstr t) ∧ digL m = digL v ++ t ∧ v ≤ m)
    (fun r => ∃ (v : Nat), r.1 = (v : Int) ∧ v < 10 ∧ ∃ t, r.2 = bstr t ∧ digL m = digL v ++ t ∧ v ≤ m) (fun s => s.1.toNat) (s := ((m : Int), (⟨#[]⟩ : ByteArray))) (fun s hI => by
      obtain ⟨v, t, rfl, h1, h2⟩ := hI
      by_cases c : v < 10
      · exact ⟨.inr ((v : Int), bstr t), by simp only [palingref03_digits_L1]; rw [if_neg (by simp; omega)], v, rfl, c, t, rfl, h1, h2⟩
      · have e1 : Int.tmod (v : Int) 10 = ((v % 10 : Nat) : Int) := by rw [Int.tmod_eq_emod_of_nonneg (by omega)]; simp
        have e2 : Int.tdiv (v : Int) 10 = ((v / 10 : Nat) : Int) := by rw [Int.tdiv_eq_ediv_of_nonneg (by omega)]; simp
        have e3 : wr_u64 ((v / 10 : Nat) : Int) = ((v / 10 : Nat) : Int) := wr64u (by omega) (by omega)
        have e4 : wr_u8 (wr_u64 (48 + ((v % 10 : Nat) : Int))) = 48 + ((v % 10 : Nat) : Int) := by rw [wr64u (by omega) (by omega), wr8 (by omega) (by omega)]
        have hsad : sadok (bstr [48 + ((v % 10 : Nat) : Int)]) (bstr t) = true := by
          unfold sadok
          rw [bstr_size, bstr_size]
          have : IntKind.i64.max = 9223372036854775807 := by decide
          have hl := congrArg List.length h1
          rw [List.length_append] at hl
          rw [this]; simp; omega
        refine ⟨.inl (((v / 10 : Nat) : Int), bstr ([48 + ((v % 10 : Nat) : Int)] ++ t)), ?_, ⟨v / 10, [48 + ((v % 10 : Nat) : Int)] ++ t, rfl, ?_, by omega⟩, by simp only; omega⟩
        · simp only [palingref03_digits_L1]
          rw [if_pos (by simp; omega), e1, e2, e3, e4, if_pos hsad, bstr_app]
        · rw [h1, digL_ge (by omega), List.append_assoc]) ⟨m, [], by rfl, by simp, by simp⟩ (by simp only; omega)
  simp only at hw ht
  subst hw; subst ht
  have e4 : wr_u8 (wr_u64 (48 + (w : Int))) = 48 + (w : Int) := by rw [wr64u (by omega) (by omega), wr8 (by omega) (by omega)]
  have hsad : sadok (bstr [48 + (w : Int)]) (bstr t) = true := by
    unfold sadok
    rw [bstr_size, bstr_size]
    have : IntKind.i64.max = 9223372036854775807 := by decide
    have hl := congrArg List.length k3
    rw [List.length_append] at hl
    rw [this]; simp; omega
  unfold palingref03_digits
  rw [e, Option.bind_some]
  simp only
  rw [e4, if_pos hsad, bstr_app, k3, digL_lt w10]
def textI (n : Int) : ByteArray := if n < 0 then bstr (45 :: digL (-n).toNat) else bstr (digL n.toNat)
theorem rText_spec {n : Int} (h1 : -9223372036854775808 ≤ n) (h2 : n < 9223372036854775808) : palingref03_Text n = some (textI n) := by
  unfold palingref03_Text textI
  by_cases c : n < 0
  · have e1 : wr_u64 ((wr_u64 (wr_i64 (0 - (wr_i64 (n + 1))))) + 1) = (((-n).toNat : Nat) : Int) := by
      rw [wr64 (n := n + 1) (by omega) (by omega), wr64 (by omega) (by omega), wr64u (n := 0 - (n + 1)) (by omega) (by omega), wr64u (by omega) (by omega)]
      omega
    have hsad : sadok (⟨#[45]⟩ : ByteArray) (bstr (digL (-n).toNat)) = true := by
      have hl := (digL_len 19 (-n).toNat (by omega)).1
      unfold sadok
      have h45 : (⟨#[45]⟩ : ByteArray).size = 1 := rfl
      have : IntKind.i64.max = 9223372036854775807 := by decide
      rw [bstr_size, this, h45]; simp; omega
    rw [if_pos (by simpa using c), e1, digits_spec (by omega), Option.bind_some, if_pos hsad, if_pos c]
    have : (⟨#[45]⟩ : ByteArray) = bstr [45] := rfl
    rw [this, bstr_app]; rfl
  · have e1 : wr_u64 n = ((n.toNat : Nat) : Int) := by rw [wr64u (by omega) (by omega)]; omega
    rw [if_neg (by simpa using c), e1, digits_spec (by omega), Option.bind_some, if_neg c]
end Go.Eng
