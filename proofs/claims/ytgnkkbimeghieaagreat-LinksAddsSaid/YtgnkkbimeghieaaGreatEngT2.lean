/- Plain laws of chapter 01: every address has a text. -/
import Derived.Test.YtgnkkbimeghieaaGreatEngT1
set_option linter.unusedVariables false
set_option linter.unusedSectionVars false
set_option linter.unusedSimpArgs false
namespace Go.Eng
open Go Classical

theorem linT1 {α : Type} {l : List α} {i : Int} (h : inL l i) : lin l i = true := by rw [lin_dec]; exact decide_eq_true h
theorem rBytes_tot {m : Int} (m0 : 0 ≤ m) (m1 : m < 18446744073709551616) : ∃ l, palingref01_Bytes m = some l ∧ l.length = 6 ∧ ∀ x ∈ l, 0 ≤ x ∧ x < 256 := by
  have inner : ∀ (l2 : List Int) (j : Nat), j ≤ 5 → ∃ v, loopM (fun s : Int × Int => match s with | (v5, v6) => palingref01_Bytes_L2 m l2 (j : Int) v5 v6) (m, 0) = some v ∧ 0 ≤ v ∧ v < 18446744073709551616 := fun l2 j hj =>
    loopM_rule (f := fun s : Int × Int => match s with | (v5, v6) => palingref01_Bytes_L2 m l2 (j : Int) v5 v6) (fun s => 0 ≤ s.1 ∧ s.1 < 18446744073709551616 ∧ 0 ≤ s.2 ∧ s.2 ≤ j) (fun v => 0 ≤ v ∧ v < 18446744073709551616) (fun s => (j - s.2).toNat) (s := (m, 0)) (fun s hI => by
      obtain ⟨v, i⟩ := s
      obtain ⟨v0, v1, i0, i1⟩ := hI
      simp only at v0 v1 i0 i1 ⊢
      by_cases c : i < (j : Int)
      · have e : Int.tdiv v 256 = v / 256 := Int.tdiv_eq_ediv_of_nonneg v0
        have hw : wr_u64 (v / 256) = v / 256 := wr64u (by omega) (by omega)
        exact ⟨.inl (v / 256, i + 1), by simp only [palingref01_Bytes_L2]; rw [if_pos (by simpa using c), e, hw, wr64 (by omega) (by omega)], ⟨by simp only; omega, by simp only; omega, by simp only; omega, by simp only; omega⟩, by simp only; omega⟩
      · exact ⟨.inr v, by simp only [palingref01_Bytes_L2]; rw [if_neg (by simpa using c)], v0, v1⟩) ⟨m0, m1, by simp, by simp⟩ (by simp only; omega)
  obtain ⟨l, e, h1, h2⟩ := loopM_rule (f := fun s : (List Int) × Int => match s with | (l2, v3) => palingref01_Bytes_L1 m l2 v3) (fun s => -1 ≤ s.2 ∧ s.2 ≤ 5 ∧ (s.1.length : Int) = 5 - s.2 ∧ ∀ x ∈ s.1, 0 ≤ x ∧ x < 256) (fun l => l.length = 6 ∧ ∀ x ∈ l, 0 ≤ x ∧ x < 256) (fun s => (s.2 + 1).toNat) (s := ([], 5)) (fun s hI => by
      obtain ⟨l, j⟩ := s
      obtain ⟨j0, j1, hl, hb⟩ := hI
      simp only at j0 j1 hl hb ⊢
      by_cases c : 0 ≤ j
      · obtain ⟨k, rfl⟩ : ∃ k : Nat, j = (k : Int) := ⟨j.toNat, by omega⟩
        obtain ⟨v, e, v0, v1⟩ := inner l k (by omega)
        have e2 : Int.tmod v 256 = v % 256 := Int.tmod_eq_emod_of_nonneg v0
        have e3 : wr_u8 (v % 256) = v % 256 := wr8 (by omega) (by omega)
        refine ⟨.inl (l ++ [v % 256], (k : Int) - 1), ?_, ⟨by simp only; omega, by simp only; omega, by simp; omega, fun x hx => ?_⟩, by simp only; omega⟩
        · simp only [palingref01_Bytes_L1]
          rw [if_pos (by simp), e, Option.bind_some, e2, e3, if_pos (roomy_few (by simp; omega)), wr64 (by omega) (by omega)]
        · rcases List.mem_append.1 hx with hx | hx
          · exact hb x hx
          · rw [List.mem_singleton] at hx; subst hx; omega
      · refine ⟨.inr l, by simp only [palingref01_Bytes_L1]; rw [if_neg (by simpa using c)], by omega, hb⟩) ⟨by simp, by simp, by simp, by simp⟩ (by simp)
  exact ⟨l, by unfold palingref01_Bytes; rw [e]; rfl, h1, h2⟩
theorem rMac_tot {m : Int} (m0 : 0 ≤ m) (m1 : m < 18446744073709551616) : ∃ s, palingref01_Text m = some s := by
  obtain ⟨l, e, h1, h2⟩ := rBytes_tot m0 m1
  have hmax : IntKind.i64.max = 9223372036854775807 := by decide
  obtain ⟨s, e2, _⟩ := loopM_rule (f := fun s : ByteArray × Int => match s with | (v5, v6) => palingref01_Text_L1 l v5 v6) (fun s => 0 ≤ s.2 ∧ s.2 ≤ 6 ∧ (s.1.size : Int) ≤ 100 * s.2) (fun _ => True) (fun s => (6 - s.2).toNat) (s := ((⟨#[]⟩ : ByteArray), 0)) (fun s hI => by
      obtain ⟨s, j⟩ := s
      obtain ⟨j0, j1, hs⟩ := hI
      simp only at j0 j1 hs ⊢
      by_cases c : j < 6
      · have hj : inL l j := ⟨j0, by omega⟩
        have hx := h2 _ (getI_mem hj)
        generalize hgx : getI l j = x at *
        have e1 : Int.tdiv x 16 = x / 16 := Int.tdiv_eq_ediv_of_nonneg hx.1
        have e2 : Int.tmod x 16 = x % 16 := Int.tmod_eq_emod_of_nonneg hx.1
        have w1 : wr_u8 (x / 16) = x / 16 := wr8 (by omega) (by omega)
        have w2 : wr_u8 (x / 16 + 1) = x / 16 + 1 := wr8 (by omega) (by omega)
        have w3 : wr_u8 (x % 16 + 1) = x % 16 + 1 := wr8 (by omega) (by omega)
        have h16 : (⟨#[48, 49, 50, 51, 52, 53, 54, 55, 56, 57, 97, 98, 99, 100, 101, 102]⟩ : ByteArray).size = 16 := rfl
        have hJ : ∃ u : ByteArray, palingref01_Text_J2 l s j = some u ∧ u.size ≤ s.size + 1 := by
          unfold palingref01_Text_J2
          by_cases c2 : j > 0
          · have hsd : sadok s (⟨#[58]⟩ : ByteArray) = true := by
              unfold sadok
              have : (⟨#[58]⟩ : ByteArray).size = 1 := rfl
              rw [hmax, this]; simp; omega
            rw [if_pos (by simpa using c2), if_pos hsd]
            exact ⟨_, rfl, by rw [ByteArray.size_append]; exact Nat.le_refl _⟩
          · rw [if_neg (by simpa using c2)]
            exact ⟨s, rfl, by omega⟩
        obtain ⟨u, eu, hu⟩ := hJ
        have hex : ∀ (a b : Nat), (ByteArray.extract (⟨#[48, 49, 50, 51, 52, 53, 54, 55, 56, 57, 97, 98, 99, 100, 101, 102]⟩ : ByteArray) a b).size ≤ 16 := fun a b => by rw [ByteArray.size_extract, h16]; omega
        have hsd : ∀ (a b : ByteArray), a.size ≤ 1000 → b.size ≤ 1000 → sadok a b = true := fun a b h1 h2 => by
          unfold sadok; rw [hmax]; simp; omega
        generalize hA : (⟨#[48, 49, 50, 51, 52, 53, 54, 55, 56, 57, 97, 98, 99, 100, 101, 102]⟩ : ByteArray) = A at *
        have s1 := hex (x / 16).toNat (x / 16 + 1).toNat
        have s2 := hex (x % 16).toNat (x % 16 + 1).toNat
        refine ⟨.inl ((u ++ A.extract (x / 16).toNat (x / 16 + 1).toNat) ++ A.extract (x % 16).toNat (x % 16 + 1).toNat, j + 1), ?_, ⟨by simp only; omega, by simp only; omega, by simp only [ByteArray.size_append]; omega⟩, by simp only; omega⟩
        simp only [palingref01_Text_L1]
        rw [if_pos (by simpa using c), eu, Option.bind_some]
        rw [if_pos (linT1 hj), getI_get? hj, hgx, Option.bind_some, Option.bind_some, hA, e1, w1, w2, h16, if_pos (by rw [slok_dec]; simp; omega), if_pos (hsd _ _ (by omega) (by omega)), Option.bind_some, Option.bind_some, e2, w3, if_pos (by rw [slok_dec]; simp; omega), if_pos (hsd _ _ (by rw [ByteArray.size_append]; omega) (by omega)), wr64 (by omega) (by omega)]
      · exact ⟨.inr s, by simp only [palingref01_Text_L1]; rw [if_neg (by simpa using c)], trivial⟩) ⟨by simp, by simp, by decide⟩ (by simp only; omega)
  refine ⟨s, ?_⟩
  unfold palingref01_Text
  rw [e, Option.bind_some]
  show (loopM (fun s : ByteArray × Int => match s with | (v5, v6) => palingref01_Text_L1 l v5 v6) ((⟨#[]⟩ : ByteArray), 0)).bind _ = _
  rw [e2]; rfl
end Go.Eng
