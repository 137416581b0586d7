/- Plain laws of chapter 14 (policy): tenants that may be, by the document. -/
import Derived.Test.YtakginbgngjhkaaEngP23c
set_option linter.unusedVariables false
set_option linter.unusedSectionVars false
set_option linter.unusedSimpArgs false
namespace Go.Eng
open Go Classical
attribute [local congr] ite_cg
theorem byteAt_left {a b : ByteArray} {i : Int} (h0 : 0 ≤ i) (h : i < a.size) : byteAt (a ++ b) i = byteAt a i := by
  unfold byteAt
  rw [getElem?_pos (a ++ b) i.toNat (by rw [ByteArray.size_append]; omega), getElem?_pos a i.toNat (by omega), ByteArray.getElem_append_left (by omega)]
theorem byteAt_right {a b : ByteArray} {i : Int} (h : (a.size : Int) ≤ i) (h2 : i < a.size + b.size) : byteAt (a ++ b) i = byteAt b (i - a.size) := by
  unfold byteAt
  have e : (i - a.size).toNat = i.toNat - a.size := by omega
  rw [getElem?_pos (a ++ b) i.toNat (by rw [ByteArray.size_append]; omega), e, getElem?_pos b (i.toNat - a.size) (by omega), ByteArray.getElem_append_right (by omega)]
theorem byteAt_extract {a : ByteArray} {x y : Nat} {i : Int} (h0 : 0 ≤ i) (h : x + i < y) (hy : y ≤ a.size) : byteAt (a.extract x y) i = byteAt a (x + i) := by
  unfold byteAt
  have e : ((x : Int) + i).toNat = x + i.toNat := by omega
  rw [getElem?_pos (a.extract x y) i.toNat (by rw [ByteArray.size_extract]; omega), e, getElem?_pos a (x + i.toNat) (by omega), ByteArray.getElem_extract]
def dotS : ByteArray := ⟨#[46]⟩
def wordS (a b : ByteArray) : ByteArray := (a ++ dotS) ++ b
theorem wordS_size {a b : ByteArray} : (wordS a b).size = a.size + 1 + b.size := by unfold wordS; rw [ByteArray.size_append, ByteArray.size_append]; rfl
theorem wordS_dot {a b : ByteArray} : byteAt (wordS a b) a.size = 46 := by
  unfold wordS
  rw [byteAt_left (by omega) (by rw [ByteArray.size_append]; have : dotS.size = 1 := rfl; omega), byteAt_right (by omega) (by have : dotS.size = 1 := rfl; omega), Int.sub_self]
  rfl
theorem wordS_pre {a b : ByteArray} : (wordS a b).extract 0 a.size = a := by
  have : wordS a b = a ++ (dotS ++ b) := by unfold wordS; exact ByteArray.append_assoc
  rw [this]
  exact ByteArray.extract_append_eq_left rfl
theorem wordS_suf {a b : ByteArray} : (wordS a b).extract (a.size + 1) (wordS a b).size = b := by
  unfold wordS
  exact ByteArray.extract_append_eq_right (by rw [ByteArray.size_append]; rfl) (by rw [ByteArray.size_append])
theorem name_nodot {s : ByteArray} (h : NameP s) {i : Int} (h0 : 0 ≤ i) (h1 : i < s.size) : byteAt s i ≠ 46 := by
  intro e
  have := h.1 i h0 h1
  unfold LetterP DigitP at this
  omega
theorem dot_spec {s : ByteArray} {d : Int} (hs : s.size ≤ 1000000) (d0 : 0 ≤ d) (d1 : d < s.size) (h46 : byteAt s d = 46) (hno : ∀ i : Int, 0 ≤ i → i < d → byteAt s i ≠ 46) : palingref14_dot s = some d := by
  have := loopM_trace (f := palingref14_dot_L1 s) (fun i => (i : Int)) d.toNat (r := Sum.inl d) (by omega) (fun i hi => by
    have hw := wr64 (n := (i : Int) + 1) (by omega) (by omega)
    have c : (i : Int) < (s.size : Int) := by omega
    have hin : decide (0 ≤ (i : Int) ∧ (i : Int) < (s.size : Int)) = true := decide_eq_true ⟨by omega, c⟩
    have hn : (byteAt s (i : Int) == 46) = false := by simpa using hno (i : Int) (by omega) (by omega)
    simp only [palingref14_dot_L1, c, hin, hn, hw, decide_true, if_true, Bool.false_eq_true, if_false]
    simp) (by
    rw [show ((d.toNat : Nat) : Int) = d from by omega]
    have hin : decide (0 ≤ d ∧ d < (s.size : Int)) = true := decide_eq_true ⟨d0, d1⟩
    have hn : (byteAt s d == 46) = true := by simpa using h46
    unfold palingref14_dot_L1
    rw [if_pos (decide_eq_true d1), if_pos hin, if_pos hn])
  unfold palingref14_dot
  rw [show (0 : Int) = ((0 : Nat) : Int) from rfl, this]
  rfl
theorem r03Name_spec {s : ByteArray} (hs : s.size ≤ 1000000) : palingref03_Name s = some (decide (NameP s)) := by
  have hN : NameP s ↔ (∀ i : Int, 0 ≤ i → i < s.size → LetterP (byteAt s i) ∨ (DigitP (byteAt s i) ∧ i ≠ 0)) ∧ 0 < s.size ∧ s.size ≤ 12 := Iff.rfl
  unfold palingref03_Name
  by_cases c1 : (s.size : Int) < 1
  · rw [if_pos (decide_eq_true c1), decide_eq_false (fun h => by have := h.2.1; omega)]
  rw [if_neg (by simpa using c1)]
  by_cases c2 : (s.size : Int) > 12
  · rw [if_pos (decide_eq_true c2), decide_eq_false (fun h => by have := h.2.2; omega)]
  rw [if_neg (by simpa using c2), if_pos (decide_eq_true ⟨by omega, by omega⟩)]
  by_cases c3 : byteAt s 0 < 97
  · rw [if_pos (decide_eq_true c3), decide_eq_false (fun h => by
      have := h.1 0 (by omega) (by omega)
      unfold LetterP DigitP at this
      omega)]
  rw [if_neg (by simpa using c3)]
  by_cases c4 : byteAt s 0 > 122
  · rw [if_pos (decide_eq_true c4), decide_eq_false (fun h => by
      have := h.1 0 (by omega) (by omega)
      unfold LetterP DigitP at this
      omega)]
  rw [if_neg (by simpa using c4)]
  rw [loop_upto (f := palingref03_Name_L1 s) s.size (fun i => LetterP (byteAt s i) ∨ DigitP (byteAt s i)) (.inl ()) (.inr ()) hs (fun i i0 i1 => by
    have hw := wr64 (n := i + 1) (by omega) (by omega)
    have hin : decide (0 ≤ (i : Int) ∧ (i : Int) < (s.size : Int)) = true := decide_eq_true ⟨i0, i1⟩
    simp only [palingref03_Name_L1, i1, hin, hw, decide_true, if_true]
    unfold LetterP DigitP
    generalize byteAt s i = c
    by_cases e1 : c < 97 <;> by_cases e2 : c < 48 <;> by_cases e3 : c > 122 <;> by_cases e4 : c > 57 <;> simp [e1, e2, e3, e4] <;> omega) (by simp [palingref03_Name_L1])]
  have hiff : NameP s ↔ ∀ i : Int, 0 ≤ i → i < s.size → LetterP (byteAt s i) ∨ DigitP (byteAt s i) := by
    rw [hN]
    constructor
    · intro h i i0 i1
      rcases h.1 i i0 i1 with q | q
      · exact .inl q
      · exact .inr q.1
    · intro h
      refine ⟨fun i i0 i1 => ?_, by omega, by omega⟩
      rcases h i i0 i1 with q | q
      · exact .inl q
      · by_cases e : i = 0
        · subst e; unfold LetterP; omega
        · exact .inr ⟨q, e⟩
  by_cases h : ∀ i : Int, 0 ≤ i → i < s.size → LetterP (byteAt s i) ∨ DigitP (byteAt s i)
  · rw [if_pos h, decide_eq_true (hiff.2 h)]; rfl
  · rw [if_neg h, decide_eq_false (fun q => h (hiff.1 q))]; rfl
/-- What one word comes to. -/
theorem row_step {a b : ByteArray} (ha : a.size ≤ 300) (hb : b.size ≤ 300) : ∃ d : Int, palingref14_dot (wordS a b) = some d ∧ 0 ≤ d ∧ d < (wordS a b).size ∧
    ((NameP a ∧ NameP b ∧ d = a.size) ∨ (¬ (NameP a ∧ NameP b) ∧ (¬ NameP ((wordS a b).extract 0 d.toNat) ∨ ¬ NameP ((wordS a b).extract (d + 1).toNat (wordS a b).size)))) := by
  have hsz := wordS_size (a := a) (b := b)
  have hdot := wordS_dot (a := a) (b := b)
  have hin : inL (mkL (wordS a b).size fun x => x) (a.size : Int) := mkL_inL.2 ⟨by omega, by omega⟩
  have hf := fstI_first (l := mkL (wordS a b).size fun x => x) (P := fun i => byteAt (wordS a b) i = 46) hin (by rw [mkL_get hin]; exact hdot)
  have hmem := mkL_inL.1 (fstI_inL.1 hf.1)
  have his := fstI_is hf.1
  rw [mkL_get (fstI_inL.1 hf.1)] at his
  have hno : ∀ i : Int, 0 ≤ i → i < fstI (mkL (wordS a b).size fun x => x) (fun i => byteAt (wordS a b) i = 46) → byteAt (wordS a b) i ≠ 46 := fun i i0 i1 e => by
    have hi : inL (mkL (wordS a b).size fun x => x) i := mkL_inL.2 ⟨i0, by omega⟩
    have := (fstI_first (l := mkL (wordS a b).size fun x => x) (P := fun i => byteAt (wordS a b) i = 46) hi (by rw [mkL_get hi]; exact e)).2
    omega
  generalize fstI (mkL (wordS a b).size fun x => x) (fun i => byteAt (wordS a b) i = 46) = d at *
  refine ⟨d, dot_spec (by omega) hmem.1 hmem.2 his hno, hmem.1, hmem.2, ?_⟩
  by_cases e : d = a.size
  · subst e
    by_cases hn : NameP a ∧ NameP b
    · exact .inl ⟨hn.1, hn.2, rfl⟩
    · refine .inr ⟨hn, ?_⟩
      rw [show ((a.size : Int)).toNat = a.size from by omega, show ((a.size : Int) + 1).toNat = a.size + 1 from by omega, wordS_pre, wordS_suf]
      by_cases h : NameP a
      · exact .inr fun q => hn ⟨h, q⟩
      · exact .inl h
  · have hlt : d < a.size := by omega
    have hda : byteAt a d = 46 := by
      have h1 : byteAt (wordS a b) d = byteAt a d := by
        unfold wordS
        rw [byteAt_left hmem.1 (by rw [ByteArray.size_append]; omega), byteAt_left hmem.1 hlt]
      rw [← h1]; exact his
    refine .inr ⟨fun q => name_nodot q.1 hmem.1 hlt hda, .inr fun q => ?_⟩
    have hx := byteAt_extract (a := wordS a b) (x := (d + 1).toNat) (y := (wordS a b).size) (i := a.size - (d + 1)) (by omega) (by omega) (by omega)
    rw [show ((d + 1).toNat : Int) + (a.size - (d + 1)) = a.size from by omega, hdot] at hx
    exact name_nodot q (by omega) (by rw [ByteArray.size_extract]; omega) hx
theorem sadok_few {a b : ByteArray} (h : a.size + b.size ≤ 1000000) : sadok a b = true := by
  have h2 : ((a.size + b.size : Nat) : Int) ≤ 9223372036854775807 := by omega
  exact decide_eq_true h2
theorem dot_size : (⟨#[46]⟩ : ByteArray).size = 1 := rfl
/-- A tenant's words. -/
noncomputable def wordsT (t : Api_Tenant) : List ByteArray := (pairsT t).map fun q => wordS q.1 q.2
theorem words_loop (T : ByteArray) {t : Api_Tenant} (ht : t.devs.length = t.ports.length) (hd : t.devs.length ≤ 16) (h1 : ∀ s ∈ t.devs, s.size ≤ 300) (h2 : ∀ s ∈ t.ports, s.size ≤ 300) :
    loopM (fun s : (List ByteArray) × Int => match s with | (l2, v3) => palingref14_words_L1 t l2 v3) ([T, t.name], 0) = some (T :: t.name :: wordsT t) := by
  have hl : (pairsT t).length = t.devs.length := by unfold pairsT; rw [List.length_zip]; omega
  have := loopM_trace (f := fun s : (List ByteArray) × Int => match s with | (l2, v3) => palingref14_words_L1 t l2 v3) (fun i => ([T, t.name] ++ ((pairsT t).take i).map (fun q => wordS q.1 q.2), (i : Int))) t.devs.length (r := T :: t.name :: wordsT t) (by omega) (fun i hi => by
    have ik : inL t.devs (i : Int) := ⟨by omega, by omega⟩
    have ip : inL t.ports (i : Int) := ⟨by omega, by omega⟩
    have c : (i : Int) < (t.devs.length : Int) := by omega
    have c2 : (i : Int) < (t.ports.length : Int) := by omega
    have hw := wr64 (n := (i : Int) + 1) (by omega) (by omega)
    have s1 := h1 _ (getI_mem ik)
    have s2 := h2 _ (getI_mem ip)
    have k1 : sadok (getI t.devs (i : Int)) (⟨#[46]⟩ : ByteArray) = true := sadok_few (by rw [dot_size]; omega)
    have k2 : sadok (getI t.devs (i : Int) ++ (⟨#[46]⟩ : ByteArray)) (getI t.ports (i : Int)) = true := sadok_few (by rw [ByteArray.size_append, dot_size]; omega)
    have hwd : (getI t.devs (i : Int) ++ (⟨#[46]⟩ : ByteArray)) ++ getI t.ports (i : Int) = wordS (getI t.devs (i : Int)) (getI t.ports (i : Int)) := rfl
    have k3 : roomy 16 ([T, t.name] ++ ((pairsT t).take i).map (fun q => wordS q.1 q.2) ++ [wordS (getI t.devs (i : Int)) (getI t.ports (i : Int))]) = true := roomy_few (by
      rw [List.length_append, List.length_append, List.length_map, List.length_take, hl]
      have e1 : ([T, t.name] : List ByteArray).length = 2 := rfl
      have e2 : ([wordS (getI t.devs (i : Int)) (getI t.ports (i : Int))] : List ByteArray).length = 1 := rfl
      omega)
    have hg := pairsT_get (t := t) (k := i) hi ht
    have hst : ((pairsT t).take (i + 1)).map (fun q => wordS q.1 q.2) = ((pairsT t).take i).map (fun q => wordS q.1 q.2) ++ [wordS (getI t.devs (i : Int)) (getI t.ports (i : Int))] := by
      rw [List.take_add_one, hg, List.map_append]; rfl
    show palingref14_words_L1 t _ _ = _
    unfold palingref14_words_L1
    rw [if_pos (decide_eq_true c), if_pos (decide_eq_true c2), nth_getI ik, Option.bind_some, if_pos k1, nth_getI ip, Option.bind_some, if_pos k2, hwd, if_pos k3, hst, hw, List.append_assoc]
    rfl) (by
    have c : ¬ ((t.devs.length : Nat) : Int) < (t.devs.length : Int) := by omega
    show palingref14_words_L1 t _ _ = _
    unfold palingref14_words_L1
    rw [if_neg (by simp)]
    unfold wordsT
    rw [List.take_of_length_le (by omega)]
    rfl)
  exact this
theorem words_spec {t : Api_Tenant} (ht : t.devs.length = t.ports.length) (hd : t.devs.length ≤ 16) (h1 : ∀ s ∈ t.devs, s.size ≤ 300) (h2 : ∀ s ∈ t.ports, s.size ≤ 300) : palingref14_words t = some ((⟨#[116, 101, 110, 97, 110, 116]⟩ : ByteArray) :: t.name :: wordsT t) := by
  unfold palingref14_words
  rw [words_loop _ ht hd h1 h2]
  rfl
end Go.Eng
