/- Plain laws of chapter 11: a link's line, on the reference's side. -/
import Derived.Test.YtgnkkbimeghieaaGreatEngT2
import Derived.Test.YtgnkkbimeghieaaGreatEngGF1
set_option linter.unusedVariables false
set_option linter.unusedSectionVars false
set_option linter.unusedSimpArgs false
namespace Go.Eng
open Go Classical

def linkW : ByteArray := ⟨#[108, 105, 110, 107]⟩
theorem form_link {a b c d : ByteArray} : palingref11_form [linkW, a, b, c, d] = some ⟨#[78, 78, 78, 78]⟩ := by
  unfold palingref11_form
  rw [if_neg (by simp), nth_zero]
  simp only [List.getElem?_cons_zero, Option.bind_some, seqB_dec, linkW]
  rw [if_neg (by decide), if_pos (by decide)]
theorem kind_link : palingref11_kind linkW = some 3 := by
  kernel_rfl
section
variable {a b c d : ByteArray} {row : Int}
abbrev nilS : ByteArray := ⟨#[]⟩
def stL (a b c d : ByteArray) (i : Nat) : (List Int) × (List Int) × (List Int) × ByteArray × ByteArray × ByteArray × ByteArray × ByteArray × Int × Int × Int × Int × Int × Int × Int × Int × (List Int) :=
  ([], [], [], if 0 < i then a else nilS, if 1 < i then b else nilS, if 2 < i then c else nilS, if 3 < i then d else nilS, nilS, 0, 0, 0, 0, 0, 0, (i : Int), (i : Int), [])
def wL (a b c d : ByteArray) (i : Nat) : ByteArray := match i with | 0 => a | 1 => b | 2 => c | _ => d
abbrev fL (a b c d : ByteArray) (row : Int) := fun s : (List Int) × (List Int) × (List Int) × ByteArray × ByteArray × ByteArray × ByteArray × ByteArray × Int × Int × Int × Int × Int × Int × Int × Int × (List Int) => match s with | (l31, l32, l33, v34, v35, v36, v37, v38, v39, v40, v41, v42, v43, v44, v45, v46, l47) => palingref11_Read_L3 [linkW, a, b, c, d] row ⟨#[78, 78, 78, 78]⟩ 3 l31 l32 l33 v34 v35 v36 v37 v38 v39 v40 v41 v42 v43 v44 v45 v46 l47
theorem wordN {x dev port peer far name : ByteArray} {k r kd m1 m2 m3 m4 m5 m6 : Int} {l1 l2 l3 l4 : List Int} (hx : x.size ≤ 1000000) : palingref11_word_own 78 x k r kd dev port peer far name m1 m2 m3 m4 m5 m6 l1 l2 l3 l4 =
    if NameP x then (palingref11_name_own x k r kd dev port peer far name m1 m2 m3 m4 m5 m6 l1 l2 l3 l4).bind (fun q => some (Sum.inl (q.1, q.2.1, q.2.2.1, q.2.2.2.1, q.2.2.2.2, m1, m2, m3, m4, m5, m6, 0))) else some (Sum.inl (dev, port, peer, far, name, m1, m2, m3, m4, m5, m6, 20)) := by
  unfold palingref11_word_own
  rw [if_pos (show ((78 : Int) == 78) = true from rfl), r03Name_spec hx, Option.bind_some]
  by_cases h : NameP x
  · rw [if_neg (by simpa using h), if_pos h]
  · rw [if_pos (by simpa using h), if_neg h]
theorem stepL (ha : a.size ≤ 1000000) (hb : b.size ≤ 1000000) (hc : c.size ≤ 1000000) (hd : d.size ≤ 1000000) {i : Nat} (hi : i < 4) : fL a b c d row (stL a b c d i) = some (if NameP (wL a b c d i) then .inl (stL a b c d (i + 1)) else .inr (.inl 20)) := by
  have b78 : ∀ k : Fin 4, byteAt (⟨#[78, 78, 78, 78]⟩ : ByteArray) (k.val : Int) = 78 := by decide
  have b4 : (⟨#[78, 78, 78, 78]⟩ : ByteArray).size = 4 := rfl
  match i, hi with
  | 0, _ =>
    have h78 : byteAt (⟨#[78, 78, 78, 78]⟩ : ByteArray) 0 = 78 := b78 0
    have hw : wr_i64 (0 + 1) = 1 := wr64 (by decide) (by decide)
    have hx : nth [linkW, a, b, c, d] 1 = some a := rfl
    show palingref11_Read_L3 [linkW, a, b, c, d] row ⟨#[78, 78, 78, 78]⟩ 3 [] [] [] nilS nilS nilS nilS nilS 0 0 0 0 0 0 0 0 [] = some (if NameP a then .inl (stL a b c d 1) else .inr (.inl 20))
    unfold palingref11_Read_L3 palingref11_Read_J4
    rw [b4, if_pos (by decide), if_pos (by decide), hw, hx, Option.bind_some, h78, wordN ha]
    by_cases h : NameP a
    · rw [if_pos h, if_pos h]; rfl
    · rw [if_neg h, if_neg h]; rfl
  | 1, _ =>
    have h78 : byteAt (⟨#[78, 78, 78, 78]⟩ : ByteArray) 1 = 78 := b78 1
    have hw : wr_i64 (1 + 1) = 2 := wr64 (by decide) (by decide)
    have hx : nth [linkW, a, b, c, d] 2 = some b := rfl
    show palingref11_Read_L3 [linkW, a, b, c, d] row ⟨#[78, 78, 78, 78]⟩ 3 [] [] [] a nilS nilS nilS nilS 0 0 0 0 0 0 1 1 [] = some (if NameP b then .inl (stL a b c d 2) else .inr (.inl 20))
    unfold palingref11_Read_L3 palingref11_Read_J4
    rw [b4, if_pos (by decide), if_pos (by decide), hw, hx, Option.bind_some, h78, wordN hb]
    by_cases h : NameP b
    · rw [if_pos h, if_pos h]; rfl
    · rw [if_neg h, if_neg h]; rfl
  | 2, _ =>
    have h78 : byteAt (⟨#[78, 78, 78, 78]⟩ : ByteArray) 2 = 78 := b78 2
    have hw : wr_i64 (2 + 1) = 3 := wr64 (by decide) (by decide)
    have hx : nth [linkW, a, b, c, d] 3 = some c := rfl
    show palingref11_Read_L3 [linkW, a, b, c, d] row ⟨#[78, 78, 78, 78]⟩ 3 [] [] [] a b nilS nilS nilS 0 0 0 0 0 0 2 2 [] = some (if NameP c then .inl (stL a b c d 3) else .inr (.inl 20))
    unfold palingref11_Read_L3 palingref11_Read_J4
    rw [b4, if_pos (by decide), if_pos (by decide), hw, hx, Option.bind_some, h78, wordN hc]
    by_cases h : NameP c
    · rw [if_pos h, if_pos h]; rfl
    · rw [if_neg h, if_neg h]; rfl
  | 3, _ =>
    have h78 : byteAt (⟨#[78, 78, 78, 78]⟩ : ByteArray) 3 = 78 := b78 3
    have hw : wr_i64 (3 + 1) = 4 := wr64 (by decide) (by decide)
    have hx : nth [linkW, a, b, c, d] 4 = some d := rfl
    show palingref11_Read_L3 [linkW, a, b, c, d] row ⟨#[78, 78, 78, 78]⟩ 3 [] [] [] a b c nilS nilS 0 0 0 0 0 0 3 3 [] = some (if NameP d then .inl (stL a b c d 4) else .inr (.inl 20))
    unfold palingref11_Read_L3 palingref11_Read_J4
    rw [b4, if_pos (by decide), if_pos (by decide), hw, hx, Option.bind_some, h78, wordN hd]
    by_cases h : NameP d
    · rw [if_pos h, if_pos h]; rfl
    · rw [if_neg h, if_neg h]; rfl
theorem loopL (ha : a.size ≤ 1000000) (hb : b.size ≤ 1000000) (hc : c.size ≤ 1000000) (hd : d.size ≤ 1000000) :
    loopM (fL a b c d row) (stL a b c d 0) = some (if NameP a ∧ NameP b ∧ NameP c ∧ NameP d then .inr ([], [], [], [], a, b, c, d, nilS, 0, 0, 0, 0, 0, 0) else .inl 20) := by
  have st : ∀ i, i < 4 → NameP (wL a b c d i) → fL a b c d row (stL a b c d i) = some (.inl (stL a b c d (i + 1))) := fun i hi h => by rw [stepL ha hb hc hd hi, if_pos h]
  have bad : ∀ i, i < 4 → ¬ NameP (wL a b c d i) → fL a b c d row (stL a b c d i) = some (.inr (.inl 20)) := fun i hi h => by rw [stepL ha hb hc hd hi, if_neg h]
  by_cases h0 : NameP a
  case neg =>
    rw [if_neg (fun h => h0 h.1)]
    exact loopM_trace (f := fL a b c d row) (stL a b c d) 0 (by decide) (fun i hi => by omega) (bad 0 (by decide) h0)
  by_cases h1 : NameP b
  case neg =>
    rw [if_neg (fun h => h1 h.2.1)]
    exact loopM_trace (f := fL a b c d row) (stL a b c d) 1 (by decide) (fun i hi => by
      have : i = 0 := by omega
      subst this; exact st 0 (by decide) h0) (bad 1 (by decide) h1)
  by_cases h2 : NameP c
  case neg =>
    rw [if_neg (fun h => h2 h.2.2.1)]
    exact loopM_trace (f := fL a b c d row) (stL a b c d) 2 (by decide) (fun i hi => by
      match i, hi with
      | 0, _ => exact st 0 (by decide) h0
      | 1, _ => exact st 1 (by decide) h1) (bad 2 (by decide) h2)
  by_cases h3 : NameP d
  case neg =>
    rw [if_neg (fun h => h3 h.2.2.2)]
    exact loopM_trace (f := fL a b c d row) (stL a b c d) 3 (by decide) (fun i hi => by
      match i, hi with
      | 0, _ => exact st 0 (by decide) h0
      | 1, _ => exact st 1 (by decide) h1
      | 2, _ => exact st 2 (by decide) h2) (bad 3 (by decide) h3)
  rw [if_pos ⟨h0, h1, h2, h3⟩]
  exact loopM_trace (f := fL a b c d row) (stL a b c d) 4 (by decide) (fun i hi => by
      match i, hi with
      | 0, _ => exact st 0 (by decide) h0
      | 1, _ => exact st 1 (by decide) h1
      | 2, _ => exact st 2 (by decide) h2
      | 3, _ => exact st 3 (by decide) h3) (by
      show palingref11_Read_L3 [linkW, a, b, c, d] row ⟨#[78, 78, 78, 78]⟩ 3 [] [] [] a b c d nilS 0 0 0 0 0 0 4 4 [] = _
      unfold palingref11_Read_L3
      rw [if_neg (by decide)])
theorem readL (ha : a.size ≤ 1000000) (hb : b.size ≤ 1000000) (hc : c.size ≤ 1000000) (hd : d.size ≤ 1000000) :
    palingref11_Read [linkW, a, b, c, d] row = some (if NameP a ∧ NameP b ∧ NameP c ∧ NameP d then ([], [], [], [], row, 3, a, b, c, d, nilS, 0, 0, 0, 0, 0, 0, 0) else ([], [], [], [], 0, 0, nilS, nilS, nilS, nilS, nilS, 0, 0, 0, 0, 0, 0, 20)) := by
  have hJ : palingref11_Read_J1 [linkW, a, b, c, d] row ⟨#[78, 78, 78, 78]⟩ = some (.inl ⟨#[78, 78, 78, 78]⟩) := by
    have h4 : (⟨#[78, 78, 78, 78]⟩ : ByteArray).size = 4 := rfl
    unfold palingref11_Read_J1 palingref11_Read_J2
    rw [seqB_dec, if_neg (by decide), Option.bind_some, h4, wr64 (by decide) (by decide)]
    rfl
  have hx : nth [linkW, a, b, c, d] 0 = some linkW := rfl
  have e := loopL ha hb hc hd (row := row)
  unfold palingref11_Read
  rw [form_link, Option.bind_some, hJ, Option.bind_some]
  simp only
  rw [hx, Option.bind_some, kind_link, Option.bind_some]
  have e' : loopM (fL a b c d row) ([], [], [], nilS, nilS, nilS, nilS, nilS, 0, 0, 0, 0, 0, 0, 0, 0, []) = some (if NameP a ∧ NameP b ∧ NameP c ∧ NameP d then .inr ([], [], [], [], a, b, c, d, nilS, 0, 0, 0, 0, 0, 0) else .inl 20) := e
  by_cases h : NameP a ∧ NameP b ∧ NameP c ∧ NameP d
  · rw [if_pos h] at e' ⊢
    rw [e', Option.bind_some]; rfl
  · rw [if_neg h] at e' ⊢
    rw [e', Option.bind_some]
end
end Go.Eng
