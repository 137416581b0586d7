/- Part of the proof of VrfsPuts: plain laws of the printed mirrors. No conditions. -/
import Derived.Test.YtcclngfmkodgjaaGreatEngGP1
import Derived.Test.YtcclngfmkodgjaaGreatEngPE
set_option linter.unusedVariables false
set_option linter.unusedSectionVars false
set_option linter.unusedSimpArgs false
namespace Go.Eng
open Go Classical

inductive Conn (E : Int → Int → Prop) : Int → Int → Prop
  | refl (x : Int) : Conn E x x
  | edge {x y : Int} (h : E x y) : Conn E x y
  | symm {x y : Int} (h : Conn E x y) : Conn E y x
  | trans {x y z : Int} (h : Conn E x y) (g : Conn E y z) : Conn E x z

section
variable {E F : Int → Int → Prop}
theorem Conn.mono (h : ∀ x y, E x y → F x y) {x y : Int} (c : Conn E x y) : Conn F x y := by
  induction c with
  | refl x => exact .refl x
  | edge e => exact .edge (h _ _ e)
  | symm _ ih => exact ih.symm
  | trans _ _ i1 i2 => exact i1.trans i2
theorem Conn.congr (h : ∀ x y, E x y ↔ F x y) {x y : Int} : Conn E x y ↔ Conn F x y := ⟨Conn.mono fun x y => (h x y).1, Conn.mono fun x y => (h x y).2⟩
theorem Conn.sub (h : ∀ x y, E x y → Conn F x y) {x y : Int} (c : Conn E x y) : Conn F x y := by
  induction c with
  | refl x => exact .refl x
  | edge e => exact h _ _ e
  | symm _ ih => exact ih.symm
  | trans _ _ i1 i2 => exact i1.trans i2
theorem Conn.inv {β : Type} {T : Int → β} (h : ∀ x y, E x y → T x = T y) {x y : Int} (c : Conn E x y) : T x = T y := by
  induction c with
  | refl x => rfl
  | edge e => exact h _ _ e
  | symm _ ih => exact ih.symm
  | trans _ _ i1 i2 => exact i1.trans i2
theorem Conn.set {P : Int → Prop} (h : ∀ x y, E x y → (P x ↔ P y)) {x y : Int} (c : Conn E x y) : P x ↔ P y := by
  induction c with
  | refl x => exact Iff.rfl
  | edge e => exact h _ _ e
  | symm _ ih => exact ih.symm
  | trans _ _ i1 i2 => exact i1.trans i2
end

structure LeastT (E : Int → Int → Prop) (T : Int → Int) (N : Int) : Prop where
  lo : ∀ x, 0 ≤ x → x < N → 0 ≤ T x
  le : ∀ x, 0 ≤ x → x < N → T x ≤ x
  conn : ∀ x, 0 ≤ x → x < N → Conn E x (T x)
  same : ∀ x y, 0 ≤ x → x < N → 0 ≤ y → y < N → Conn E x y → T x = T y
theorem LeastT.uniq {E F : Int → Int → Prop} {T U : Int → Int} {N : Int} (h : LeastT E T N) (g : LeastT F U N) (e : ∀ x y, Conn E x y ↔ Conn F x y) {x : Int} (h0 : 0 ≤ x) (h1 : x < N) : T x = U x := by
  have a1 := h.lo x h0 h1
  have a2 := h.le x h0 h1
  have b1 := g.lo x h0 h1
  have b2 := g.le x h0 h1
  have c1 := g.same x (T x) h0 h1 a1 (by omega) ((e _ _).1 (h.conn x h0 h1))
  have c2 := h.same x (U x) h0 h1 b1 (by omega) ((e _ _).2 (g.conn x h0 h1))
  have d1 := g.le (T x) a1 (by omega)
  have d2 := h.le (U x) b1 (by omega)
  omega
structure Lab (f : List Int) (T : Int → Int) : Prop where
  lo : ∀ i, inL f i → 0 ≤ getI f i
  le : ∀ i, inL f i → getI f i ≤ i
  tlo : ∀ i, inL f i → 0 ≤ T i
  tle : ∀ i, inL f i → T i ≤ i
  root : ∀ i, inL f i → getI f (T i) = T i
  step : ∀ i, inL f i → T (getI f i) = T i
  self : ∀ i, inL f i → getI f i = i → T i = i

section
variable {f : List Int} {T : Int → Int}
theorem Lab.fin (h : Lab f T) {i : Int} (hi : inL f i) : inL f (getI f i) := ⟨h.lo i hi, by have := h.le i hi; have := hi.2; omega⟩
end
/-! ### Chains of sets -/
end Go.Eng

set_option linter.unusedVariables false
set_option linter.unusedSectionVars false
set_option linter.unusedSimpArgs false
namespace Go.Eng
open Go Classical

theorem LeastT.congr {E F : Int → Int → Prop} {T : Int → Int} {N : Int} (h : LeastT E T N) (e : ∀ x y, Conn E x y ↔ Conn F x y) : LeastT F T N :=
  ⟨h.lo, h.le, fun x a b => (e _ _).1 (h.conn x a b), fun x y a b c d g => h.same x y a b c d ((e _ _).2 g)⟩
theorem LeastT.congrE {E F : Int → Int → Prop} {T : Int → Int} {N : Int} (h : LeastT E T N) (e : ∀ x y, E x y ↔ F x y) : LeastT F T N := h.congr fun _ _ => Conn.congr e
def mkL (N : Nat) (T : Int → Int) : List Int := (List.range N).map fun (i : Nat) => T (i : Int)
theorem mkL_len {N : Nat} {T : Int → Int} : (mkL N T).length = N := by simp [mkL]
theorem mkL_inL {N : Nat} {T : Int → Int} {i : Int} : inL (mkL N T) i ↔ 0 ≤ i ∧ i < N := by rw [inL_iff, mkL_len]
structure FOK (E : Int → Int → Prop) (N : Nat) (f : List Int) : Prop where
  len : f.length = N
  lab : ∃ T, Lab f T ∧ LeastT E T N
  rng : ∀ x y, E x y → (0 ≤ x ∧ x < (N : Int)) ∧ 0 ≤ y ∧ y < (N : Int)
theorem FOK.congr {E F : Int → Int → Prop} {N : Nat} {f : List Int} (h : FOK E N f) (e : ∀ x y, E x y ↔ F x y) : FOK F N f := by
  obtain ⟨T, a, b⟩ := h.lab
  exact ⟨h.len, ⟨T, a, b.congrE e⟩, fun x y g => h.rng x y ((e x y).2 g)⟩
end Go.Eng

set_option linter.unusedVariables false
set_option linter.unusedSectionVars false
set_option linter.unusedSimpArgs false
namespace Go.Eng
open Go Classical
attribute [local congr] ite_cg
section
variable {n : Api_Net}
theorem Domain_1_spec {d : Api_Domain} {a b : Int} : names_Domain_1 d a b = some (decide (d.dev = a ∧ d.vlan = b)) := by
  simp only [names_Domain_1, bind_ite, Option.bind_some, dif1, dif2, dif3, dif4, dif5, dif6, dif7, dnot, ibeq, ibne, decide_eq_true_eq, if_not2, ge_iff_le, gt_iff_lt, fst_ret, Bool.false_eq_true, decide_false]
theorem names_Domain_spec (hs : SmN n) {a b : Int} : names_Domain n a b = some (if RightP n then domIx n.domains a b else -1) := by
  simp only [names_Domain, names_find_Domain_Domain_1, names_Right_spec hs, slices_IndexFunc_Domain_Domain_1]
  rw [loop_first n.domains (fun d => d.dev = a ∧ d.vlan = b) hs.domains (fun i h0 h1 h2 => by
    have := hs.domains
    simp (disch := omega) only [slices_IndexFunc_Domain_Domain_1_L1, Domain_1_spec, h1, nth_getI h2, wr64, bind_ite, Option.bind_some, dif1, dif2, dif3, dif4, dif5, dif6, dif7, dnot, ibeq, ibne, decide_eq_true_eq, if_not2, ge_iff_le, gt_iff_lt, fst_ret, Bool.false_eq_true, decide_false, decide_true, if_true]; split <;> rfl) (by simp [slices_IndexFunc_Domain_Domain_1_L1])]
  simp only [bind_ite, Option.bind_some, dif1, dif2, dif3, dif4, dif5, dif6, dif7, dnot, ibeq, ibne, decide_eq_true_eq, if_not2, ge_iff_le, gt_iff_lt, fst_ret, Bool.false_eq_true, decide_false]
  split <;> rfl

end
end Go.Eng

set_option linter.unusedVariables false
set_option linter.unusedSectionVars false
set_option linter.unusedSimpArgs false
namespace Go.Eng
open Go Classical
attribute [local congr] ite_cg

theorem loop_upto {ρ : Type} {f : Int → Option (Int ⊕ ρ)} (N : Nat) (P : Int → Prop) (a b : ρ) (hb : N ≤ 1000000)
    (h1 : ∀ i : Int, 0 ≤ i → i < N → f i = some (if P i then .inl (i + 1) else .inr a)) (h2 : f N = some (.inr b)) :
    loopM f 0 = if ∀ i : Int, 0 ≤ i → i < N → P i then some b else some a := by
  rw [loop_each (mkL N fun x => x) (fun i _ => P i) a b (by unfold Few; rw [mkL_len]; exact hb) (fun i i0 i1 _ => h1 i i0 (by rw [mkL_len] at i1; exact i1)) (by rw [mkL_len]; exact h2)]
  have : EachP (mkL N fun x => x) (fun i _ => P i) ↔ ∀ i : Int, 0 ≤ i → i < N → P i :=
    ⟨fun h i a b => h i (mkL_inL.2 ⟨a, b⟩), fun h i hi => h i hi.1 (mkL_inL.1 hi).2⟩
  simp only [this]

def LetterP (c : Int) : Prop := 97 ≤ c ∧ c ≤ 122
def DigitP (c : Int) : Prop := 48 ≤ c ∧ c ≤ 57
def NameP (s : ByteArray) : Prop := (∀ i : Int, 0 ≤ i → i < s.size → LetterP (byteAt s i) ∨ (DigitP (byteAt s i) ∧ i ≠ 0)) ∧ 0 < s.size ∧ s.size ≤ 12
theorem num_Name_spec {s : ByteArray} (hs : s.size ≤ 1000000) : num_Name s = some (decide (NameP s)) := by
  unfold num_Name
  rw [loop_upto (f := num_Name_L1 s) s.size (fun i => LetterP (byteAt s i) ∨ (DigitP (byteAt s i) ∧ i ≠ 0)) (.inl ()) (.inr ()) hs (fun i i0 i1 => by
    have hw := wr64 (n := i + 1) (by omega) (by omega)
    have hin : decide (0 ≤ (i : Int) ∧ (i : Int) < (s.size : Int)) = true := decide_eq_true ⟨i0, i1⟩
    simp only [num_Name_L1, i1, hin, hw, decide_true, if_true, bind_ite, Option.bind_some, dif1, dif2, dif3, dif4, dif5, dif6, dif7, dnot, ibeq, ibne, decide_eq_true_eq, if_not2, ge_iff_le, gt_iff_lt, fst_ret, Bool.false_eq_true, decide_false]
    unfold LetterP DigitP
    generalize byteAt s i = c
    by_cases c1 : 97 ≤ c <;> by_cases c2 : 48 ≤ c <;> by_cases c3 : c ≤ 122 <;> by_cases c4 : c ≤ 57 <;> by_cases c5 : i = 0 <;> simp [c1, c2, c3, c4, c5] <;> omega) (by simp [num_Name_L1])]
  have hN : NameP s ↔ (∀ i : Int, 0 ≤ i → i < s.size → LetterP (byteAt s i) ∨ (DigitP (byteAt s i) ∧ i ≠ 0)) ∧ 0 < s.size ∧ s.size ≤ 12 := Iff.rfl
  generalize NameP s = A at *
  by_cases h : ∀ i : Int, 0 ≤ i → i < s.size → LetterP (byteAt s i) ∨ (DigitP (byteAt s i) ∧ i ≠ 0)
  · rw [if_pos h]
    simp only [Option.bind_some]
    by_cases h2 : 0 < s.size
    · have h3 : (s.size : Int) > 0 := by omega
      by_cases h4 : s.size ≤ 12
      · have h5 : (s.size : Int) ≤ 12 := by omega
        simp only [h3, h5, hN.2 ⟨h, h2, h4⟩, decide_true, if_true]
      · have h5 : ¬ (s.size : Int) ≤ 12 := by omega
        have : ¬ A := fun q => h4 (hN.1 q).2.2
        simp only [h3, h5, this, decide_true, decide_false, if_true]
    · have h3 : ¬ (s.size : Int) > 0 := by omega
      have : ¬ A := fun q => h2 (hN.1 q).2.1
      simp only [h3, this, decide_false, Bool.false_eq_true, if_false]
  · have : ¬ A := fun q => h (hN.1 q).1
    rw [if_neg h]
    simp [this]

section
variable {n : Api_Net}
noncomputable def devI (n : Api_Net) (s : ByteArray) : Int := fstI n.devices fun d => d.name = s
theorem names_Device_spec (hs : SmN n) {s : ByteArray} : names_Device n s = some (if RightP n then devI n s else -1) := by
  first
  | (simp only [names_Device, names_find_Device_Device_1, names_Right_spec hs, slices_IndexFunc_Device_Device_1]
     rw [loop_first n.devices (fun d => d.name = s) hs.devices (fun i h0 h1 h2 => by
       have := hs.devices
       simp (disch := omega) only [slices_IndexFunc_Device_Device_1_L1, names_Device_1, seqB_dec, h1, nth_getI h2, wr64, bind_ite, Option.bind_some, dif1, dif2, dif3, dif4, dif5, dif6, dif7, dnot, ibeq, ibne, decide_eq_true_eq, if_not2, ge_iff_le, gt_iff_lt, fst_ret, Bool.false_eq_true, decide_false, decide_true, if_true]; split <;> rfl) (by simp [slices_IndexFunc_Device_Device_1_L1])]
     simp only [bind_ite, Option.bind_some, dif1, dif2, dif3, dif4, dif5, dif6, dif7, dnot, ibeq, ibne, decide_eq_true_eq, if_not2, ge_iff_le, gt_iff_lt, fst_ret, Bool.false_eq_true, decide_false]
     split <;> rfl)
  | (simp only [names_Device, names_find_Device_Device_1, names_Right_spec hs, slices_IndexFunc_Device_Device_1x]
     rw [loop_first n.devices (fun d => d.name = s) hs.devices (fun i h0 h1 h2 => by
       have := hs.devices
       simp (disch := omega) only [slices_IndexFunc_Device_Device_1x_L1, names_Device_1, seqB_dec, h1, nth_getI h2, wr64, bind_ite, Option.bind_some, dif1, dif2, dif3, dif4, dif5, dif6, dif7, dnot, ibeq, ibne, decide_eq_true_eq, if_not2, ge_iff_le, gt_iff_lt, fst_ret, Bool.false_eq_true, decide_false, decide_true, if_true]; split <;> rfl) (by simp [slices_IndexFunc_Device_Device_1x_L1])]
     simp only [bind_ite, Option.bind_some, dif1, dif2, dif3, dif4, dif5, dif6, dif7, dnot, ibeq, ibne, decide_eq_true_eq, if_not2, ge_iff_le, gt_iff_lt, fst_ret, Bool.false_eq_true, decide_false]
     split <;> rfl)
end
end Go.Eng

set_option linter.unusedVariables false
set_option linter.unusedSectionVars false
set_option linter.unusedSimpArgs false
namespace Go.Eng
open Go Classical
theorem r03Name_spec {s : ByteArray} (hs : s.size ≤ 1000000) : palingref03_Name s = some (decide (NameP s)) := by
  have hN : NameP s ↔ (∀ i : Int, 0 ≤ i → i < s.size → LetterP (byteAt s i) ∨ (DigitP (byteAt s i) ∧ i ≠ 0)) ∧ 0 < s.size ∧ s.size ≤ 12 := Iff.rfl
  unfold palingref03_Name
  by_cases c1 : (s.size : Int) < 1
  · rw [if_pos (decide_eq_true c1), decide_eq_false (fun h => by have := h.2.1; omega)]
  rw [if_neg (by simpa using c1)]
  by_cases c2 : (s.size : Int) > 12
  · rw [if_pos (decide_eq_true c2), decide_eq_false (fun h => by have := h.2.2; omega)]
  rw [if_neg (by simpa using c2), if_pos (decide_eq_true ⟨by omega, by omega⟩)]
  by_cases c3 : byteAt s 0 < 97
  · rw [if_pos (decide_eq_true c3), decide_eq_false (fun h => by
      have := h.1 0 (by omega) (by omega)
      unfold LetterP DigitP at this
      omega)]
  rw [if_neg (by simpa using c3)]
  by_cases c4 : byteAt s 0 > 122
  · rw [if_pos (decide_eq_true c4), decide_eq_false (fun h => by
      have := h.1 0 (by omega) (by omega)
      unfold LetterP DigitP at this
      omega)]
  rw [if_neg (by simpa using c4)]
  rw [loop_upto (f := palingref03_Name_L1 s) s.size (fun i => LetterP (byteAt s i) ∨ DigitP (byteAt s i)) (.inl ()) (.inr ()) hs (fun i i0 i1 => by
    have hw := wr64 (n := i + 1) (by omega) (by omega)
    have hin : decide (0 ≤ (i : Int) ∧ (i : Int) < (s.size : Int)) = true := decide_eq_true ⟨i0, i1⟩
    simp only [palingref03_Name_L1, i1, hin, hw, decide_true, if_true]
    unfold LetterP DigitP
    generalize byteAt s i = c
    by_cases e1 : c < 97 <;> by_cases e2 : c < 48 <;> by_cases e3 : c > 122 <;> by_cases e4 : c > 57 <;> simp [e1, e2, e3, e4] <;> omega) (by simp [palingref03_Name_L1])]
  have hiff : NameP s ↔ ∀ i : Int, 0 ≤ i → i < s.size → LetterP (byteAt s i) ∨ DigitP (byteAt s i) := by
    rw [hN]
    constructor
    · intro h i i0 i1
      rcases h.1 i i0 i1 with q | q
      · exact .inl q
      · exact .inr q.1
    · intro h
      refine ⟨fun i i0 i1 => ?_, by omega, by omega⟩
      rcases h i i0 i1 with q | q
      · exact .inl q
      · by_cases e : i = 0
        · subst e; unfold LetterP; omega
        · exact .inr ⟨q, e⟩
  by_cases h : ∀ i : Int, 0 ≤ i → i < s.size → LetterP (byteAt s i) ∨ DigitP (byteAt s i)
  · rw [if_pos h, decide_eq_true (hiff.2 h)]; rfl
  · rw [if_neg h, decide_eq_false (fun q => h (hiff.1 q))]; rfl
end Go.Eng
