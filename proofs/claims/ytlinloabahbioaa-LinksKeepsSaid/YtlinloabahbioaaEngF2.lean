/- Plain laws of what hangs together: labels made least round by round; trees kept in lists. -/
import Derived.Test.YtlinloabahbioaaEngF1
set_option linter.unusedVariables false
set_option linter.unusedSectionVars false
set_option linter.unusedSimpArgs false
namespace Go.Eng
open Go Classical

theorem LeastT.congr {E F : Int → Int → Prop} {T : Int → Int} {N : Int} (h : LeastT E T N) (e : ∀ x y, Conn E x y ↔ Conn F x y) : LeastT F T N :=
  ⟨h.lo, h.le, fun x a b => (e _ _).1 (h.conn x a b), fun x y a b c d g => h.same x y a b c d ((e _ _).2 g)⟩
theorem LeastT.congrE {E F : Int → Int → Prop} {T : Int → Int} {N : Int} (h : LeastT E T N) (e : ∀ x y, E x y ↔ F x y) : LeastT F T N := h.congr fun _ _ => Conn.congr e
theorem LeastT.iff {E : Int → Int → Prop} {T : Int → Int} {N : Int} (h : LeastT E T N) {x y : Int} (x0 : 0 ≤ x) (x1 : x < N) (y0 : 0 ≤ y) (y1 : y < N) : T x = T y ↔ Conn E x y :=
  ⟨fun e => (h.conn x x0 x1).trans (e ▸ (h.conn y y0 y1).symm), h.same x y x0 x1 y0 y1⟩

/-- Labels that are made less over each step, round by round, are the least ones at the end. -/
theorem rounds_least {E : Int → Int → Prop} {T : Int → Int} {N : Nat} (h : LeastT E T N) (hE : ∀ x y, E x y → (0 ≤ x ∧ x < (N : Int)) ∧ 0 ≤ y ∧ y < (N : Int)) (l : Nat → Int → Int)
    (l0 : ∀ x, 0 ≤ x → x < (N : Int) → l 0 x = x) (inv : ∀ k x, 0 ≤ x → x < (N : Int) → Conn E x (l k x) ∧ 0 ≤ l k x ∧ l k x < N) (mono : ∀ k x, 0 ≤ x → x < (N : Int) → l (k + 1) x ≤ l k x)
    (edge : ∀ k x y, E x y → l (k + 1) y ≤ l k x ∧ l (k + 1) x ≤ l k y) {x : Int} (x0 : 0 ≤ x) (x1 : x < (N : Int)) : l N x = T x := by
  have hlo := h.lo x x0 x1
  have hle := h.le x x0 x1
  have hc := h.conn x x0 x1
  let S : Nat → Int → Prop := fun k y => l k y ≤ T x ∧ Conn E x y
  have hm : ∀ k y, 0 ≤ y → y < (N : Int) → S k y → S (k + 1) y := fun k y a b c => ⟨by have := mono k y a b; have := c.1; omega, c.2⟩
  obtain ⟨k, hk, hst⟩ := chain_stays S hm
  have s0 : S k (T x) := chain_le S hm (Nat.zero_le k) hlo (by omega) ⟨by rw [l0 _ hlo (by omega)]; omega, hc⟩
  have hcl : S k x := by
    refine (Conn.set (P := S k) (fun u v g => ?_) hc).2 s0
    obtain ⟨gu, gv⟩ := hE u v g
    have he := edge k u v g
    constructor
    · rintro ⟨a, b⟩
      exact hst v gv.1 gv.2 ⟨by omega, b.trans (.edge g)⟩
    · rintro ⟨a, b⟩
      exact hst u gu.1 gu.2 ⟨by omega, b.trans (.symm (.edge g))⟩
  have hN := chain_le S hm hk x0 x1 hcl
  obtain ⟨i1, i2, i3⟩ := inv N x x0 x1
  have e1 := h.same x (l N x) x0 x1 i2 i3 i1
  have e2 := h.le (l N x) i2 i3
  have := hN.1
  omega

/-- A list of what is told of each number. -/
def mkL (N : Nat) (T : Int → Int) : List Int := (List.range N).map fun (i : Nat) => T (i : Int)
theorem mkL_len {N : Nat} {T : Int → Int} : (mkL N T).length = N := by simp [mkL]
theorem mkL_get {N : Nat} {T : Int → Int} {i : Int} (h : inL (mkL N T) i) : getI (mkL N T) i = T i := by
  have h0 := h.1; have h1 := h.2
  rw [mkL_len] at h1
  have : i.toNat < N := by omega
  unfold getI mkL
  simp [this]
  rw [show max i 0 = i from by omega]
theorem mkL_inL {N : Nat} {T : Int → Int} {i : Int} : inL (mkL N T) i ↔ 0 ≤ i ∧ i < N := by rw [inL_iff, mkL_len]
theorem mkL_congr {N : Nat} {T U : Int → Int} (h : ∀ i : Int, 0 ≤ i → i < N → T i = U i) : mkL N T = mkL N U := by
  unfold mkL
  refine List.map_congr_left fun i hi => h i (by omega) ?_
  have := List.mem_range.1 hi; omega
theorem eq_mkL {N : Nat} {T : Int → Int} {l : List Int} (hl : l.length = N) (h : ∀ i, inL l i → getI l i = T i) : l = mkL N T := by
  apply List.ext_getElem?
  intro i
  by_cases hi : i < l.length
  · have hii : inL l (i : Int) := ⟨by omega, by omega⟩
    have h1 := getI_get? hii
    have h2 := getI_get? ((mkL_inL (T := T)).2 ⟨hii.1, by have := hii.2; omega⟩ : inL (mkL N T) (i : Int))
    rw [show ((i : Int)).toNat = i from by omega] at h1 h2
    rw [h1, h2, h _ hii, mkL_get ((mkL_inL (T := T)).2 ⟨hii.1, by have := hii.2; omega⟩)]
  · rw [List.getElem?_eq_none (by omega), List.getElem?_eq_none (by rw [mkL_len]; omega)]
theorem mkL_succ {N : Nat} {T : Int → Int} : mkL (N + 1) T = mkL N T ++ [T N] := by simp [mkL, List.range_succ]

/-- A tree's list that stands for what hangs together by some steps. -/
structure FOK (E : Int → Int → Prop) (N : Nat) (f : List Int) : Prop where
  len : f.length = N
  lab : ∃ T, Lab f T ∧ LeastT E T N
  rng : ∀ x y, E x y → (0 ≤ x ∧ x < (N : Int)) ∧ 0 ≤ y ∧ y < (N : Int)
theorem FOK.congr {E F : Int → Int → Prop} {N : Nat} {f : List Int} (h : FOK E N f) (e : ∀ x y, E x y ↔ F x y) : FOK F N f := by
  obtain ⟨T, a, b⟩ := h.lab
  exact ⟨h.len, ⟨T, a, b.congrE e⟩, fun x y g => h.rng x y ((e x y).2 g)⟩
theorem lab_alone {N : Nat} : Lab (mkL N fun x => x) (fun x => x) := by
  refine ⟨fun i hi => ?_, fun i hi => ?_, fun i hi => hi.1, fun i hi => Int.le_refl _, fun i hi => mkL_get hi, fun i hi => mkL_get hi, fun i hi _ => rfl⟩
  · rw [mkL_get hi]; exact hi.1
  · rw [mkL_get hi]; exact Int.le_refl _
theorem fok_alone {N : Nat} : FOK (fun _ _ => False) N (mkL N fun x => x) := ⟨mkL_len, ⟨_, lab_alone, leastT_alone⟩, fun _ _ h => h.elim⟩
end Go.Eng
