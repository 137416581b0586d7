/- Part of the proof of OverlayMeshes: plain laws of the printed mirrors. No conditions. -/
import Derived.Test.YtcclngfmkodgjaaGreatEngGP1
import Derived.Test.YtcclngfmkodgjaaGreatEngPE
set_option linter.unusedVariables false
set_option linter.unusedSectionVars false
set_option linter.unusedSimpArgs false
namespace Go.Eng
open Go Classical

inductive Conn (E : Int → Int → Prop) : Int → Int → Prop
  | refl (x : Int) : Conn E x x
  | edge {x y : Int} (h : E x y) : Conn E x y
  | symm {x y : Int} (h : Conn E x y) : Conn E y x
  | trans {x y z : Int} (h : Conn E x y) (g : Conn E y z) : Conn E x z

section
variable {E F : Int → Int → Prop}
theorem Conn.mono (h : ∀ x y, E x y → F x y) {x y : Int} (c : Conn E x y) : Conn F x y := by
  induction c with
  | refl x => exact .refl x
  | edge e => exact .edge (h _ _ e)
  | symm _ ih => exact ih.symm
  | trans _ _ i1 i2 => exact i1.trans i2
theorem Conn.congr (h : ∀ x y, E x y ↔ F x y) {x y : Int} : Conn E x y ↔ Conn F x y := ⟨Conn.mono fun x y => (h x y).1, Conn.mono fun x y => (h x y).2⟩
theorem Conn.sub (h : ∀ x y, E x y → Conn F x y) {x y : Int} (c : Conn E x y) : Conn F x y := by
  induction c with
  | refl x => exact .refl x
  | edge e => exact h _ _ e
  | symm _ ih => exact ih.symm
  | trans _ _ i1 i2 => exact i1.trans i2
theorem Conn.inv {β : Type} {T : Int → β} (h : ∀ x y, E x y → T x = T y) {x y : Int} (c : Conn E x y) : T x = T y := by
  induction c with
  | refl x => rfl
  | edge e => exact h _ _ e
  | symm _ ih => exact ih.symm
  | trans _ _ i1 i2 => exact i1.trans i2
theorem Conn.set {P : Int → Prop} (h : ∀ x y, E x y → (P x ↔ P y)) {x y : Int} (c : Conn E x y) : P x ↔ P y := by
  induction c with
  | refl x => exact Iff.rfl
  | edge e => exact h _ _ e
  | symm _ ih => exact ih.symm
  | trans _ _ i1 i2 => exact i1.trans i2
end

structure LeastT (E : Int → Int → Prop) (T : Int → Int) (N : Int) : Prop where
  lo : ∀ x, 0 ≤ x → x < N → 0 ≤ T x
  le : ∀ x, 0 ≤ x → x < N → T x ≤ x
  conn : ∀ x, 0 ≤ x → x < N → Conn E x (T x)
  same : ∀ x y, 0 ≤ x → x < N → 0 ≤ y → y < N → Conn E x y → T x = T y
theorem LeastT.uniq {E F : Int → Int → Prop} {T U : Int → Int} {N : Int} (h : LeastT E T N) (g : LeastT F U N) (e : ∀ x y, Conn E x y ↔ Conn F x y) {x : Int} (h0 : 0 ≤ x) (h1 : x < N) : T x = U x := by
  have a1 := h.lo x h0 h1
  have a2 := h.le x h0 h1
  have b1 := g.lo x h0 h1
  have b2 := g.le x h0 h1
  have c1 := g.same x (T x) h0 h1 a1 (by omega) ((e _ _).1 (h.conn x h0 h1))
  have c2 := h.same x (U x) h0 h1 b1 (by omega) ((e _ _).2 (g.conn x h0 h1))
  have d1 := g.le (T x) a1 (by omega)
  have d2 := h.le (U x) b1 (by omega)
  omega
structure Lab (f : List Int) (T : Int → Int) : Prop where
  lo : ∀ i, inL f i → 0 ≤ getI f i
  le : ∀ i, inL f i → getI f i ≤ i
  tlo : ∀ i, inL f i → 0 ≤ T i
  tle : ∀ i, inL f i → T i ≤ i
  root : ∀ i, inL f i → getI f (T i) = T i
  step : ∀ i, inL f i → T (getI f i) = T i
  self : ∀ i, inL f i → getI f i = i → T i = i

section
variable {f : List Int} {T : Int → Int}
theorem Lab.fin (h : Lab f T) {i : Int} (hi : inL f i) : inL f (getI f i) := ⟨h.lo i hi, by have := h.le i hi; have := hi.2; omega⟩
end
/-! ### Chains of sets -/
end Go.Eng

set_option linter.unusedVariables false
set_option linter.unusedSectionVars false
set_option linter.unusedSimpArgs false
namespace Go.Eng
open Go Classical

theorem LeastT.congr {E F : Int → Int → Prop} {T : Int → Int} {N : Int} (h : LeastT E T N) (e : ∀ x y, Conn E x y ↔ Conn F x y) : LeastT F T N :=
  ⟨h.lo, h.le, fun x a b => (e _ _).1 (h.conn x a b), fun x y a b c d g => h.same x y a b c d ((e _ _).2 g)⟩
theorem LeastT.congrE {E F : Int → Int → Prop} {T : Int → Int} {N : Int} (h : LeastT E T N) (e : ∀ x y, E x y ↔ F x y) : LeastT F T N := h.congr fun _ _ => Conn.congr e
structure FOK (E : Int → Int → Prop) (N : Nat) (f : List Int) : Prop where
  len : f.length = N
  lab : ∃ T, Lab f T ∧ LeastT E T N
  rng : ∀ x y, E x y → (0 ≤ x ∧ x < (N : Int)) ∧ 0 ≤ y ∧ y < (N : Int)
theorem FOK.congr {E F : Int → Int → Prop} {N : Nat} {f : List Int} (h : FOK E N f) (e : ∀ x y, E x y ↔ F x y) : FOK F N f := by
  obtain ⟨T, a, b⟩ := h.lab
  exact ⟨h.len, ⟨T, a, b.congrE e⟩, fun x y g => h.rng x y ((e x y).2 g)⟩
end Go.Eng

set_option linter.unusedVariables false
set_option linter.unusedSectionVars false
set_option linter.unusedSimpArgs false
namespace Go.Eng
open Go Classical
attribute [local congr] ite_cg
section

end
end Go.Eng

set_option linter.unusedVariables false
set_option linter.unusedSectionVars false
set_option linter.unusedSimpArgs false
namespace Go.Eng
open Go Classical
attribute [local congr] ite_cg

section

end
end Go.Eng

set_option linter.unusedVariables false
set_option linter.unusedSectionVars false
set_option linter.unusedSimpArgs false
namespace Go.Eng
open Go Classical
end Go.Eng
