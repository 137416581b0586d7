/- Plain laws of what hangs together: labels, trees whose paths are made shorter, chains of sets. -/
import Derived.Test.YtlinloabahbioaaEngP1
set_option linter.unusedVariables false
set_option linter.unusedSectionVars false
set_option linter.unusedSimpArgs false
namespace Go.Eng
open Go Classical

/-- What hangs together by steps. -/
inductive Conn (E : Int → Int → Prop) : Int → Int → Prop
  | refl (x : Int) : Conn E x x
  | edge {x y : Int} (h : E x y) : Conn E x y
  | symm {x y : Int} (h : Conn E x y) : Conn E y x
  | trans {x y z : Int} (h : Conn E x y) (g : Conn E y z) : Conn E x z

section
variable {E F : Int → Int → Prop}
theorem Conn.mono (h : ∀ x y, E x y → F x y) {x y : Int} (c : Conn E x y) : Conn F x y := by
  induction c with
  | refl x => exact .refl x
  | edge e => exact .edge (h _ _ e)
  | symm _ ih => exact ih.symm
  | trans _ _ i1 i2 => exact i1.trans i2
theorem Conn.congr (h : ∀ x y, E x y ↔ F x y) {x y : Int} : Conn E x y ↔ Conn F x y := ⟨Conn.mono fun x y => (h x y).1, Conn.mono fun x y => (h x y).2⟩
/-- Steps that hang together anyway add nothing. -/
theorem Conn.sub (h : ∀ x y, E x y → Conn F x y) {x y : Int} (c : Conn E x y) : Conn F x y := by
  induction c with
  | refl x => exact .refl x
  | edge e => exact h _ _ e
  | symm _ ih => exact ih.symm
  | trans _ _ i1 i2 => exact i1.trans i2
theorem Conn.inv {β : Type} {T : Int → β} (h : ∀ x y, E x y → T x = T y) {x y : Int} (c : Conn E x y) : T x = T y := by
  induction c with
  | refl x => rfl
  | edge e => exact h _ _ e
  | symm _ ih => exact ih.symm
  | trans _ _ i1 i2 => exact i1.trans i2
theorem Conn.set {P : Int → Prop} (h : ∀ x y, E x y → (P x ↔ P y)) {x y : Int} (c : Conn E x y) : P x ↔ P y := by
  induction c with
  | refl x => exact Iff.rfl
  | edge e => exact h _ _ e
  | symm _ ih => exact ih.symm
  | trans _ _ i1 i2 => exact i1.trans i2
end

/-- Labels of what hangs together: its least. -/
structure LeastT (E : Int → Int → Prop) (T : Int → Int) (N : Int) : Prop where
  lo : ∀ x, 0 ≤ x → x < N → 0 ≤ T x
  le : ∀ x, 0 ≤ x → x < N → T x ≤ x
  conn : ∀ x, 0 ≤ x → x < N → Conn E x (T x)
  same : ∀ x y, 0 ≤ x → x < N → 0 ≤ y → y < N → Conn E x y → T x = T y
theorem LeastT.uniq {E F : Int → Int → Prop} {T U : Int → Int} {N : Int} (h : LeastT E T N) (g : LeastT F U N) (e : ∀ x y, Conn E x y ↔ Conn F x y) {x : Int} (h0 : 0 ≤ x) (h1 : x < N) : T x = U x := by
  have a1 := h.lo x h0 h1
  have a2 := h.le x h0 h1
  have b1 := g.lo x h0 h1
  have b2 := g.le x h0 h1
  have c1 := g.same x (T x) h0 h1 a1 (by omega) ((e _ _).1 (h.conn x h0 h1))
  have c2 := h.same x (U x) h0 h1 b1 (by omega) ((e _ _).2 (g.conn x h0 h1))
  have d1 := g.le (T x) a1 (by omega)
  have d2 := h.le (U x) b1 (by omega)
  omega
theorem LeastT.top {E : Int → Int → Prop} {T : Int → Int} {N : Int} (h : LeastT E T N) {x : Int} (h0 : 0 ≤ x) (h1 : x < N) : T (T x) = T x :=
  (h.same x (T x) h0 h1 (h.lo x h0 h1) (by have := h.le x h0 h1; omega) (h.conn x h0 h1)).symm

/-- A tree's list with the tops that it stands for. -/
structure Lab (f : List Int) (T : Int → Int) : Prop where
  lo : ∀ i, inL f i → 0 ≤ getI f i
  le : ∀ i, inL f i → getI f i ≤ i
  tlo : ∀ i, inL f i → 0 ≤ T i
  tle : ∀ i, inL f i → T i ≤ i
  root : ∀ i, inL f i → getI f (T i) = T i
  step : ∀ i, inL f i → T (getI f i) = T i
  self : ∀ i, inL f i → getI f i = i → T i = i

theorem inL_set {α : Type} {l : List α} {k : Nat} {x : α} {i : Int} : inL (l.set k x) i ↔ inL l i := by simp [inL]
theorem getI_set {α : Type} [Inhabited α] {l : List α} {k i : Int} {x : α} (hk : inL l k) (hi : inL l i) : getI (l.set k.toNat x) i = if i = k then x else getI l i := by
  unfold getI
  have h1 := hk.1; have h2 := hi.1; have h3 := hk.2; have h4 := hi.2
  by_cases h : i = k
  · subst h
    rw [List.getElem?_set_self (by omega)]; simp
  · rw [List.getElem?_set_ne (by omega)]; simp [h]
section
variable {f : List Int} {T : Int → Int}
theorem Lab.tin (h : Lab f T) {i : Int} (hi : inL f i) : inL f (T i) := ⟨h.tlo i hi, by have := h.tle i hi; have := hi.2; omega⟩
theorem Lab.fin (h : Lab f T) {i : Int} (hi : inL f i) : inL f (getI f i) := ⟨h.lo i hi, by have := h.le i hi; have := hi.2; omega⟩
theorem Lab.top (h : Lab f T) {i : Int} (hi : inL f i) : T (T i) = T i := h.self _ (h.tin hi) (h.root i hi)
theorem Lab.halve (h : Lab f T) {i : Int} (hi : inL f i) (hn : getI f i ≠ i) : Lab (f.set i.toNat (getI f (getI f i))) T := by
  have hf := h.fin hi
  have l1 := h.le i hi
  have l2 := h.le _ hf
  refine ⟨fun j hj => ?_, fun j hj => ?_, fun j hj => ?_, fun j hj => ?_, fun j hj => ?_, fun j hj => ?_, fun j hj hs => ?_⟩ <;> rw [inL_set] at hj
  · rw [getI_set hi hj]; split
    · exact h.lo _ hf
    · exact h.lo j hj
  · rw [getI_set hi hj]; split
    · omega
    · exact h.le j hj
  · exact h.tlo j hj
  · exact h.tle j hj
  · rw [getI_set hi (h.tin hj)]; split
    · rename_i e
      have := h.root j hj
      rw [e] at this; exact absurd this hn
    · exact h.root j hj
  · rw [getI_set hi hj]; split
    · rename_i e; subst e
      rw [h.step _ hf, h.step _ hi]
    · exact h.step j hj
  · rw [getI_set hi hj] at hs; split at hs
    · rename_i e; subst e; omega
    · exact h.self j hj hs
/-- The tops when two are joined. -/
noncomputable def joinT (T : Int → Int) (a b : Int) : Int → Int := fun x => if T x = max (T a) (T b) then min (T a) (T b) else T x
theorem Lab.join (h : Lab f T) {a b : Int} (ha : inL f a) (hb : inL f b) : Lab (f.set (max (T a) (T b)).toNat (min (T a) (T b))) (joinT T a b) := by
  have ia := h.tin ha
  have ib := h.tin hb
  have ra := h.root a ha
  have rb := h.root b hb
  have ta := h.top ha
  have tb := h.top hb
  have im : inL f (max (T a) (T b)) := by
    rcases (by omega : max (T a) (T b) = T a ∨ max (T a) (T b) = T b) with e | e <;> rw [e] <;> assumption
  have in_ : inL f (min (T a) (T b)) := by
    rcases (by omega : min (T a) (T b) = T a ∨ min (T a) (T b) = T b) with e | e <;> rw [e] <;> assumption
  have rm : getI f (min (T a) (T b)) = min (T a) (T b) := by
    rcases (by omega : min (T a) (T b) = T a ∨ min (T a) (T b) = T b) with e | e <;> rw [e] <;> assumption
  have tm : T (min (T a) (T b)) = min (T a) (T b) := by
    rcases (by omega : min (T a) (T b) = T a ∨ min (T a) (T b) = T b) with e | e <;> rw [e] <;> assumption
  have tM : T (max (T a) (T b)) = max (T a) (T b) := by
    rcases (by omega : max (T a) (T b) = T a ∨ max (T a) (T b) = T b) with e | e <;> rw [e] <;> assumption
  have hle : min (T a) (T b) ≤ max (T a) (T b) := by omega
  unfold joinT
  generalize max (T a) (T b) = M at *
  generalize min (T a) (T b) = m at *
  refine ⟨fun j hj => ?_, fun j hj => ?_, fun j hj => ?_, fun j hj => ?_, fun j hj => ?_, fun j hj => ?_, fun j hj hs => ?_⟩ <;> rw [inL_set] at hj
  · rw [getI_set im hj]; split
    · exact in_.1
    · exact h.lo j hj
  · rw [getI_set im hj]; split
    · omega
    · exact h.le j hj
  · split
    · exact in_.1
    · exact h.tlo j hj
  · have := h.tle j hj
    split <;> omega
  · split
    · rw [getI_set im in_]; split
      · rfl
      · exact rm
    · rename_i e
      rw [getI_set im (h.tin hj), if_neg e]; exact h.root j hj
  · rw [getI_set im hj]; split
    · rename_i e; subst e
      rw [tm, tM]; simp
    · rw [h.step j hj]
  · rw [getI_set im hj] at hs; split at hs
    · rename_i e; subst e
      rw [tM]; simp [hs]
    · rename_i e
      have := h.self j hj hs
      rw [this, if_neg e]
end
/-- Steps with one more. -/
def AddE (E : Int → Int → Prop) (a b : Int) : Int → Int → Prop := fun x y => E x y ∨ (x = a ∧ y = b)
theorem LeastT.join {E : Int → Int → Prop} {T : Int → Int} {N a b : Int} (h : LeastT E T N) (hE : ∀ x y, E x y → (0 ≤ x ∧ x < N) ∧ 0 ≤ y ∧ y < N) (a0 : 0 ≤ a) (a1 : a < N) (b0 : 0 ≤ b) (b1 : b < N) : LeastT (AddE E a b) (joinT T a b) N := by
  have m1 : ∀ x y, Conn E x y → Conn (AddE E a b) x y := fun x y => Conn.mono fun _ _ g => .inl g
  have ab : Conn (AddE E a b) a b := .edge (.inr ⟨rfl, rfl⟩)
  have la := h.lo a a0 a1; have lb := h.lo b b0 b1
  have lea := h.le a a0 a1; have leb := h.le b b0 b1
  have ca := m1 _ _ (h.conn a a0 a1); have cb := m1 _ _ (h.conn b b0 b1)
  refine ⟨fun x h0 h1 => ?_, fun x h0 h1 => ?_, fun x h0 h1 => ?_, fun x y h0 h1 k0 k1 c => ?_⟩
  · have := h.lo x h0 h1
    unfold joinT; split <;> omega
  · have := h.le x h0 h1
    unfold joinT; split <;> omega
  · have cx := m1 _ _ (h.conn x h0 h1)
    unfold joinT; split
    · rename_i e
      rw [e] at cx
      rcases (by omega : T a ≤ T b ∨ T b ≤ T a) with g | g
      · rw [show max (T a) (T b) = T b from by omega] at cx
        rw [show min (T a) (T b) = T a from by omega]
        exact cx.trans (cb.symm.trans (ab.symm.trans ca))
      · rw [show max (T a) (T b) = T a from by omega] at cx
        rw [show min (T a) (T b) = T b from by omega]
        exact cx.trans (ca.symm.trans (ab.trans cb))
    · exact cx
  · refine Conn.inv (T := joinT T a b) (fun u v g => ?_) c
    unfold joinT
    rcases g with g | ⟨rfl, rfl⟩
    · obtain ⟨g1, g2⟩ := hE u v g
      rw [h.same u v g1.1 g1.2 g2.1 g2.2 (.edge g)]
    · rcases (by omega : T u ≤ T v ∨ T v ≤ T u) with g | g
      · rw [show max (T u) (T v) = T v from by omega, show min (T u) (T v) = T u from by omega]; simp
      · rw [show max (T u) (T v) = T u from by omega, show min (T u) (T v) = T v from by omega]; simp
theorem leastT_alone {N : Int} : LeastT (fun _ _ => False) (fun x => x) N :=
  ⟨fun x h _ => h, fun x _ _ => Int.le_refl _, fun x _ _ => .refl x, fun x y _ _ _ _ c => Conn.inv (T := fun x => x) (fun _ _ h => h.elim) c⟩

/-! ### Chains of sets -/
/-- How many numbers below N are so. -/
noncomputable def cntI (P : Int → Prop) : Nat → Nat
  | 0 => 0
  | n + 1 => cntI P n + if P n then 1 else 0
theorem cntI_le {P : Int → Prop} {n : Nat} : cntI P n ≤ n := by
  induction n with
  | zero => simp [cntI]
  | succ n ih => unfold cntI; split <;> omega
theorem cntI_mono {P Q : Int → Prop} {n : Nat} (h : ∀ x : Int, 0 ≤ x → x < n → P x → Q x) : cntI P n ≤ cntI Q n := by
  induction n with
  | zero => simp [cntI]
  | succ n ih =>
    have := ih fun x h0 h1 => h x h0 (by omega)
    have := h n (by omega) (by omega)
    unfold cntI
    by_cases p : P n
    · simp [p, this p]; assumption
    · simp [p]; split <;> omega
theorem cntI_lt {P Q : Int → Prop} {n : Nat} (h : ∀ x : Int, 0 ≤ x → x < n → P x → Q x) {y : Int} (y0 : 0 ≤ y) (y1 : y < n) (hq : Q y) (hp : ¬ P y) : cntI P n < cntI Q n := by
  induction n with
  | zero => omega
  | succ n ih =>
    have hn := h n (by omega) (by omega)
    by_cases e : y = n
    · subst e
      have := cntI_mono (P := P) (Q := Q) (n := n) fun x h0 h1 => h x h0 (by omega)
      unfold cntI
      simp [hp, hq]; omega
    · have := ih (fun x h0 h1 => h x h0 (by omega)) (by omega)
      unfold cntI
      by_cases p : P n
      · simp [p, hn p]; assumption
      · simp [p]; split <;> omega
/-- Sets that grow: within as many rounds as there are numbers one is as the next. -/
theorem chain_stays {N : Nat} (S : Nat → Int → Prop) (hm : ∀ k x, 0 ≤ x → x < (N : Int) → S k x → S (k + 1) x) : ∃ k, k ≤ N ∧ ∀ x, 0 ≤ x → x < (N : Int) → S (k + 1) x → S k x := by
  apply Classical.byContradiction
  intro hn
  have grow : ∀ k, k ≤ N → cntI (S k) N < cntI (S (k + 1)) N := fun k hk => by
    apply Classical.byContradiction
    intro h2
    refine hn ⟨k, hk, fun x h0 h1 h3 => ?_⟩
    apply Classical.byContradiction
    intro h4
    exact h2 (cntI_lt (fun x a b => hm k x a b) h0 h1 h3 h4)
  have big : ∀ k, k ≤ N + 1 → k ≤ cntI (S k) N := fun k => by
    induction k with
    | zero => intro _; omega
    | succ k ih => intro hk; have := ih (by omega); have := grow k (by omega); omega
  have := big (N + 1) (by omega)
  have := cntI_le (P := S (N + 1)) (n := N)
  omega
theorem chain_le {N : Nat} (S : Nat → Int → Prop) (hm : ∀ k x, 0 ≤ x → x < (N : Int) → S k x → S (k + 1) x) {i j : Nat} (h : i ≤ j) {x : Int} (h0 : 0 ≤ x) (h1 : x < (N : Int)) (hx : S i x) : S j x := by
  induction h with
  | refl => exact hx
  | step _ ih => exact hm _ x h0 h1 ih
end Go.Eng
