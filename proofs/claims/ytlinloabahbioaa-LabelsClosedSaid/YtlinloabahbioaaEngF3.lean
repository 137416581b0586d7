/- Plain laws of labels that are made less, step by step. -/
import Derived.Test.YtlinloabahbioaaEngF2
set_option linter.unusedVariables false
set_option linter.unusedSectionVars false
set_option linter.unusedSimpArgs false
namespace Go.Eng
open Go Classical

def LeL (l' l : List Int) : Prop := l'.length = l.length ∧ ∀ x, inL l x → getI l' x ≤ getI l x
theorem LeL.refl (l : List Int) : LeL l l := ⟨rfl, fun _ _ => Int.le_refl _⟩
theorem LeL.trans {a b c : List Int} (h : LeL a b) (g : LeL b c) : LeL a c :=
  ⟨h.1.trans g.1, fun x hx => Int.le_trans (h.2 x (by unfold inL at *; rw [g.1]; exact hx)) (g.2 x hx)⟩
theorem LeL.inL {a b : List Int} (h : LeL a b) {x : Int} : inL a x ↔ inL b x := by unfold Go.Eng.inL; rw [h.1]

theorem fold_post {α : Type} (s : α → List Int → List Int) (I : List Int → Prop) (Post : α → List Int → List Int → Prop)
    (hpost : ∀ a l'' l' l l0, LeL l'' l' → LeL l' l → LeL l l0 → Post a l' l → Post a l'' l0) : ∀ (L : List α) (hs : ∀ a ∈ L, ∀ l, I l → I (s a l) ∧ LeL (s a l) l ∧ Post a (s a l) l) (l : List Int), I l →
    I (L.foldl (fun l a => s a l) l) ∧ LeL (L.foldl (fun l a => s a l) l) l ∧ ∀ a ∈ L, Post a (L.foldl (fun l a => s a l) l) l := by
  intro L
  induction L with
  | nil => intro _ l hl; exact ⟨hl, LeL.refl l, fun a h => by cases h⟩
  | cons b L ih =>
    intro hs l hl
    obtain ⟨h1, h2, h3⟩ := hs b (by simp) l hl
    obtain ⟨g1, g2, g3⟩ := ih (fun a ha => hs a (by simp [ha])) (s b l) h1
    refine ⟨g1, g2.trans h2, fun a ha => ?_⟩
    rcases List.mem_cons.1 ha with rfl | ha
    · exact hpost a _ _ _ _ g2 h2 (LeL.refl _) h3
    · exact hpost a _ _ _ _ (LeL.refl _) g2 h2 (g3 a ha)

/-- Both ends of a step get the less label. -/
noncomputable def relax (i : Int) (y : Int) (l : List Int) : List Int := (l.set i.toNat (min (getI l i) (getI l y))).set y.toNat (min (getI l i) (getI l y))
/-- Labels of N numbers that hang together with them. -/
structure Lbs (E : Int → Int → Prop) (N : Nat) (l : List Int) : Prop where
  len : l.length = N
  conn : ∀ x, inL l x → Conn E x (getI l x)
  rng : ∀ x, inL l x → inL l (getI l x)
theorem relax_len {i y : Int} {l : List Int} : (relax i y l).length = l.length := by simp [relax]
theorem relax_get {i y : Int} {l : List Int} (hi : inL l i) (hy : inL l y) {x : Int} (hx : inL l x) : getI (relax i y l) x = if x = y ∨ x = i then min (getI l i) (getI l y) else getI l x := by
  unfold relax
  rw [getI_set (inL_set.2 hy) (inL_set.2 hx)]
  by_cases h : x = y
  · simp [h]
  · rw [if_neg h, getI_set hi hx]
    by_cases h2 : x = i
    · simp [h2]
    · simp [h, h2]
theorem relax_ok {E : Int → Int → Prop} {N : Nat} {i y : Int} (he : Conn E i y) {l : List Int} (h : Lbs E N l) (hi : inL l i) (hy : inL l y) :
    Lbs E N (relax i y l) ∧ LeL (relax i y l) l ∧ (getI (relax i y l) y ≤ getI l i ∧ getI (relax i y l) i ≤ getI l y) := by
  have hin : ∀ x, inL (relax i y l) x ↔ inL l x := fun x => by unfold inL; rw [relax_len]
  have ci := h.conn i hi
  have cy := h.conn y hy
  have mc : Conn E i (min (getI l i) (getI l y)) := by
    rcases (by omega : min (getI l i) (getI l y) = getI l i ∨ min (getI l i) (getI l y) = getI l y) with e | e <;> rw [e]
    · exact ci
    · exact he.trans cy
  have mr : inL l (min (getI l i) (getI l y)) := by
    rcases (by omega : min (getI l i) (getI l y) = getI l i ∨ min (getI l i) (getI l y) = getI l y) with e | e <;> rw [e]
    · exact h.rng i hi
    · exact h.rng y hy
  refine ⟨⟨by rw [relax_len]; exact h.len, fun x hx => ?_, fun x hx => ?_⟩, ⟨relax_len, fun x hx => ?_⟩, ?_, ?_⟩
  · have hx := (hin x).1 hx
    rw [relax_get hi hy hx]; split
    · rename_i e
      rcases e with rfl | rfl
      · exact he.symm.trans mc
      · exact mc
    · exact h.conn x hx
  · have hx := (hin x).1 hx
    rw [hin, relax_get hi hy hx]; split
    · exact mr
    · exact h.rng x hx
  · rw [relax_get hi hy hx]; split
    · rename_i e
      rcases e with rfl | rfl <;> omega
    · exact Int.le_refl _
  · rw [relax_get hi hy hy, if_pos (.inl rfl)]; omega
  · rw [relax_get hi hy hi, if_pos (.inr rfl)]; omega

/-- One number's steps; one round. -/
noncomputable def relaxI (next : Int → List Int) (i : Int) (l : List Int) : List Int := (next i).foldl (fun l y => relax i y l) l
noncomputable def roundL (next : Int → List Int) (N : Nat) (l : List Int) : List Int := (mkL N fun x => x).foldl (fun l i => relaxI next i l) l
noncomputable def roundsL (next : Int → List Int) (N : Nat) : Nat → List Int
  | 0 => mkL N fun x => x
  | k + 1 => roundL next N (roundsL next N k)
section
variable {E : Int → Int → Prop} {N : Nat} {next : Int → List Int}
def PostI (i : Int) (ys : List Int) (l' l : List Int) : Prop := ∀ y ∈ ys, inL l i → inL l y → getI l' y ≤ getI l i ∧ getI l' i ≤ getI l y
theorem postI_mono {i : Int} {ys l'' l' l l0 : List Int} (h1 : LeL l'' l') (h0 : LeL l' l) (h2 : LeL l l0) (h : PostI i ys l' l) : PostI i ys l'' l0 := by
  intro y hy i0 y0
  have hi : inL l i := h2.inL.2 i0
  have hyy : inL l y := h2.inL.2 y0
  obtain ⟨a, b⟩ := h y hy hi hyy
  have := h1.2 y (h0.inL.2 hyy); have := h1.2 i (h0.inL.2 hi)
  have := h2.2 i i0; have := h2.2 y y0
  omega
theorem relaxI_ok {i : Int} (hn : ∀ y ∈ next i, Conn E i y ∧ 0 ≤ y ∧ y < N) (i0 : 0 ≤ i) (i1 : i < N) {l : List Int} (h : Lbs E N l) : Lbs E N (relaxI next i l) ∧ LeL (relaxI next i l) l ∧ PostI i (next i) (relaxI next i l) l := by
  have := fold_post (fun y l => relax i y l) (Lbs E N) (fun y l' l => PostI i [y] l' l) (fun a l'' l' l l0 h1 h0 h2 h => postI_mono h1 h0 h2 h) (next i) (fun y hy l hl => by
    obtain ⟨c, y0, y1⟩ := hn y hy
    have li : inL l i := ⟨i0, by rw [hl.len]; exact i1⟩
    have ly : inL l y := ⟨y0, by rw [hl.len]; exact y1⟩
    obtain ⟨a, b, c⟩ := relax_ok c hl li ly
    exact ⟨a, b, fun z hz _ _ => by rw [List.mem_singleton] at hz; subst hz; exact c⟩) l h
  exact ⟨this.1, this.2.1, fun y hy a b => this.2.2 y hy y (by simp) a b⟩
theorem mem_mkL {T : Int → Int} {x : Int} : x ∈ mkL N T ↔ ∃ i : Int, 0 ≤ i ∧ i < N ∧ T i = x := by
  unfold mkL
  simp only [List.mem_map, List.mem_range]
  constructor
  · rintro ⟨i, h, rfl⟩; exact ⟨i, by omega, by omega, rfl⟩
  · rintro ⟨i, h0, h1, rfl⟩; exact ⟨i.toNat, by omega, by rw [show ((i.toNat : Nat) : Int) = i from by omega]⟩
theorem roundL_ok (hn : ∀ i, 0 ≤ i → i < (N : Int) → ∀ y ∈ next i, Conn E i y ∧ 0 ≤ y ∧ y < N) {l : List Int} (h : Lbs E N l) :
    Lbs E N (roundL next N l) ∧ LeL (roundL next N l) l ∧ ∀ i, 0 ≤ i → i < (N : Int) → PostI i (next i) (roundL next N l) l := by
  have := fold_post (fun i l => relaxI next i l) (Lbs E N) (fun i l' l => PostI i (next i) l' l) (fun a l'' l' l l0 h1 h0 h2 h => postI_mono h1 h0 h2 h) (mkL N fun x => x) (fun i hi l hl => by
    obtain ⟨j, j0, j1, rfl⟩ := mem_mkL.1 hi
    exact relaxI_ok (hn j j0 j1) j0 j1 hl) l h
  exact ⟨this.1, this.2.1, fun i i0 i1 => this.2.2 i (mem_mkL.2 ⟨i, i0, i1, rfl⟩)⟩
theorem lbs_start : Lbs E N (mkL N fun x => x) := ⟨mkL_len, fun x hx => by rw [mkL_get hx]; exact .refl x, fun x hx => by rw [mkL_get hx]; exact hx⟩
theorem roundsL_ok (hn : ∀ i, 0 ≤ i → i < (N : Int) → ∀ y ∈ next i, Conn E i y ∧ 0 ≤ y ∧ y < N) : ∀ k, Lbs E N (roundsL next N k)
  | 0 => lbs_start
  | k + 1 => (roundL_ok hn (roundsL_ok hn k)).1
/-- N rounds make the labels the least. -/
theorem roundsL_least {T : Int → Int} (h : LeastT E T N) (hE : ∀ x y, E x y → (0 ≤ x ∧ x < (N : Int)) ∧ y ∈ next x) (hn : ∀ i, 0 ≤ i → i < (N : Int) → ∀ y ∈ next i, Conn E i y ∧ 0 ≤ y ∧ y < N) : roundsL next N N = mkL N T := by
  have hl := roundsL_ok hn
  refine eq_mkL (hl N).len fun x hx => ?_
  have hin : ∀ k x, 0 ≤ x → x < (N : Int) → inL (roundsL next N k) x := fun k x a b => ⟨a, by rw [(hl k).len]; exact b⟩
  have x1 : x < N := by have := hx.2; rw [(hl N).len] at this; exact this
  refine rounds_least h (fun x y e => ⟨(hE x y e).1, (hn x (hE x y e).1.1 (hE x y e).1.2 y (hE x y e).2).2⟩) (fun k x => getI (roundsL next N k) x) (fun x a b => mkL_get (hin 0 x a b)) (fun k x a b => ⟨(hl k).conn x (hin k x a b), ?_⟩) (fun k x a b => ?_) (fun k x y e => ?_) hx.1 x1
  · have := (hl k).rng x (hin k x a b)
    exact ⟨this.1, by have := this.2; rw [(hl k).len] at this; exact this⟩
  · exact (roundL_ok hn (hl k)).2.1.2 x (hin k x a b)
  · obtain ⟨a, b⟩ := hE x y e
    obtain ⟨_, y0, y1⟩ := hn x a.1 a.2 y b
    exact (roundL_ok hn (hl k)).2.2 x a.1 a.2 y b (hin k x a.1 a.2) (hin k y y0 y1)
end
end Go.Eng
