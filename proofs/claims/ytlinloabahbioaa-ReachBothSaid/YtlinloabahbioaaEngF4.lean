/- Plain laws of parts and meshes: a way between them, looked for round by round; how many roots there are. -/
import Derived.Test.YtlinloabahbioaaEngF3
set_option linter.unusedVariables false
set_option linter.unusedSectionVars false
set_option linter.unusedSimpArgs false
namespace Go.Eng
open Go Classical

theorem fold_postG {α σ : Type} (s : α → σ → σ) (I : σ → Prop) (Le : σ → σ → Prop) (hrefl : ∀ x, Le x x) (htrans : ∀ x y z, Le x y → Le y z → Le x z) (Post : α → σ → σ → Prop)
    (hpost : ∀ a l'' l' l l0, Le l'' l' → Le l' l → Le l l0 → Post a l' l → Post a l'' l0) : ∀ (L : List α) (hs : ∀ a ∈ L, ∀ l, I l → I (s a l) ∧ Le (s a l) l ∧ Post a (s a l) l) (l : σ), I l →
    I (L.foldl (fun l a => s a l) l) ∧ Le (L.foldl (fun l a => s a l) l) l ∧ ∀ a ∈ L, Post a (L.foldl (fun l a => s a l) l) l := by
  intro L
  induction L with
  | nil => intro _ l hl; exact ⟨hl, hrefl l, fun a h => by cases h⟩
  | cons b L ih =>
    intro hs l hl
    obtain ⟨h1, h2, h3⟩ := hs b (by simp) l hl
    obtain ⟨g1, g2, g3⟩ := ih (fun a ha => hs a (by simp [ha])) (s b l) h1
    refine ⟨g1, htrans _ _ _ g2 h2, fun a ha => ?_⟩
    rcases List.mem_cons.1 ha with rfl | ha
    · exact hpost a _ _ _ _ g2 h2 (hrefl _) h3
    · exact hpost a _ _ _ _ (hrefl _) g2 h2 (g3 a ha)

/-- One pair of a part and a mesh. -/
noncomputable def wstep (a b : List Int) (i : Int) (s : List Int × List Int) : List Int × List Int :=
  let m := if getI a i ∈ s.1 ∧ getI b i ∉ s.2 then s.2 ++ [getI b i] else s.2
  (if getI b i ∈ m ∧ getI a i ∉ s.1 then s.1 ++ [getI a i] else s.1, m)
noncomputable def wround (a b : List Int) (s : List Int × List Int) : List Int × List Int := (mkL a.length fun x => x).foldl (fun s i => wstep a b i s) s
noncomputable def wrounds (a b : List Int) (part : Int) : Nat → List Int × List Int
  | 0 => ([part], [])
  | k + 1 => wround a b (wrounds a b part k)
/-- Pairs as steps between parts and meshes. -/
def WE (a b : List Int) (N : Int) (x y : Int) : Prop := ∃ i, inL a i ∧ x = getI a i ∧ y = N + getI b i
def SubS (s' s : List Int × List Int) : Prop := (∀ x ∈ s.1, x ∈ s'.1) ∧ (∀ x ∈ s.2, x ∈ s'.2)
section
variable {a b : List Int} {N part : Int}
def Snd (a b : List Int) (N part : Int) (s : List Int × List Int) : Prop := (∀ x ∈ s.1, Conn (WE a b N) part x) ∧ (∀ m ∈ s.2, Conn (WE a b N) part (N + m))
def PostW (a b : List Int) (i : Int) (s' s : List Int × List Int) : Prop := (getI a i ∈ s.1 → getI b i ∈ s'.2) ∧ (getI b i ∈ s.2 → getI a i ∈ s'.1)
theorem subS_refl (s : List Int × List Int) : SubS s s := ⟨fun _ h => h, fun _ h => h⟩
theorem subS_trans (x y z : List Int × List Int) (h : SubS x y) (g : SubS y z) : SubS x z := ⟨fun q k => h.1 q (g.1 q k), fun q k => h.2 q (g.2 q k)⟩
theorem wstep_ok {i : Int} (hi : inL a i) {s : List Int × List Int} (h : Snd a b N part s) : Snd a b N part (wstep a b i s) ∧ SubS (wstep a b i s) s ∧ PostW a b i (wstep a b i s) s := by
  have we : Conn (WE a b N) (getI a i) (N + getI b i) := .edge ⟨i, hi, rfl, rfl⟩
  obtain ⟨h1, h2⟩ := h
  have m1 : ∀ x ∈ (if getI a i ∈ s.1 ∧ getI b i ∉ s.2 then s.2 ++ [getI b i] else s.2), Conn (WE a b N) part (N + x) := by
    intro x hx
    split at hx
    · rename_i c
      rcases List.mem_append.1 hx with hx | hx
      · exact h2 x hx
      · rw [List.mem_singleton] at hx; subst hx
        exact (h1 _ c.1).trans we
    · exact h2 x hx
  have m2 : ∀ x ∈ s.2, x ∈ (if getI a i ∈ s.1 ∧ getI b i ∉ s.2 then s.2 ++ [getI b i] else s.2) := by
    intro x hx; split
    · exact List.mem_append_left _ hx
    · exact hx
  have m3 : getI a i ∈ s.1 → getI b i ∈ (if getI a i ∈ s.1 ∧ getI b i ∉ s.2 then s.2 ++ [getI b i] else s.2) := by
    intro c
    by_cases d : getI b i ∈ s.2
    · exact m2 _ d
    · rw [if_pos ⟨c, d⟩]; simp
  unfold wstep
  simp only
  generalize (if getI a i ∈ s.1 ∧ getI b i ∉ s.2 then s.2 ++ [getI b i] else s.2) = m at *
  refine ⟨⟨fun x hx => ?_, m1⟩, ⟨fun x hx => ?_, m2⟩, m3, fun c => ?_⟩
  · split at hx
    · rename_i d
      rcases List.mem_append.1 hx with hx | hx
      · exact h1 x hx
      · rw [List.mem_singleton] at hx; subst hx
        exact (m1 _ d.1).trans we.symm
    · exact h1 x hx
  · simp only; split
    · exact List.mem_append_left _ hx
    · exact hx
  · simp only
    by_cases d : getI a i ∈ s.1
    · split
      · exact List.mem_append_left _ d
      · exact d
    · rw [if_pos ⟨m2 _ c, d⟩]; simp
theorem wround_ok {s : List Int × List Int} (h : Snd a b N part s) : Snd a b N part (wround a b s) ∧ SubS (wround a b s) s ∧ ∀ i, inL a i → PostW a b i (wround a b s) s := by
  have := fold_postG (fun i s => wstep a b i s) (Snd a b N part) SubS subS_refl subS_trans (fun i s' s => PostW a b i s' s) (fun i l'' l' l l0 h1 h0 h2 h => ⟨fun c => h1.2 _ (h.1 (h2.1 _ c)), fun c => h1.1 _ (h.2 (h2.2 _ c))⟩)
    (mkL a.length fun x => x) (fun i hi s hs => by
      obtain ⟨j, j0, j1, rfl⟩ := mem_mkL.1 hi
      exact wstep_ok ⟨j0, j1⟩ hs) s h
  exact ⟨this.1, this.2.1, fun i hi => this.2.2 i (mem_mkL.2 ⟨i, hi.1, hi.2, rfl⟩)⟩
theorem wrounds_snd : ∀ k, Snd a b N part (wrounds a b part k)
  | 0 => ⟨fun x hx => by simp [wrounds] at hx; subst hx; exact .refl _, fun x hx => by simp [wrounds] at hx⟩
  | k + 1 => (wround_ok (wrounds_snd k)).1
theorem wrounds_sub {j k : Nat} (h : j ≤ k) : SubS (wrounds a b part k) (wrounds a b part j) := by
  induction h with
  | refl => exact subS_refl _
  | step _ ih => exact subS_trans _ _ _ (wround_ok (N := 0) (wrounds_snd _)).2.1 ih
/-- Is there a way? -/
theorem wrounds_spec (ha : ∀ i, inL a i → getI a i < N) (hb : ∀ i, inL a i → 0 ≤ getI b i) (hp : part < N) {K : Nat} (hK : a.length ≤ K) {m : Int} (hm : 0 ≤ m) :
    m ∈ (wrounds a b part K).2 ↔ Conn (WE a b N) part (N + m) := by
  constructor
  · exact fun h => (wrounds_snd K).2 m h
  · intro h
    let S : Nat → Int → Prop := fun k i => getI a i ∈ (wrounds a b part k).1 ∧ getI b i ∈ (wrounds a b part k).2
    obtain ⟨k, hk, hst⟩ := chain_stays (N := a.length) S (fun k i i0 i1 c => by
      have := (wround_ok (N := N) (wrounds_snd (a := a) (b := b) (part := part) k)).2.1
      exact ⟨this.1 _ c.1, this.2 _ c.2⟩)
    have hcl : ∀ i, inL a i → (getI a i ∈ (wrounds a b part k).1 ↔ getI b i ∈ (wrounds a b part k).2) := by
      intro i hi
      have hp := (wround_ok (N := N) (wrounds_snd (a := a) (b := b) (part := part) k)).2
      constructor
      · intro c
        exact (hst i hi.1 hi.2 ⟨hp.1.1 _ c, (hp.2 i hi).1 c⟩).2
      · intro c
        exact (hst i hi.1 hi.2 ⟨(hp.2 i hi).2 c, hp.1.2 _ c⟩).1
    let X : Int → Prop := fun x => (x < N ∧ x ∈ (wrounds a b part k).1) ∨ (N ≤ x ∧ x - N ∈ (wrounds a b part k).2)
    have hX := Conn.set (P := X) (fun x y g => by
      obtain ⟨i, hi, rfl, rfl⟩ := g
      have h1 := ha i hi
      have h2 := hb i hi
      have h3 := hcl i hi
      have e : N + getI b i - N = getI b i := by omega
      simp only [X, e]
      constructor
      · rintro (⟨_, c⟩ | ⟨c, _⟩)
        · exact .inr ⟨by omega, h3.1 c⟩
        · omega
      · rintro (⟨c, _⟩ | ⟨_, c⟩)
        · omega
        · exact .inl ⟨h1, h3.2 c⟩) h
    have h0 : X part := .inl ⟨hp, (wrounds_sub (Nat.zero_le k)).1 _ (by simp [wrounds])⟩
    rcases hX.1 h0 with ⟨c, _⟩ | ⟨_, c⟩
    · omega
    · rw [show N + m - N = m from by omega] at c
      exact (wrounds_sub (Nat.le_trans hk hK)).2 _ c
end

/-! ### How many roots -/
theorem cntI_del {P Q : Int → Prop} {n : Nat} {y : Int} (h : ∀ x : Int, 0 ≤ x → x < n → (Q x ↔ P x ∧ x ≠ y)) (y0 : 0 ≤ y) (y1 : y < n) (hp : P y) : cntI P n = cntI Q n + 1 := by
  induction n with
  | zero => omega
  | succ n ih =>
    have hn := h n (by omega) (by omega)
    by_cases e : y = n
    · subst e
      have : cntI P n = cntI Q n := by
        have h1 := cntI_mono (P := P) (Q := Q) (n := n) fun x a b c => (h x a (by omega)).2 ⟨c, by omega⟩
        have h2 := cntI_mono (P := Q) (Q := P) (n := n) fun x a b c => ((h x a (by omega)).1 c).1
        omega
      unfold cntI
      simp [hp, hn, this]
    · have := ih (fun x a b => h x a (by omega)) (by omega)
      unfold cntI
      have hq : Q n ↔ P n := by rw [hn]; exact ⟨fun c => c.1, fun c => ⟨c, fun d => e d.symm⟩⟩
      by_cases c : P n <;> simp [c, hq] <;> omega
theorem cntI_congr {P Q : Int → Prop} {n : Nat} (h : ∀ x : Int, 0 ≤ x → x < n → (P x ↔ Q x)) : cntI P n = cntI Q n := by
  have h1 := cntI_mono (P := P) (Q := Q) (n := n) fun x a b c => (h x a b).1 c
  have h2 := cntI_mono (P := Q) (Q := P) (n := n) fun x a b c => (h x a b).2 c
  omega
theorem cntI_split {P : Int → Prop} {n m : Nat} : cntI P (n + m) = cntI P n + cntI (fun x => P (n + x)) m := by
  induction m with
  | zero => simp [cntI]
  | succ m ih =>
    have e1 : cntI P (n + (m + 1)) = cntI P (n + m) + if P ((n + m : Nat) : Int) then 1 else 0 := rfl
    have e2 : cntI (fun x => P (n + x)) (m + 1) = cntI (fun x => P (n + x)) m + if P ((n : Int) + (m : Int)) then 1 else 0 := rfl
    have : ((n + m : Nat) : Int) = (n : Int) + (m : Int) := by omega
    rw [e1, e2, ih, this]; omega
theorem cntI_not {P : Int → Prop} {n : Nat} : cntI P n + cntI (fun x => ¬ P x) n = n := by
  induction n with
  | zero => simp [cntI]
  | succ n ih => unfold cntI; by_cases h : P n <;> simp [h] <;> omega
theorem cntI_true {n : Nat} : cntI (fun _ => True) n = n := by
  induction n with
  | zero => rfl
  | succ n ih => unfold cntI; simp [ih]
/-- A join of two that were apart takes one root away. -/
theorem roots_join {E : Int → Int → Prop} {T : Int → Int} {N : Nat} (h : LeastT E T N) {a b : Int} (a0 : 0 ≤ a) (a1 : a < (N : Int)) (b0 : 0 ≤ b) (b1 : b < (N : Int)) :
    cntI (fun x => T x = x) N = cntI (fun x => joinT T a b x = x) N + (if T a = T b then 0 else 1) := by
  have ta := h.top a0 a1; have tb := h.top b0 b1
  have la := h.lo a a0 a1; have lb := h.lo b b0 b1
  have lea := h.le a a0 a1; have leb := h.le b b0 b1
  by_cases e : T a = T b
  · rw [if_pos e]
    refine cntI_congr fun x x0 x1 => ?_
    unfold joinT
    rw [← e]
    by_cases c : T x = max (T a) (T a)
    · rw [if_pos c]
      constructor
      · intro g; omega
      · intro g; omega
    · rw [if_neg c]
  · rw [if_neg e]
    have tM : T (max (T a) (T b)) = max (T a) (T b) := by
      rcases (by omega : max (T a) (T b) = T a ∨ max (T a) (T b) = T b) with g | g <;> rw [g] <;> assumption
    refine cntI_del (y := max (T a) (T b)) (fun x x0 x1 => ?_) (by omega) (by omega) tM
    unfold joinT
    by_cases c : T x = max (T a) (T b)
    · rw [if_pos c]
      constructor
      · intro g
        have hmn : T (min (T a) (T b)) = min (T a) (T b) := by
          rcases (by omega : min (T a) (T b) = T a ∨ min (T a) (T b) = T b) with g | g <;> rw [g] <;> assumption
        have : T x = T (min (T a) (T b)) := by rw [g]
        omega
      · intro g; omega
    · rw [if_neg c]
      constructor
      · intro g; exact ⟨g, fun g2 => c (by rw [g2, tM])⟩
      · exact fun g => g.1
end Go.Eng
