/- Part of the proof of MatrixApart: plain laws of the printed mirrors. No conditions. -/
import Derived.Test.YtcclngfmkodgjaaGreatEng14
import Derived.Test.YtcclngfmkodgjaaGreatMAM
set_option linter.unusedVariables false
set_option linter.unusedSectionVars false
namespace Go.Eng
open Go Classical

theorem wr64 {n : Int} (h1 : -9223372036854775808 ≤ n) (h2 : n < 9223372036854775808) : wr_i64 n = n := by
  unfold wr_i64 IntKind.wrap
  simp [IntKind.signed, IntKind.bits]
  omega

theorem loopM_trace {σ ρ : Type} {f : σ → Option (σ ⊕ ρ)} (st : Nat → σ) (n : Nat) {r : ρ} (hb : n < 18446744073709551616) (h : ∀ i, i < n → f (st i) = some (.inl (st (i + 1)))) (hn : f (st n) = some (.inr r)) :
    loopM f (st 0) = some r := by
  have key : ∀ (k m i : Nat), i + k = n → k < m → iter f m (st i) = some r := by
    intro k
    induction k with
    | zero =>
      intro m i hi hm
      obtain ⟨m, rfl⟩ : ∃ q, m = q + 1 := ⟨m - 1, by omega⟩
      have : i = n := by omega
      subst this
      rw [iter_succ, hn]
    | succ k ih =>
      intro m i hi hm
      obtain ⟨m, rfl⟩ : ∃ q, m = q + 1 := ⟨m - 1, by omega⟩
      rw [iter_succ, h i (by omega)]
      exact ih m (i + 1) (by omega) (by omega)
  exact key n _ 0 (by omega) hb

theorem loopM_rule {σ ρ : Type} {f : σ → Option (σ ⊕ ρ)} (I : σ → Prop) (Q : ρ → Prop) (μ : σ → Nat)
    (h : ∀ s, I s → ∃ q, f s = some q ∧ match q with | .inl s' => I s' ∧ μ s' < μ s | .inr r => Q r) {s : σ} (hs : I s) (hb : μ s < 18446744073709551615) : ∃ r, loopM f s = some r ∧ Q r := by
  have key : ∀ (m : Nat) s, I s → μ s < m → ∃ r, iter f m s = some r ∧ Q r := by
    intro m
    induction m with
    | zero => intro s _ h; omega
    | succ m ih =>
      intro s hs hm
      obtain ⟨q, hq, hr⟩ := h s hs
      cases q with
      | inl s' =>
        obtain ⟨r, h1, h2⟩ := ih s' hr.1 (by have := hr.2; omega)
        exact ⟨r, by rw [iter_succ, hq]; exact h1, h2⟩
      | inr r => exact ⟨r, by rw [iter_succ, hq], hr⟩
  exact key _ s hs (by omega)

theorem loop_ix {α ρ : Type} {f : Int → Option (Int ⊕ ρ)} (l : List α) (step : Nat → α → Option ρ) (last : ρ) (hb : l.length < 9223372036854775807)
    (h1 : ∀ (i : Nat) x, l[i]? = some x → i < l.length → f i = some (match step i x with | none => .inl ((i : Int) + 1) | some r => .inr r)) (h2 : f l.length = some (.inr last)) :
    loopM f 0 = some ((l.zipIdx.findSome? fun q => step q.2 q.1).getD last) := by
  have key : ∀ (r : List α) (k : Nat), l.drop k = r → k ≤ l.length → ∃ n, n ≤ l.length - k ∧ (∀ i, i < n → f ((k + i : Nat) : Int) = some (.inl ((k + (i + 1) : Nat) : Int))) ∧ f ((k + n : Nat) : Int) = some (.inr (((r.zipIdx k).findSome? fun q => step q.2 q.1).getD last)) := by
    intro r
    induction r with
    | nil =>
      intro k hk hle
      have : k = l.length := by
        have := congrArg List.length hk
        simp at this; omega
      subst this
      exact ⟨0, by omega, fun i hi => by omega, by simpa using h2⟩
    | cons x r ih =>
      intro k hk hle
      have hx : l[k]? = some x := by
        have := congrArg (fun q => q[0]?) hk
        simpa using this
      have hlt : k < l.length := (List.getElem?_eq_some_iff.1 hx).1
      have hs := h1 k x hx hlt
      cases hst : step k x with
      | some q =>
        rw [hst] at hs
        exact ⟨0, by omega, fun i hi => by omega, by simpa [List.zipIdx_cons, hst] using hs⟩
      | none =>
        rw [hst] at hs
        obtain ⟨n, hn, ha, hb⟩ := ih (k + 1) (by rw [← List.drop_drop, hk]; rfl) (by omega)
        refine ⟨n + 1, by omega, fun i hi => ?_, ?_⟩
        · cases i with
          | zero => simpa using hs
          | succ i =>
            have := ha i (by omega)
            rw [show k + (i + 1) = k + 1 + i from by omega, show k + (i + 1 + 1) = k + 1 + (i + 1) from by omega]; exact this
        · rw [show k + (n + 1) = k + 1 + n from by omega, hb]
          simp [List.zipIdx_cons, hst]
  obtain ⟨n, hn, ha, hb'⟩ := key l 0 rfl (by omega)
  simp only [Nat.zero_add] at ha hb'
  exact loopM_trace (fun i => (i : Int)) n (by omega) ha hb'

theorem loop_all {α ρ : Type} {f : Int → Option (Int ⊕ ρ)} (l : List α) (P : Nat → α → Prop) {a b : ρ} (hb : l.length < 9223372036854775807)
    (h1 : ∀ (i : Nat) x, l[i]? = some x → i < l.length → f i = some (if P i x then .inl ((i : Int) + 1) else .inr a)) (h2 : f l.length = some (.inr b)) :
    loopM f 0 = some (if ∀ (i : Nat) x, l[i]? = some x → P i x then b else a) := by
  rw [loop_ix l (fun i x => if P i x then none else some a) b hb (fun i x hx hi => by rw [h1 i x hx hi]; split <;> rfl) h2]
  congr 1
  cases hf : l.zipIdx.findSome? (fun q => if P q.2 q.1 then none else some a) with
  | none =>
    rw [List.findSome?_eq_none_iff] at hf
    rw [if_pos]; · rfl
    intro i x hx
    have := hf (x, i) (by rw [List.mem_zipIdx_iff_getElem?]; simpa using hx)
    apply Classical.byContradiction
    intro hn
    simp [hn] at this
  | some r =>
    obtain ⟨q, hq, hr⟩ := List.exists_of_findSome?_eq_some hf
    rw [List.mem_zipIdx_iff_getElem?] at hq
    rw [if_neg]
    · split at hr
      · cases hr
      · simp only [Option.some.injEq] at hr; subst hr; rfl
    · intro hall
      have := hall q.2 q.1 (by simpa using hq)
      simp [this] at hr

abbrev Few {α : Type} (l : List α) : Prop := l.length ≤ 1000000
theorem few_of {α : Type} {l : List α} {k : Nat} (h : l.length ≤ k) (hk : k ≤ 1000000 := by decide) : Few l := by unfold Few; omega
theorem few_nil {α : Type} : Few ([] : List α) := by simp [Few]

def inL {α : Type} (l : List α) (i : Int) : Prop := 0 ≤ i ∧ i < l.length
theorem inL_iff {α : Type} {l : List α} {i : Int} : inL l i ↔ 0 ≤ i ∧ i < l.length := Iff.rfl
noncomputable def getI {α : Type} [Inhabited α] (l : List α) (i : Int) : α := (l[i.toNat]?).getD default
section
variable {α : Type} [Inhabited α] {l : List α} {i : Int}
theorem nth_getI (h : inL l i) : nth l i = some (getI l i) := by
  have h1 := h.1; have h2 := h.2
  have : i.toNat < l.length := by omega
  simp [nth, getI, h1, this]
theorem getI_nat {n : Nat} {x : α} (h : l[n]? = some x) : getI l n = x := by simp [getI, h]
theorem inL_nat {n : Nat} {x : α} (h : l[n]? = some x) : inL l n := ⟨by omega, by have := (List.getElem?_eq_some_iff.1 h).1; omega⟩
theorem getI_get? (h : inL l i) : l[i.toNat]? = some (getI l i) := (nth_out (nth_getI h)).2
theorem getI_mem (h : inL l i) : getI l i ∈ l := List.mem_of_getElem? (getI_get? h)
theorem mem_getI {x : α} (h : x ∈ l) : ∃ i, inL l i ∧ getI l i = x := by
  obtain ⟨i, hi⟩ := List.getElem?_of_mem h
  exact ⟨i, inL_nat hi, getI_nat hi⟩
end
def EachP {α : Type} [Inhabited α] (l : List α) (P : Int → α → Prop) : Prop := ∀ i, inL l i → P i (getI l i)
theorem eachP_nat {α : Type} [Inhabited α] {l : List α} {P : Int → α → Prop} : EachP l P ↔ ∀ (i : Nat) x, l[i]? = some x → P i x := by
  constructor
  · intro h i x hx
    have := h i (inL_nat hx)
    rwa [getI_nat hx] at this
  · intro h i hi
    have h1 := hi.1
    have := h i.toNat _ (getI_get? hi)
    rwa [show ((i.toNat : Nat) : Int) = i from by omega] at this
theorem loop_each {α ρ : Type} [Inhabited α] {f : Int → Option (Int ⊕ ρ)} (l : List α) (P : Int → α → Prop) (a b : ρ) (hb : Few l)
    (h1 : ∀ i : Int, 0 ≤ i → i < l.length → inL l i → f i = some (if P i (getI l i) then .inl (i + 1) else .inr a)) (h2 : f l.length = some (.inr b)) :
    loopM f 0 = if EachP l P then some b else some a := by
  rw [loop_all l (fun i x => P i x) (by unfold Few at hb; omega) (fun i x hx hi => by rw [h1 i (by omega) (by omega) (inL_nat hx), getI_nat hx]) h2]
  simp only [eachP_nat]
  split <;> rfl
theorem loop_pass {α ρ : Type} [Inhabited α] {f : Int → Option (Int ⊕ ρ)} (l : List α) (b : ρ) (hb : Few l)
    (h1 : ∀ i : Int, 0 ≤ i → i < l.length → inL l i → f i = some (.inl (i + 1))) (h2 : f l.length = some (.inr b)) : loopM f 0 = some b := by
  rw [loop_each l (fun _ _ => True) b b hb (fun i a c d => by rw [h1 i a c d]; simp) h2]; simp
theorem eachP_mem {α : Type} [Inhabited α] {l : List α} {P : α → Prop} : EachP l (fun _ x => P x) ↔ ∀ x ∈ l, P x := by
  rw [eachP_nat]
  constructor
  · intro h v hv
    obtain ⟨i, hi⟩ := List.getElem?_of_mem hv
    exact h i v hi
  · intro h i x hx
    exact h x (List.mem_of_getElem? hx)

/-! ### What is decided -/
section
variable {β γ : Type} {c p q : Prop}
theorem bind_ite [Decidable c] {x y : Option β} {k : β → Option γ} : (if c then x else y).bind k = if c then x.bind k else y.bind k := by split <;> rfl
theorem dif1 [Decidable c] [Decidable p] : (if c then some (decide p) else some false) = some (decide (c ∧ p)) := by by_cases c <;> simp [*]
theorem dif2 [Decidable c] [Decidable p] : (if c then some true else some (decide p)) = some (decide (c ∨ p)) := by by_cases c <;> simp [*]
theorem dif3 [Decidable c] [Decidable p] : (if c then some false else some (decide p)) = some (decide (¬ c ∧ p)) := by by_cases c <;> simp [*]
theorem dif4 [Decidable c] [Decidable p] : (if c then some (decide p) else some true) = some (decide (c → p)) := by by_cases c <;> simp [*]
theorem dif5 [Decidable c] [Decidable p] [Decidable q] : (if c then some (decide p) else some (decide q)) = some (decide ((c → p) ∧ (¬ c → q))) := by by_cases c <;> simp [*]
theorem dif6 [Decidable c] : (if c then some true else some false) = some (decide c) := by by_cases c <;> simp [*]
theorem dif7 [Decidable c] : (if c then some false else some true) = some (decide ¬ c) := by by_cases c <;> simp [*]
theorem dnot [Decidable p] : (!decide p) = decide (¬ p) := by simp
theorem ibeq {x y : Int} : (x == y) = decide (x = y) := by rw [Bool.eq_iff_iff]; simp
theorem ibne {x y : Int} : (x != y) = decide (x ≠ y) := by rw [Bool.eq_iff_iff]; simp
theorem sdec {_ : Decidable p} {_ : Decidable q} (h : p ↔ q) : some (decide p) = some (decide q) := by simp [h]
theorem if_not2 [Decidable p] [Decidable (¬ p)] {x y : β} : (if ¬ p then x else y) = if p then y else x := by by_cases p <;> simp [*]
theorem mrg1 [Decidable c] [Decidable p] {x y : β} : (if c then (if p then x else y) else y) = if c ∧ p then x else y := by by_cases c <;> simp [*]
theorem mrg2 [Decidable c] [Decidable p] {x y : β} : (if c then y else (if p then x else y)) = if ¬ c ∧ p then x else y := by by_cases c <;> simp [*]
theorem mrg3 [Decidable c] [Decidable p] {x y : β} : (if c then x else (if p then x else y)) = if c ∨ p then x else y := by by_cases c <;> simp [*]
theorem mrg4 [Decidable c] [Decidable p] {x y : β} : (if c then (if p then x else y) else x) = if c → p then x else y := by by_cases c <;> simp [*]
theorem mrg5 [Decidable c] {x : β} : (if c then x else x) = x := by simp
theorem mrg6 [Decidable c] [Decidable p] [Decidable q] {x y : β} : (if c then (if p then x else y) else (if q then x else y)) = if (c → p) ∧ (¬ c → q) then x else y := by by_cases c <;> simp [*]
theorem mrg7 [Decidable c] [Decidable p] [Decidable q] {x y : β} : (if c then (if p then x else y) else (if q then y else x)) = if (c → p) ∧ (¬ c → ¬ q) then x else y := by by_cases c <;> by_cases q <;> simp [*]
theorem fpos {_ : Decidable p} {_ : Decidable q} {x y : β} (h : q ↔ p) : (if q then some x else some y) = some (if p then x else y) := by by_cases p <;> simp [*]
theorem fneg {_ : Decidable p} {_ : Decidable q} {x y : β} (h : q ↔ ¬ p) : (if q then some y else some x) = some (if p then x else y) := by by_cases p <;> simp [*]
theorem ite_cg {α : Type} {l : List α} {i : Int} [Decidable (inL l i)] {x y u v : β} (h2 : inL l i → x = u) (h3 : ¬ inL l i → y = v) : (if inL l i then x else y) = (if inL l i then u else v) := ite_congr rfl h2 h3
end
def ixI : Option Nat → Int | some i => i | none => -1
theorem loop_findI {α : Type} [Inhabited α] {f : Int → Option (Int ⊕ (Int ⊕ Unit))} (l : List α) (p : α → Bool) (hb : Few l)
    (h1 : ∀ i : Int, 0 ≤ i → i < l.length → inL l i → f i = some (if p (getI l i) = true then .inr (.inl i) else .inl (i + 1))) (h2 : f l.length = some (.inr (.inr ()))) :
    loopM f 0 = match l.findIdx? p with | some i => some (.inl (i : Int)) | none => some (.inr ()) := by
  have h := loop_ix l (fun i x => if p x = true then some (.inl (i : Int)) else none) (.inr ()) (f := f) (by unfold Few at hb; omega) (fun i x hx hi => by rw [h1 i (by omega) (by omega) (inL_nat hx), getI_nat hx]; split <;> rfl) h2
  rw [h]
  have key : ∀ (l : List α) (k : Nat), ((l.zipIdx k).findSome? (fun q => if p q.1 = true then some (Sum.inl (q.2 : Int)) else none)).getD (Sum.inr ()) = (match l.findIdx? p with | some i => Sum.inl ((k + i : Nat) : Int) | none => Sum.inr () : Int ⊕ Unit) := by
    intro l
    induction l with
    | nil => intro k; rfl
    | cons x l ih =>
      intro k
      rw [List.zipIdx_cons, List.findSome?_cons, List.findIdx?_cons]
      by_cases hp : p x = true
      · simp [hp]
      · simp only [hp]
        have := ih (k + 1)
        simp only [Bool.false_eq_true, if_false] at this ⊢
        rw [this]
        cases List.findIdx? p l with
        | none => rfl
        | some i => simp; omega
  rw [key l 0]
  cases l.findIdx? p <;> simp
theorem loop_fold {α σ τ ρ : Type} {f : τ → Option (τ ⊕ ρ)} (l : List α) (st : σ → Int → τ) (g : Nat → α → σ → σ) (s0 : σ) {out : σ → ρ} (hb : l.length < 9223372036854775807) (I : Nat → σ → Prop) (h0 : I 0 s0)
    (h1 : ∀ (i : Nat) x s, l[i]? = some x → i < l.length → I i s → f (st s i) = some (.inl (st (g i x s) ((i : Int) + 1))) ∧ I (i + 1) (g i x s)) (h2 : ∀ s, I l.length s → f (st s l.length) = some (.inr (out s))) :
    loopM f (st s0 0) = some (out (l.zipIdx.foldl (fun s q => g q.2 q.1 s) s0)) := by
  let S : Nat → σ := fun i => (l.zipIdx.take i).foldl (fun s q => g q.2 q.1 s) s0
  have hS : ∀ i x, l[i]? = some x → S (i + 1) = g i x (S i) := by
    intro i x hx
    have hz : l.zipIdx[i]? = some (x, i) := by simp [hx]
    simp only [S]
    rw [List.take_add_one, hz]
    simp
  have hI : ∀ i, i ≤ l.length → I i (S i) := by
    intro i
    induction i with
    | zero => intro _; exact h0
    | succ i ih =>
      intro hi
      have hx : l[i]? = some l[i] := List.getElem?_eq_getElem (by omega)
      rw [hS i _ hx]
      exact (h1 i _ _ hx (by omega) (ih (by omega))).2
  have hend : S l.length = l.zipIdx.foldl (fun s q => g q.2 q.1 s) s0 := by
    simp only [S]
    rw [List.take_of_length_le (by simp)]
  have := loopM_trace (f := f) (fun i => st (S i) i) l.length (r := out (S l.length)) (by omega) (fun i hi => by
    have hx : l[i]? = some l[i] := List.getElem?_eq_getElem hi
    have := (h1 i _ (S i) hx hi (hI i (by omega))).1
    rw [← hS i _ hx] at this
    rw [this]; simp) (h2 _ (hI _ (Nat.le_refl _)))
  rw [hend] at this
  exact this

noncomputable def fstI {α : Type} (l : List α) (P : α → Prop) : Int := ixI (l.findIdx? fun x => decide (P x))
section
variable {α : Type} [Inhabited α] {l : List α} {P : α → Prop}
theorem fstI_cases : (fstI l P = -1 ∧ ∀ i, inL l i → ¬ P (getI l i)) ∨ (inL l (fstI l P) ∧ P (getI l (fstI l P)) ∧ ∀ j, inL l j → j < fstI l P → ¬ P (getI l j)) := by
  unfold fstI
  cases h : l.findIdx? fun x => decide (P x) with
  | none =>
    rw [List.findIdx?_eq_none_iff] at h
    refine .inl ⟨rfl, fun i hi => ?_⟩
    have := h _ (getI_mem hi)
    simpa using this
  | some n =>
    rw [List.findIdx?_eq_some_iff_getElem] at h
    obtain ⟨hn, h1, h2⟩ := h
    refine .inr ⟨⟨by simp [ixI], by simpa [ixI] using hn⟩, ?_, fun j hj hlt => ?_⟩
    · simp only [ixI]; rw [getI_nat (List.getElem?_eq_getElem hn)]; simpa using h1
    · simp only [ixI] at hlt
      have hj0 := hj.1
      have := h2 j.toNat (by omega)
      rw [show getI l j = l[j.toNat]'(by omega) from by
        have := getI_get? hj
        exact ((List.getElem?_eq_some_iff.1 this).2).symm]
      simpa using this
theorem fstI_ge : -1 ≤ fstI l P := by unfold fstI ixI; split <;> omega
theorem fstI_inL : 0 ≤ fstI l P ↔ inL l (fstI l P) := by
  rcases fstI_cases (l := l) (P := P) with h | h
  · rw [h.1]; simp [inL]
  · exact ⟨fun _ => h.1, fun h => h.1⟩
theorem fstI_is (h : 0 ≤ fstI l P) : P (getI l (fstI l P)) := by
  rcases fstI_cases (l := l) (P := P) with h1 | h1
  · omega
  · exact h1.2.1
theorem fstI_first {j : Int} (hj : inL l j) (hp : P (getI l j)) : 0 ≤ fstI l P ∧ fstI l P ≤ j := by
  rcases fstI_cases (l := l) (P := P) with h1 | h1
  · exact absurd hp (h1.2 j hj)
  · refine ⟨h1.1.1, ?_⟩
    apply Classical.byContradiction
    intro hn
    exact h1.2.2 j hj (by omega) hp
theorem fstI_none : fstI l P < 0 ↔ ∀ i, inL l i → ¬ P (getI l i) := by
  constructor
  · intro h i hi hp
    have := fstI_first hi hp; omega
  · intro h
    rcases fstI_cases (l := l) (P := P) with h1 | h1
    · omega
    · exact absurd h1.2.1 (h _ h1.1)
theorem fstI_none_mem : fstI l P < 0 ↔ ∀ x ∈ l, ¬ P x := by
  rw [fstI_none]
  constructor
  · intro h x hx
    obtain ⟨i, hi, rfl⟩ := mem_getI hx
    exact h i hi
  · exact fun h i hi => h _ (getI_mem hi)
theorem fstI_eq {i : Int} (hi : inL l i) : fstI l P = i ↔ P (getI l i) ∧ ∀ j, inL l j → j < i → ¬ P (getI l j) := by
  constructor
  · intro h
    subst h
    exact ⟨fstI_is hi.1, fun j hj hlt hp => by have := fstI_first hj hp; omega⟩
  · rintro ⟨h1, h2⟩
    have h3 := fstI_first hi h1
    have h4 := fstI_inL.1 h3.1
    have h5 := fstI_is h3.1
    by_cases h : fstI l P < i
    · exact absurd h5 (h2 _ h4 h)
    · omega
theorem loop_first {f : Int → Option (Int ⊕ (Int ⊕ Unit))} (l : List α) (P : α → Prop) (hb : Few l)
    (h1 : ∀ i : Int, 0 ≤ i → i < l.length → inL l i → f i = some (if P (getI l i) then .inr (.inl i) else .inl (i + 1))) (h2 : f l.length = some (.inr (.inr ()))) :
    loopM f 0 = if 0 ≤ fstI l P then some (.inl (fstI l P)) else some (.inr ()) := by
  rw [loop_findI l (fun x => decide (P x)) hb (fun i a b c => by rw [h1 i a b c]; by_cases h : P (getI l i) <;> simp [h]) h2]
  unfold fstI
  cases l.findIdx? fun x => decide (P x) <;> simp [ixI]
theorem fst_ret : (if 0 ≤ fstI l P then some (fstI l P) else some (-1)) = some (fstI l P) := by
  split
  · rfl
  · have := fstI_ge (l := l) (P := P)
    congr 1; omega
end

theorem roomy_few {α : Type} {l : List α} {b : Nat} (h : l.length ≤ 1000100) (hb : b ≤ 100000000 := by decide) : roomy b l = true := by
  unfold roomy
  have := Nat.mul_le_mul h hb
  exact decide_eq_true ⟨by omega, by omega⟩

noncomputable def gatherI {α β : Type} (l : List α) (P : Int → α → Prop) (e : Int → α → β) : List β := l.zipIdx.filterMap fun q => if P q.2 q.1 then some (e q.2 q.1) else none
section
variable {α β : Type} [Inhabited α] {l : List α} {P : Int → α → Prop} {e : Int → α → β}
theorem gatherI_len : (gatherI l P e).length ≤ l.length := by
  unfold gatherI
  refine Nat.le_trans (List.length_filterMap_le _ _) (by simp)
theorem mem_gatherI {y : β} : y ∈ gatherI l P e ↔ ∃ i, inL l i ∧ P i (getI l i) ∧ y = e i (getI l i) := by
  unfold gatherI
  rw [List.mem_filterMap]
  constructor
  · rintro ⟨⟨x, i⟩, hq, hy⟩
    rw [List.mem_zipIdx_iff_getElem?] at hq
    simp only at hq hy
    split at hy
    · rename_i hp
      refine ⟨i, inL_nat hq, ?_, ?_⟩
      · rw [getI_nat hq]; exact hp
      · rw [getI_nat hq]; simpa using hy.symm
    · cases hy
  · rintro ⟨i, hi, hp, rfl⟩
    have hi0 := hi.1
    refine ⟨(getI l i, i.toNat), ?_, ?_⟩
    · rw [List.mem_zipIdx_iff_getElem?]; exact getI_get? hi
    · simp only
      rw [show ((i.toNat : Nat) : Int) = i from by omega, if_pos hp]
end
theorem loop_gather {α β ρ : Type} [Inhabited α] {f : List β × Int → Option ((List β × Int) ⊕ ρ)} (l : List α) (P : Int → α → Prop) (e : Int → α → β) {out : List β → ρ} (hb : Few l)
    (h1 : ∀ (i : Int) (s : List β), 0 ≤ i → i < l.length → inL l i → s.length ≤ i → f (s, i) = some (.inl (if P i (getI l i) then s ++ [e i (getI l i)] else s, i + 1))) (h2 : ∀ s, f (s, l.length) = some (.inr (out s))) :
    loopM f ([], 0) = some (out (gatherI l P e)) := by
  have := loop_fold (f := f) l (fun s i => (s, i)) (fun i x s => if P i x then s ++ [e i x] else s) [] (out := out) (by unfold Few at hb; omega) (fun i s => s.length ≤ i) (by simp) (fun i x s hx hi hs => by
    have h := h1 i s (by omega) (by omega) (inL_nat hx) (by omega)
    rw [getI_nat hx] at h
    refine ⟨h, ?_⟩
    split
    · simp; omega
    · omega) (fun s _ => h2 s)
  have key : ∀ (q : List (α × Nat)) (s : List β), q.foldl (fun s q => if P q.2 q.1 then s ++ [e q.2 q.1] else s) s = s ++ q.filterMap fun q => if P q.2 q.1 then some (e q.2 q.1) else none := by
    intro q
    induction q with
    | nil => intro s; simp
    | cons a q ih =>
      intro s
      rw [List.foldl_cons, ih, List.filterMap_cons]
      by_cases h : P a.2 a.1 <;> simp [h]
  rw [this, key l.zipIdx []]
  rfl

theorem lin_dec {α : Type} {l : List α} {i : Int} : lin l i = decide (inL l i) := by unfold lin inL; exact decide_eq_decide.2 Iff.rfl
section
variable {α : Type} [Inhabited α] {l : List α}
end
end Go.Eng

set_option linter.unusedVariables false
set_option linter.unusedSectionVars false
set_option linter.unusedSimpArgs false
namespace Go.Eng
open Go Classical
attribute [local congr] ite_cg

theorem place_Device_spec {l i} : names_place_Device l i = some (decide (inL l i)) := by simp only [names_place_Device, bind_ite, Option.bind_some, dif1, dif2, dif3, dif4, dif5, dif6, dif7, dnot, ibeq, ibne, decide_eq_true_eq, if_not2, ge_iff_le, gt_iff_lt, fst_ret, Bool.false_eq_true, decide_false]; exact sdec Iff.rfl
theorem place_Port_spec {l i} : names_place_Port l i = some (decide (inL l i)) := by simp only [names_place_Port, bind_ite, Option.bind_some, dif1, dif2, dif3, dif4, dif5, dif6, dif7, dnot, ibeq, ibne, decide_eq_true_eq, if_not2, ge_iff_le, gt_iff_lt, fst_ret, Bool.false_eq_true, decide_false]; exact sdec Iff.rfl
theorem place_Link_spec {l i} : names_place_Link l i = some (decide (inL l i)) := by simp only [names_place_Link, bind_ite, Option.bind_some, dif1, dif2, dif3, dif4, dif5, dif6, dif7, dnot, ibeq, ibne, decide_eq_true_eq, if_not2, ge_iff_le, gt_iff_lt, fst_ret, Bool.false_eq_true, decide_false]; exact sdec Iff.rfl
theorem place_Domain_spec {l i} : names_place_Domain l i = some (decide (inL l i)) := by simp only [names_place_Domain, bind_ite, Option.bind_some, dif1, dif2, dif3, dif4, dif5, dif6, dif7, dnot, ibeq, ibne, decide_eq_true_eq, if_not2, ge_iff_le, gt_iff_lt, fst_ret, Bool.false_eq_true, decide_false]; exact sdec Iff.rfl
theorem place_Irb_spec {l i} : names_place_Irb l i = some (decide (inL l i)) := by simp only [names_place_Irb, bind_ite, Option.bind_some, dif1, dif2, dif3, dif4, dif5, dif6, dif7, dnot, ibeq, ibne, decide_eq_true_eq, if_not2, ge_iff_le, gt_iff_lt, fst_ret, Bool.false_eq_true, decide_false]; exact sdec Iff.rfl
theorem place_Vrf_spec {l i} : names_place_Vrf l i = some (decide (inL l i)) := by simp only [names_place_Vrf, bind_ite, Option.bind_some, dif1, dif2, dif3, dif4, dif5, dif6, dif7, dnot, ibeq, ibne, decide_eq_true_eq, if_not2, ge_iff_le, gt_iff_lt, fst_ret, Bool.false_eq_true, decide_false]; exact sdec Iff.rfl

theorem Index_int_spec {l : List Int} {x : Int} (hl : Few l) : slices_Index_int l x = some (fstI l (fun y => x = y)) := by
  unfold slices_Index_int
  rw [loop_first l (fun y => x = y) hl (fun i h0 h1 h2 => by simp (disch := omega) only [slices_Index_int_L1, h1, nth_getI h2, wr64, bind_ite, Option.bind_some, dif1, dif2, dif3, dif4, dif5, dif6, dif7, dnot, ibeq, ibne, decide_eq_true_eq, if_not2, ge_iff_le, gt_iff_lt, fst_ret, Bool.false_eq_true, decide_false, decide_true, if_true]; split <;> rfl) (by simp [slices_Index_int_L1])]
  simp only [bind_ite, Option.bind_some, dif1, dif2, dif3, dif4, dif5, dif6, dif7, dnot, ibeq, ibne, decide_eq_true_eq, if_not2, ge_iff_le, gt_iff_lt, fst_ret, Bool.false_eq_true, decide_false]

theorem Contains_int_spec {l : List Int} {x : Int} (hl : Few l) : slices_Contains_int l x = some (decide (x ∈ l)) := by
  unfold slices_Contains_int
  rw [Index_int_spec hl]
  simp only [bind_ite, Option.bind_some, dif1, dif2, dif3, dif4, dif5, dif6, dif7, dnot, ibeq, ibne, decide_eq_true_eq, if_not2, ge_iff_le, gt_iff_lt, fst_ret, Bool.false_eq_true, decide_false]
  refine sdec ?_
  have := fstI_none_mem (l := l) (P := fun y => x = y)
  constructor
  · intro h
    apply Classical.byContradiction
    intro hn
    have := this.2 (fun y hy e => hn (e ▸ hy)); omega
  · intro h
    apply Classical.byContradiction
    intro hn
    exact this.1 (by omega) x h rfl

/-! ### The net -/
structure SmN (n : Api_Net) : Prop where
  devices : Few n.devices
  ports : Few n.ports
  links : Few n.links
  domains : Few n.domains
  statics : Few n.statics
  floods : Few n.floods
  vrfs : Few n.vrfs
  irbs : Few n.irbs
  tagged : ∀ p ∈ n.ports, Few p.tagged
  peers : ∀ d ∈ n.domains, Few d.peers
  addrs : ∀ f ∈ n.floods, Few f.addrs
  imports : ∀ v ∈ n.vrfs, Few v.imports
  exports : ∀ v ∈ n.vrfs, Few v.exports

noncomputable def domIx (l : List Api_Domain) (dev vlan : Int) : Int := fstI l fun d => d.dev = dev ∧ d.vlan = vlan

theorem IndexFunc_judge_domain_spec {l a b} (hl : Few l) : slices_IndexFunc_Domain_judge_domain_1 l a b = some (domIx l a b) := by
  unfold slices_IndexFunc_Domain_judge_domain_1
  rw [loop_first l (fun d => d.dev = a ∧ d.vlan = b) hl (fun i h0 h1 h2 => by simp (disch := omega) only [slices_IndexFunc_Domain_judge_domain_1_L1, names_judge_domain_1, h1, nth_getI h2, wr64, bind_ite, Option.bind_some, dif1, dif2, dif3, dif4, dif5, dif6, dif7, dnot, ibeq, ibne, decide_eq_true_eq, if_not2, ge_iff_le, gt_iff_lt, fst_ret, Bool.false_eq_true, decide_false, decide_true, if_true]; split <;> rfl) (by simp [slices_IndexFunc_Domain_judge_domain_1_L1])]
  simp only [bind_ite, Option.bind_some, dif1, dif2, dif3, dif4, dif5, dif6, dif7, dnot, ibeq, ibne, decide_eq_true_eq, if_not2, ge_iff_le, gt_iff_lt, fst_ret, Bool.false_eq_true, decide_false]
  rfl

theorem judge_domain_spec {j a b} (hl : Few j.n.domains) : names_judge_domain j a b = some (domIx j.n.domains a b) := by
  simp only [names_judge_domain, IndexFunc_judge_domain_spec hl, bind_ite, Option.bind_some, dif1, dif2, dif3, dif4, dif5, dif6, dif7, dnot, ibeq, ibne, decide_eq_true_eq, if_not2, ge_iff_le, gt_iff_lt, fst_ret, Bool.false_eq_true, decide_false]

def BareP (n : Api_Net) (i : Int) (d : Api_Domain) : Prop :=
  inL n.devices d.dev ∧ 1 ≤ d.vlan ∧ d.vlan ≤ 4094 ∧ 0 ≤ d.vni ∧ d.vni ≤ 16777215 ∧ (d.irb = -1 ∨ inL n.irbs d.irb ∧ (getI n.irbs d.irb).domain = i) ∧ domIx n.domains d.dev d.vlan = i

theorem judge_bare_spec {n : Api_Net} {i : Int} {d} (hl : Few n.domains) : names_judge_bare ⟨n⟩ i d = some (decide (BareP n i d)) := by
  simp +contextual only [names_judge_bare, place_Device_spec, place_Irb_spec, judge_domain_spec (j := ⟨n⟩) hl, nth_getI, bind_ite, Option.bind_some, dif1, dif2, dif3, dif4, dif5, dif6, dif7, dnot, ibeq, ibne, decide_eq_true_eq, if_not2, ge_iff_le, gt_iff_lt, fst_ret, Bool.false_eq_true, decide_false]
  refine sdec ?_
  unfold BareP
  grind

def vtepP (n : Api_Net) (dev : Int) : Prop := (getI n.devices dev).vtep ≠ 0
theorem judge_vtep_spec {n : Api_Net} {d : Api_Domain} (h : inL n.devices d.dev) : names_judge_vtep ⟨n⟩ d = some (decide (vtepP n d.dev)) := by
  simp only [names_judge_vtep, nth_getI h, bind_ite, Option.bind_some, dif1, dif2, dif3, dif4, dif5, dif6, dif7, dnot, ibeq, ibne, decide_eq_true_eq, if_not2, ge_iff_le, gt_iff_lt, fst_ret, Bool.false_eq_true, decide_false]; exact sdec Iff.rfl

def PeerP (n : Api_Net) (i : Int) (d : Api_Domain) (k : Int) : Prop :=
  inL n.domains k ∧ k ≠ i ∧ inL n.devices (getI n.domains k).dev ∧ (getI n.domains k).dev ≠ d.dev ∧ (getI n.domains k).vni = d.vni ∧ d.vni ≠ 0 ∧ vtepP n (getI n.domains k).dev ∧ vtepP n d.dev ∧ i ∈ (getI n.domains k).peers

theorem judge_peer_spec {n : Api_Net} (hs : SmN n) {i : Int} {d : Api_Domain} (hd : inL n.devices d.dev) {k : Int} : names_judge_peer ⟨n⟩ i d k = some (decide (PeerP n i d k)) := by
  have hp : inL n.domains k → Few (getI n.domains k).peers := fun h => hs.peers _ (getI_mem h)
  simp +contextual only [names_judge_peer, place_Domain_spec, place_Device_spec, judge_vtep_spec, hd, Contains_int_spec, hp, nth_getI, bind_ite, Option.bind_some, dif1, dif2, dif3, dif4, dif5, dif6, dif7, dnot, ibeq, ibne, decide_eq_true_eq, if_not2, ge_iff_le, gt_iff_lt, fst_ret, Bool.false_eq_true, decide_false]
  refine sdec ?_
  unfold PeerP
  grind

def PeersP (n : Api_Net) (i : Int) (d : Api_Domain) : Prop := EachP d.peers fun j k => PeerP n i d k ∧ fstI d.peers (fun y => k = y) = j

theorem judge_peers_spec {n : Api_Net} (hs : SmN n) {i : Int} {d : Api_Domain} (hd : inL n.devices d.dev) (hp : Few d.peers) : names_judge_peers ⟨n⟩ i d = some (decide (PeersP n i d)) := by
  unfold names_judge_peers names_all_int_judge_peers_1
  rw [loop_each d.peers (fun j k => PeerP n i d k ∧ fstI d.peers (fun y => k = y) = j) (.inl ()) (.inr ()) hp (fun j h0 h1 h2 => by
    simp (disch := omega) only [names_all_int_judge_peers_1_L1, names_judge_peers_1, h1, nth_getI h2, wr64, judge_peer_spec hs hd, Index_int_spec hp, bind_ite, Option.bind_some, dif1, dif2, dif3, dif4, dif5, dif6, dif7, dnot, ibeq, ibne, decide_eq_true_eq, if_not2, ge_iff_le, gt_iff_lt, fst_ret, Bool.false_eq_true, decide_false, decide_true, if_true]; split <;> rfl) (by simp [names_all_int_judge_peers_1_L1])]
  simp only [bind_ite, Option.bind_some, dif1, dif2, dif3, dif4, dif5, dif6, dif7, dnot, ibeq, ibne, decide_eq_true_eq, if_not2, ge_iff_le, gt_iff_lt, fst_ret, Bool.false_eq_true, decide_false]
  rfl

def RisingP (l : List Int) (a b : Int) : Prop := (EachP l fun i x => a ≤ x ∧ x ≤ b ∧ (0 < i → getI l (i - 1) < x)) ∧ 0 < l.length ∧ l.length ≤ 16

theorem num_Rising_spec {l : List Int} {a b : Int} (hl : Few l) : num_Rising l a b = some (decide (RisingP l a b)) := by
  unfold num_Rising
  rw [loop_each l (fun i x => a ≤ x ∧ x ≤ b ∧ (0 < i → getI l (i - 1) < x)) (.inl ()) (.inr ()) hl (fun i h0 h1 h2 => by
    by_cases hi : 0 < i
    · have h3 : inL l (i - 1) := ⟨by omega, by omega⟩
      simp (disch := omega) only [num_Rising_L1, h1, hi, nth_getI h2, wr64, nth_getI h3, bind_ite, Option.bind_some, dif1, dif2, dif3, dif4, dif5, dif6, dif7, dnot, ibeq, ibne, decide_eq_true_eq, if_not2, ge_iff_le, gt_iff_lt, fst_ret, Bool.false_eq_true, decide_false, decide_true, if_true]
      grind
    · simp (disch := omega) only [num_Rising_L1, h1, hi, nth_getI h2, wr64, bind_ite, Option.bind_some, dif1, dif2, dif3, dif4, dif5, dif6, dif7, dnot, ibeq, ibne, decide_eq_true_eq, if_not2, ge_iff_le, gt_iff_lt, fst_ret, Bool.false_eq_true, decide_false, decide_true, if_true]
      grind) (by simp [num_Rising_L1])]
  simp only [bind_ite, Option.bind_some, dif1, dif2, dif3, dif4, dif5, dif6, dif7, dnot, ibeq, ibne, decide_eq_true_eq, if_not2, ge_iff_le, gt_iff_lt, fst_ret, Bool.false_eq_true, decide_false]
  refine sdec (and_congr Iff.rfl ?_)
  omega

def RiseP (l : List Int) (b : Int) : Prop := l = [] ∨ RisingP l 1 b
theorem rising_spec {l : List Int} {b : Int} (hl : Few l) : names_rising l b = some (decide (RiseP l b)) := by
  simp only [names_rising, num_Rising_spec hl, bind_ite, Option.bind_some, dif1, dif2, dif3, dif4, dif5, dif6, dif7, dnot, ibeq, ibne, decide_eq_true_eq, if_not2, ge_iff_le, gt_iff_lt, fst_ret, Bool.false_eq_true, decide_false]
  refine sdec ?_
  unfold RiseP
  cases l <;> simp; omega

def PortP (n : Api_Net) (i : Int) (p : Api_Port) : Prop :=
  inL n.devices p.dev ∧ 0 ≤ p.native ∧ p.native ≤ 4094 ∧ RiseP p.tagged 4094 ∧ p.native ∉ p.tagged ∧ ¬ (p.native = 0 ∧ p.tagged = []) ∧ (∀ v ∈ p.tagged, 0 ≤ domIx n.domains p.dev v) ∧
  (0 < p.native → 0 ≤ domIx n.domains p.dev p.native) ∧ (p.link = -1 ∨ inL n.links p.link ∧ ((getI n.links p.link).a = i ∨ (getI n.links p.link).b = i))

theorem judge_port_spec {n : Api_Net} (hs : SmN n) {i : Int} {p : Api_Port} (hp : Few p.tagged) : names_judge_port ⟨n⟩ i p = some (decide (PortP n i p)) := by
  have hl : loopM (names_judge_port_L2 ⟨n⟩ i p) 0 = if ∀ v ∈ p.tagged, 0 ≤ domIx n.domains p.dev v then some (.inr ()) else some (.inl ()) := by
    rw [loop_each p.tagged (fun _ v => 0 ≤ domIx n.domains p.dev v) (.inl ()) (.inr ()) hp (fun j h0 h1 h2 => by
      simp (disch := omega) only [names_judge_port_L2, judge_domain_spec (j := ⟨n⟩) hs.domains, nth_getI h2, wr64, h1, bind_ite, Option.bind_some, dif1, dif2, dif3, dif4, dif5, dif6, dif7, dnot, ibeq, ibne, decide_eq_true_eq, if_not2, ge_iff_le, gt_iff_lt, fst_ret, Bool.false_eq_true, decide_false, mrg1, mrg2, mrg3, mrg4, mrg5, mrg6, mrg7, decide_true, if_true]
      exact fneg (by omega)) (by simp [names_judge_port_L2])]
    simp only [eachP_mem]
  have h3 : ((p.tagged.length : Int) = 0) ↔ p.tagged = [] := by simp
  by_cases c : inL n.links p.link <;>
    simp only [names_judge_port, names_judge_port_J1, names_judge_port_J3, place_Device_spec, place_Link_spec, rising_spec hp, Contains_int_spec hp, hl, judge_domain_spec (j := ⟨n⟩) hs.domains, nth_getI, c, h3, bind_ite, Option.bind_some, dif1, dif2, dif3, dif4, dif5, dif6, dif7, dnot, ibeq, ibne, decide_eq_true_eq, if_not2, ge_iff_le, gt_iff_lt, fst_ret, Bool.false_eq_true, decide_false, mrg1, mrg2, mrg3, mrg4, mrg5, mrg6, mrg7, decide_true, if_true, if_false, decide_false] <;>
    refine sdec ?_ <;> unfold PortP <;> simp only [c] <;> clear hl <;>
    generalize (∀ v ∈ p.tagged, 0 ≤ domIx n.domains p.dev v) = A <;>
    generalize domIx n.domains p.dev p.native = B <;>
    generalize RiseP p.tagged 4094 = C <;>
    generalize inL n.devices p.dev = E <;>
    generalize (p.native ∈ p.tagged) = G <;>
    generalize (p.tagged = []) = F <;> grind

def LinkP (n : Api_Net) (i : Int) (l : Api_Link) : Prop :=
  inL n.ports l.a ∧ inL n.ports l.b ∧ (getI n.ports l.a).dev ≠ (getI n.ports l.b).dev ∧ (getI n.ports l.a).link = i ∧ (getI n.ports l.b).link = i
theorem judge_link_spec {n : Api_Net} {i : Int} {l : Api_Link} : names_judge_link ⟨n⟩ i l = some (decide (LinkP n i l)) := by
  simp +contextual only [names_judge_link, place_Port_spec, nth_getI, bind_ite, Option.bind_some, dif1, dif2, dif3, dif4, dif5, dif6, dif7, dnot, ibeq, ibne, decide_eq_true_eq, if_not2, ge_iff_le, gt_iff_lt, fst_ret, Bool.false_eq_true, decide_false]
  exact sdec (by unfold LinkP; grind)

def MemP (p : Api_Port) (v : Int) : Prop := v ≠ 0 ∧ (v = p.native ∨ v ∈ p.tagged)
theorem Member_spec {p : Api_Port} {v : Int} (hp : Few p.tagged) : names_Member p v = some (decide (MemP p v)) := by
  simp +contextual only [names_Member, Contains_int_spec hp, bind_ite, Option.bind_some, dif1, dif2, dif3, dif4, dif5, dif6, dif7, dnot, ibeq, ibne, decide_eq_true_eq, if_not2, ge_iff_le, gt_iff_lt, fst_ret, Bool.false_eq_true, decide_false]
  exact sdec Iff.rfl

def StaticP (n : Api_Net) (s : Api_Static) : Prop :=
  inL n.domains s.domain ∧ inL n.ports s.port ∧ (getI n.ports s.port).dev = (getI n.domains s.domain).dev ∧ MemP (getI n.ports s.port) (getI n.domains s.domain).vlan
theorem judge_static_spec {n : Api_Net} (hs : SmN n) {i : Int} {s : Api_Static} : names_judge_static ⟨n⟩ i s = some (decide (StaticP n s)) := by
  have hp : inL n.ports s.port → Few (getI n.ports s.port).tagged := fun h => hs.tagged _ (getI_mem h)
  simp +contextual only [names_judge_static, place_Port_spec, place_Domain_spec, Member_spec, hp, nth_getI, bind_ite, Option.bind_some, dif1, dif2, dif3, dif4, dif5, dif6, dif7, dnot, ibeq, ibne, decide_eq_true_eq, if_not2, ge_iff_le, gt_iff_lt, fst_ret, Bool.false_eq_true, decide_false]
  exact sdec Iff.rfl

def FloodP (n : Api_Net) (f : Api_Flood) : Prop := inL n.devices f.dev ∧ f.addrs.length ≤ 16
theorem Right_1_spec {n : Api_Net} {i : Int} {f : Api_Flood} : names_Right_1 i f n = some (decide (FloodP n f)) := by
  simp +contextual only [names_Right_1, place_Device_spec, bind_ite, Option.bind_some, dif1, dif2, dif3, dif4, dif5, dif6, dif7, dnot, ibeq, ibne, decide_eq_true_eq, if_not2, ge_iff_le, gt_iff_lt, fst_ret, Bool.false_eq_true, decide_false]
  exact sdec (and_congr Iff.rfl (by omega))

def VrfP (n : Api_Net) (f : Api_Vrf) : Prop := inL n.devices f.dev ∧ RiseP f.imports 65535 ∧ RiseP f.exports 65535
theorem Right_2_spec {n : Api_Net} {i : Int} {f : Api_Vrf} (h1 : Few f.imports) (h2 : Few f.exports) : names_Right_2 i f n = some (decide (VrfP n f)) := by
  simp +contextual only [names_Right_2, place_Device_spec, rising_spec h1, rising_spec h2, bind_ite, Option.bind_some, dif1, dif2, dif3, dif4, dif5, dif6, dif7, dnot, ibeq, ibne, decide_eq_true_eq, if_not2, ge_iff_le, gt_iff_lt, fst_ret, Bool.false_eq_true, decide_false]
  exact sdec Iff.rfl

def IrbP (n : Api_Net) (i : Int) (x : Api_Irb) : Prop :=
  inL n.domains x.domain ∧ inL n.vrfs x.vrf ∧ (getI n.domains x.domain).dev = (getI n.vrfs x.vrf).dev ∧ (getI n.domains x.domain).irb = i ∧ 1 ≤ x.net.bits ∧ x.net.bits ≤ 30
theorem judge_irb_spec {n : Api_Net} {i : Int} {x : Api_Irb} : names_judge_irb ⟨n⟩ i x = some (decide (IrbP n i x)) := by
  simp +contextual only [names_judge_irb, place_Vrf_spec, place_Domain_spec, nth_getI, bind_ite, Option.bind_some, dif1, dif2, dif3, dif4, dif5, dif6, dif7, dnot, ibeq, ibne, decide_eq_true_eq, if_not2, ge_iff_le, gt_iff_lt, fst_ret, Bool.false_eq_true, decide_false]
  exact sdec Iff.rfl

def FewP (n : Api_Net) : Prop := n.devices.length ≤ 8 ∧ n.ports.length ≤ 40 ∧ n.links.length ≤ 20 ∧ n.domains.length ≤ 48 ∧ n.statics.length ≤ 64 ∧ n.floods.length ≤ 48 ∧ n.vrfs.length ≤ 16 ∧ n.irbs.length ≤ 48
theorem judge_few_spec {n : Api_Net} : names_judge_few ⟨n⟩ = some (decide (FewP n)) := by
  simp +contextual only [names_judge_few, bind_ite, Option.bind_some, dif1, dif2, dif3, dif4, dif5, dif6, dif7, dnot, ibeq, ibne, decide_eq_true_eq, if_not2, ge_iff_le, gt_iff_lt, fst_ret, Bool.false_eq_true, decide_false]
  exact sdec (by unfold FewP; omega)

structure RightP (n : Api_Net) : Prop where
  few : FewP n
  bare : EachP n.domains (BareP n)
  peers : EachP n.domains (PeersP n)
  ports : EachP n.ports (PortP n)
  links : EachP n.links (LinkP n)
  statics : EachP n.statics fun _ x => StaticP n x
  floods : EachP n.floods fun _ x => FloodP n x
  vrfs : EachP n.vrfs fun _ x => VrfP n x
  irbs : EachP n.irbs (IrbP n)
theorem rightP_iff {n : Api_Net} : RightP n ↔ FewP n ∧ EachP n.domains (BareP n) ∧ EachP n.domains (PeersP n) ∧ EachP n.ports (PortP n) ∧ EachP n.links (LinkP n) ∧ EachP n.statics (fun _ x => StaticP n x) ∧
    EachP n.floods (fun _ x => FloodP n x) ∧ EachP n.vrfs (fun _ x => VrfP n x) ∧ EachP n.irbs (IrbP n) :=
  ⟨fun ⟨a, b, c, d, e, f, g, h, i⟩ => ⟨a, b, c, d, e, f, g, h, i⟩, fun ⟨a, b, c, d, e, f, g, h, i⟩ => ⟨a, b, c, d, e, f, g, h, i⟩⟩

section
variable {n : Api_Net}
theorem all_bare_spec (hs : SmN n) : names_all_Domain_judge_bare n.domains ⟨n⟩ = some (decide (EachP n.domains (BareP n))) := by
  unfold names_all_Domain_judge_bare
  rw [loop_each n.domains (BareP n) (.inl ()) (.inr ()) hs.domains (fun i h0 h1 h2 => by
    have := hs.domains
    simp (disch := omega) only [names_all_Domain_judge_bare_L1, h1, nth_getI h2, wr64, judge_bare_spec (n := n) hs.domains, bind_ite, Option.bind_some, dif1, dif2, dif3, dif4, dif5, dif6, dif7, dnot, ibeq, ibne, decide_eq_true_eq, if_not2, ge_iff_le, gt_iff_lt, fst_ret, Bool.false_eq_true, decide_false, decide_true, if_true]; split <;> rfl) (by simp [names_all_Domain_judge_bare_L1])]
  simp only [bind_ite, Option.bind_some, dif1, dif2, dif3, dif4, dif5, dif6, dif7, dnot, ibeq, ibne, decide_eq_true_eq, if_not2, ge_iff_le, gt_iff_lt, fst_ret, Bool.false_eq_true, decide_false]
theorem all_peers_spec (hs : SmN n) (hb : EachP n.domains (BareP n)) : names_all_Domain_judge_peers n.domains ⟨n⟩ = some (decide (EachP n.domains (PeersP n))) := by
  unfold names_all_Domain_judge_peers
  rw [loop_each n.domains (PeersP n) (.inl ()) (.inr ()) hs.domains (fun i h0 h1 h2 => by
    have := hs.domains
    simp (disch := omega) only [names_all_Domain_judge_peers_L1, h1, nth_getI h2, wr64, judge_peers_spec (n := n) hs (hb i h2).1 (hs.peers _ (getI_mem h2)), bind_ite, Option.bind_some, dif1, dif2, dif3, dif4, dif5, dif6, dif7, dnot, ibeq, ibne, decide_eq_true_eq, if_not2, ge_iff_le, gt_iff_lt, fst_ret, Bool.false_eq_true, decide_false, decide_true, if_true]; split <;> rfl) (by simp [names_all_Domain_judge_peers_L1])]
  simp only [bind_ite, Option.bind_some, dif1, dif2, dif3, dif4, dif5, dif6, dif7, dnot, ibeq, ibne, decide_eq_true_eq, if_not2, ge_iff_le, gt_iff_lt, fst_ret, Bool.false_eq_true, decide_false]
theorem all_port_spec (hs : SmN n) : names_all_Port_judge_port n.ports ⟨n⟩ = some (decide (EachP n.ports (PortP n))) := by
  unfold names_all_Port_judge_port
  rw [loop_each n.ports (PortP n) (.inl ()) (.inr ()) hs.ports (fun i h0 h1 h2 => by
    have := hs.ports
    simp (disch := omega) only [names_all_Port_judge_port_L1, h1, nth_getI h2, wr64, judge_port_spec (n := n) hs (hs.tagged _ (getI_mem h2)), bind_ite, Option.bind_some, dif1, dif2, dif3, dif4, dif5, dif6, dif7, dnot, ibeq, ibne, decide_eq_true_eq, if_not2, ge_iff_le, gt_iff_lt, fst_ret, Bool.false_eq_true, decide_false, decide_true, if_true]; split <;> rfl) (by simp [names_all_Port_judge_port_L1])]
  simp only [bind_ite, Option.bind_some, dif1, dif2, dif3, dif4, dif5, dif6, dif7, dnot, ibeq, ibne, decide_eq_true_eq, if_not2, ge_iff_le, gt_iff_lt, fst_ret, Bool.false_eq_true, decide_false]
theorem all_link_spec (hs : SmN n) : names_all_Link_judge_link n.links ⟨n⟩ = some (decide (EachP n.links (LinkP n))) := by
  unfold names_all_Link_judge_link
  rw [loop_each n.links (LinkP n) (.inl ()) (.inr ()) hs.links (fun i h0 h1 h2 => by
    have := hs.links
    simp (disch := omega) only [names_all_Link_judge_link_L1, h1, nth_getI h2, wr64, judge_link_spec (n := n), bind_ite, Option.bind_some, dif1, dif2, dif3, dif4, dif5, dif6, dif7, dnot, ibeq, ibne, decide_eq_true_eq, if_not2, ge_iff_le, gt_iff_lt, fst_ret, Bool.false_eq_true, decide_false, decide_true, if_true]; split <;> rfl) (by simp [names_all_Link_judge_link_L1])]
  simp only [bind_ite, Option.bind_some, dif1, dif2, dif3, dif4, dif5, dif6, dif7, dnot, ibeq, ibne, decide_eq_true_eq, if_not2, ge_iff_le, gt_iff_lt, fst_ret, Bool.false_eq_true, decide_false]
theorem all_static_spec (hs : SmN n) : names_all_Static_judge_static n.statics ⟨n⟩ = some (decide (EachP n.statics fun _ x => StaticP n x)) := by
  unfold names_all_Static_judge_static
  rw [loop_each n.statics (fun _ x => StaticP n x) (.inl ()) (.inr ()) hs.statics (fun i h0 h1 h2 => by
    have := hs.statics
    simp (disch := omega) only [names_all_Static_judge_static_L1, h1, nth_getI h2, wr64, judge_static_spec (n := n) hs, bind_ite, Option.bind_some, dif1, dif2, dif3, dif4, dif5, dif6, dif7, dnot, ibeq, ibne, decide_eq_true_eq, if_not2, ge_iff_le, gt_iff_lt, fst_ret, Bool.false_eq_true, decide_false, decide_true, if_true]; split <;> rfl) (by simp [names_all_Static_judge_static_L1])]
  simp only [bind_ite, Option.bind_some, dif1, dif2, dif3, dif4, dif5, dif6, dif7, dnot, ibeq, ibne, decide_eq_true_eq, if_not2, ge_iff_le, gt_iff_lt, fst_ret, Bool.false_eq_true, decide_false]
theorem all_flood_spec (hs : SmN n) : names_all_Flood_Right_1 n.floods n = some (decide (EachP n.floods fun _ x => FloodP n x)) := by
  unfold names_all_Flood_Right_1
  rw [loop_each n.floods (fun _ x => FloodP n x) (.inl ()) (.inr ()) hs.floods (fun i h0 h1 h2 => by
    have := hs.floods
    simp (disch := omega) only [names_all_Flood_Right_1_L1, h1, nth_getI h2, wr64, Right_1_spec, bind_ite, Option.bind_some, dif1, dif2, dif3, dif4, dif5, dif6, dif7, dnot, ibeq, ibne, decide_eq_true_eq, if_not2, ge_iff_le, gt_iff_lt, fst_ret, Bool.false_eq_true, decide_false, decide_true, if_true]; split <;> rfl) (by simp [names_all_Flood_Right_1_L1])]
  simp only [bind_ite, Option.bind_some, dif1, dif2, dif3, dif4, dif5, dif6, dif7, dnot, ibeq, ibne, decide_eq_true_eq, if_not2, ge_iff_le, gt_iff_lt, fst_ret, Bool.false_eq_true, decide_false]
theorem all_vrf_spec (hs : SmN n) : names_all_Vrf_Right_2 n.vrfs n = some (decide (EachP n.vrfs fun _ x => VrfP n x)) := by
  unfold names_all_Vrf_Right_2
  rw [loop_each n.vrfs (fun _ x => VrfP n x) (.inl ()) (.inr ()) hs.vrfs (fun i h0 h1 h2 => by
    have := hs.vrfs
    simp (disch := omega) only [names_all_Vrf_Right_2_L1, h1, nth_getI h2, wr64, Right_2_spec (hs.imports _ (getI_mem h2)) (hs.exports _ (getI_mem h2)), bind_ite, Option.bind_some, dif1, dif2, dif3, dif4, dif5, dif6, dif7, dnot, ibeq, ibne, decide_eq_true_eq, if_not2, ge_iff_le, gt_iff_lt, fst_ret, Bool.false_eq_true, decide_false, decide_true, if_true]; split <;> rfl) (by simp [names_all_Vrf_Right_2_L1])]
  simp only [bind_ite, Option.bind_some, dif1, dif2, dif3, dif4, dif5, dif6, dif7, dnot, ibeq, ibne, decide_eq_true_eq, if_not2, ge_iff_le, gt_iff_lt, fst_ret, Bool.false_eq_true, decide_false]
theorem all_irb_spec (hs : SmN n) : names_all_Irb_judge_irb n.irbs ⟨n⟩ = some (decide (EachP n.irbs (IrbP n))) := by
  unfold names_all_Irb_judge_irb
  rw [loop_each n.irbs (IrbP n) (.inl ()) (.inr ()) hs.irbs (fun i h0 h1 h2 => by
    have := hs.irbs
    simp (disch := omega) only [names_all_Irb_judge_irb_L1, h1, nth_getI h2, wr64, judge_irb_spec (n := n), bind_ite, Option.bind_some, dif1, dif2, dif3, dif4, dif5, dif6, dif7, dnot, ibeq, ibne, decide_eq_true_eq, if_not2, ge_iff_le, gt_iff_lt, fst_ret, Bool.false_eq_true, decide_false, decide_true, if_true]; split <;> rfl) (by simp [names_all_Irb_judge_irb_L1])]
  simp only [bind_ite, Option.bind_some, dif1, dif2, dif3, dif4, dif5, dif6, dif7, dnot, ibeq, ibne, decide_eq_true_eq, if_not2, ge_iff_le, gt_iff_lt, fst_ret, Bool.false_eq_true, decide_false]

theorem names_Right_spec (hs : SmN n) : names_Right n = some (decide (RightP n)) := by
  by_cases hb : EachP n.domains (BareP n)
  · simp only [names_Right, judge_few_spec, all_bare_spec hs, all_peers_spec hs hb, all_port_spec hs, all_link_spec hs, all_static_spec hs, all_flood_spec hs, all_vrf_spec hs, all_irb_spec hs, bind_ite, Option.bind_some, dif1, dif2, dif3, dif4, dif5, dif6, dif7, dnot, ibeq, ibne, decide_eq_true_eq, if_not2, ge_iff_le, gt_iff_lt, fst_ret, Bool.false_eq_true, decide_false]
    exact sdec rightP_iff.symm
  · have : ¬ RightP n := fun h => hb h.bare
    simp only [names_Right, judge_few_spec, all_bare_spec hs, hb, this, bind_ite, Option.bind_some, dif1, dif2, dif3, dif4, dif5, dif6, dif7, dnot, ibeq, ibne, decide_eq_true_eq, if_not2, ge_iff_le, gt_iff_lt, fst_ret, Bool.false_eq_true, decide_false, decide_false, if_false, Bool.false_eq_true]
    simp

structure BndN (n : Api_Net) (a b : Nat) : Prop where
  devices : n.devices.length ≤ a
  ports : n.ports.length ≤ a
  links : n.links.length ≤ a
  domains : n.domains.length ≤ a
  statics : n.statics.length ≤ a
  floods : n.floods.length ≤ a
  vrfs : n.vrfs.length ≤ a
  irbs : n.irbs.length ≤ a
  tagged : ∀ p ∈ n.ports, p.tagged.length ≤ b
  peers : ∀ d ∈ n.domains, d.peers.length ≤ b
  addrs : ∀ f ∈ n.floods, f.addrs.length ≤ b
  imports : ∀ v ∈ n.vrfs, v.imports.length ≤ b
  exports : ∀ v ∈ n.vrfs, v.exports.length ≤ b
theorem BndN.sm {a b : Nat} (h : BndN n a b) (ha : a ≤ 1000000 := by decide) (hb : b ≤ 1000000 := by decide) : SmN n :=
  ⟨few_of h.devices ha, few_of h.ports ha, few_of h.links ha, few_of h.domains ha, few_of h.statics ha, few_of h.floods ha, few_of h.vrfs ha, few_of h.irbs ha,
    fun p q => few_of (h.tagged p q) hb, fun p q => few_of (h.peers p q) hb, fun p q => few_of (h.addrs p q) hb, fun p q => few_of (h.imports p q) hb, fun p q => few_of (h.exports p q) hb⟩
theorem Great_spec : palinglaw15_Great n = some (decide (¬ BndN n 200 100)) := by
  unfold palinglaw15_Great
  simp only [bind_ite, Option.bind_some, dif1, dif2, dif3, dif4, dif5, dif6, dif7, dnot, ibeq, ibne, decide_eq_true_eq, if_not2, ge_iff_le, gt_iff_lt, fst_ret, Bool.false_eq_true, decide_false]
  by_cases h1 : (200 : Int) < n.devices.length
  · have : ¬ BndN n 200 100 := fun h => by have := h.devices; omega
    simp [h1, this]
  by_cases h2 : (200 : Int) < n.ports.length
  · have : ¬ BndN n 200 100 := fun h => by have := h.ports; omega
    simp [h1, h2, this]
  by_cases h3 : (200 : Int) < n.links.length
  · have : ¬ BndN n 200 100 := fun h => by have := h.links; omega
    simp [h1, h2, h3, this]
  by_cases h4 : (200 : Int) < n.domains.length
  · have : ¬ BndN n 200 100 := fun h => by have := h.domains; omega
    simp [h1, h2, h3, h4, this]
  by_cases h5 : (200 : Int) < n.statics.length
  · have : ¬ BndN n 200 100 := fun h => by have := h.statics; omega
    simp [h1, h2, h3, h4, h5, this]
  by_cases h6 : (200 : Int) < n.floods.length
  · have : ¬ BndN n 200 100 := fun h => by have := h.floods; omega
    simp [h1, h2, h3, h4, h5, h6, this]
  by_cases h7 : (200 : Int) < n.vrfs.length
  · have : ¬ BndN n 200 100 := fun h => by have := h.vrfs; omega
    simp [h1, h2, h3, h4, h5, h6, h7, this]
  by_cases h8 : (200 : Int) < n.irbs.length
  · have : ¬ BndN n 200 100 := fun h => by have := h.irbs; omega
    simp [h1, h2, h3, h4, h5, h6, h7, h8, this]
  simp only [h1, h2, h3, h4, h5, h6, h7, h8, if_false]
  rw [loop_each n.ports (fun _ p => ¬ 100 < (p.tagged.length : Int)) (.inl ()) (.inr ()) (by omega) (fun i g0 g1 g2 => by
    simp (disch := omega) only [palinglaw15_Great_L1, g1, nth_getI g2, wr64, bind_ite, Option.bind_some, dif1, dif2, dif3, dif4, dif5, dif6, dif7, dnot, ibeq, ibne, decide_eq_true_eq, if_not2, ge_iff_le, gt_iff_lt, fst_ret, Bool.false_eq_true, decide_false, decide_true, if_true]; split <;> rfl) (by simp [palinglaw15_Great_L1]),
   loop_each n.domains (fun _ p => ¬ 100 < (p.peers.length : Int)) (.inl ()) (.inr ()) (by omega) (fun i g0 g1 g2 => by
    simp (disch := omega) only [palinglaw15_Great_L2, g1, nth_getI g2, wr64, bind_ite, Option.bind_some, dif1, dif2, dif3, dif4, dif5, dif6, dif7, dnot, ibeq, ibne, decide_eq_true_eq, if_not2, ge_iff_le, gt_iff_lt, fst_ret, Bool.false_eq_true, decide_false, decide_true, if_true]; split <;> rfl) (by simp [palinglaw15_Great_L2]),
   loop_each n.floods (fun _ p => ¬ 100 < (p.addrs.length : Int)) (.inl ()) (.inr ()) (by omega) (fun i g0 g1 g2 => by
    simp (disch := omega) only [palinglaw15_Great_L3, g1, nth_getI g2, wr64, bind_ite, Option.bind_some, dif1, dif2, dif3, dif4, dif5, dif6, dif7, dnot, ibeq, ibne, decide_eq_true_eq, if_not2, ge_iff_le, gt_iff_lt, fst_ret, Bool.false_eq_true, decide_false, decide_true, if_true]; split <;> rfl) (by simp [palinglaw15_Great_L3]),
   loop_each n.vrfs (fun _ p => ¬ 100 < (p.imports.length : Int) ∧ ¬ 100 < (p.exports.length : Int)) (.inl ()) (.inr ()) (by omega) (fun i g0 g1 g2 => by
    simp (disch := omega) only [palinglaw15_Great_L4, g1, nth_getI g2, wr64, bind_ite, Option.bind_some, dif1, dif2, dif3, dif4, dif5, dif6, dif7, dnot, ibeq, ibne, decide_eq_true_eq, if_not2, ge_iff_le, gt_iff_lt, fst_ret, Bool.false_eq_true, decide_false, decide_true, if_true]; grind) (by simp [palinglaw15_Great_L4])]
  simp only [bind_ite, Option.bind_some, dif1, dif2, dif3, dif4, dif5, dif6, dif7, dnot, ibeq, ibne, decide_eq_true_eq, if_not2, ge_iff_le, gt_iff_lt, fst_ret, Bool.false_eq_true, decide_false, eachP_mem]
  refine sdec ?_
  constructor
  · intro h hb
    have := hb.tagged; have := hb.peers; have := hb.addrs; have := hb.imports; have := hb.exports
    grind
  · intro h
    apply Classical.byContradiction
    intro hn
    refine h ⟨by omega, by omega, by omega, by omega, by omega, by omega, by omega, by omega, ?_, ?_, ?_, ?_, ?_⟩ <;> grind
end

end Go.Eng

set_option linter.unusedVariables false
set_option linter.unusedSectionVars false
set_option linter.unusedSimpArgs false
namespace Go.Eng
open Go Classical
attribute [local congr] ite_cg
theorem list_eqI {α : Type} [Inhabited α] {l r : List α} : l = r ↔ l.length = r.length ∧ EachP l (fun i x => x = getI r i) := by
  constructor
  · intro h; subst h; exact ⟨rfl, fun i hi => rfl⟩
  · rintro ⟨h, he⟩
    apply List.ext_getElem h
    intro i h1 h2
    have := he i ⟨by omega, by omega⟩
    rwa [getI_nat (List.getElem?_eq_getElem h1), getI_nat (List.getElem?_eq_getElem h2)] at this
end Go.Eng

set_option linter.unusedVariables false
set_option linter.unusedSectionVars false
set_option linter.unusedSimpArgs false
namespace Go.Eng
open Go Classical
attribute [local congr] ite_cg
section
/-! ### A copy -/
end
end Go.Eng

set_option linter.unusedVariables false
set_option linter.unusedSectionVars false
set_option linter.unusedSimpArgs false
namespace Go.Eng
open Go Classical
attribute [local congr] ite_cg
section

end
end Go.Eng

set_option linter.unusedVariables false
set_option linter.unusedSectionVars false
set_option linter.unusedSimpArgs false
namespace Go.Eng
open Go Classical
attribute [local congr] ite_cg
section

end
end Go.Eng

set_option linter.unusedVariables false
set_option linter.unusedSectionVars false
set_option linter.unusedSimpArgs false
namespace Go.Eng
open Go Classical

inductive Conn (E : Int → Int → Prop) : Int → Int → Prop
  | refl (x : Int) : Conn E x x
  | edge {x y : Int} (h : E x y) : Conn E x y
  | symm {x y : Int} (h : Conn E x y) : Conn E y x
  | trans {x y z : Int} (h : Conn E x y) (g : Conn E y z) : Conn E x z

section
variable {E F : Int → Int → Prop}
theorem Conn.mono (h : ∀ x y, E x y → F x y) {x y : Int} (c : Conn E x y) : Conn F x y := by
  induction c with
  | refl x => exact .refl x
  | edge e => exact .edge (h _ _ e)
  | symm _ ih => exact ih.symm
  | trans _ _ i1 i2 => exact i1.trans i2
theorem Conn.congr (h : ∀ x y, E x y ↔ F x y) {x y : Int} : Conn E x y ↔ Conn F x y := ⟨Conn.mono fun x y => (h x y).1, Conn.mono fun x y => (h x y).2⟩
theorem Conn.sub (h : ∀ x y, E x y → Conn F x y) {x y : Int} (c : Conn E x y) : Conn F x y := by
  induction c with
  | refl x => exact .refl x
  | edge e => exact h _ _ e
  | symm _ ih => exact ih.symm
  | trans _ _ i1 i2 => exact i1.trans i2
theorem Conn.inv {β : Type} {T : Int → β} (h : ∀ x y, E x y → T x = T y) {x y : Int} (c : Conn E x y) : T x = T y := by
  induction c with
  | refl x => rfl
  | edge e => exact h _ _ e
  | symm _ ih => exact ih.symm
  | trans _ _ i1 i2 => exact i1.trans i2
theorem Conn.set {P : Int → Prop} (h : ∀ x y, E x y → (P x ↔ P y)) {x y : Int} (c : Conn E x y) : P x ↔ P y := by
  induction c with
  | refl x => exact Iff.rfl
  | edge e => exact h _ _ e
  | symm _ ih => exact ih.symm
  | trans _ _ i1 i2 => exact i1.trans i2
end

structure LeastT (E : Int → Int → Prop) (T : Int → Int) (N : Int) : Prop where
  lo : ∀ x, 0 ≤ x → x < N → 0 ≤ T x
  le : ∀ x, 0 ≤ x → x < N → T x ≤ x
  conn : ∀ x, 0 ≤ x → x < N → Conn E x (T x)
  same : ∀ x y, 0 ≤ x → x < N → 0 ≤ y → y < N → Conn E x y → T x = T y
theorem LeastT.uniq {E F : Int → Int → Prop} {T U : Int → Int} {N : Int} (h : LeastT E T N) (g : LeastT F U N) (e : ∀ x y, Conn E x y ↔ Conn F x y) {x : Int} (h0 : 0 ≤ x) (h1 : x < N) : T x = U x := by
  have a1 := h.lo x h0 h1
  have a2 := h.le x h0 h1
  have b1 := g.lo x h0 h1
  have b2 := g.le x h0 h1
  have c1 := g.same x (T x) h0 h1 a1 (by omega) ((e _ _).1 (h.conn x h0 h1))
  have c2 := h.same x (U x) h0 h1 b1 (by omega) ((e _ _).2 (g.conn x h0 h1))
  have d1 := g.le (T x) a1 (by omega)
  have d2 := h.le (U x) b1 (by omega)
  omega
theorem LeastT.top {E : Int → Int → Prop} {T : Int → Int} {N : Int} (h : LeastT E T N) {x : Int} (h0 : 0 ≤ x) (h1 : x < N) : T (T x) = T x :=
  (h.same x (T x) h0 h1 (h.lo x h0 h1) (by have := h.le x h0 h1; omega) (h.conn x h0 h1)).symm

structure Lab (f : List Int) (T : Int → Int) : Prop where
  lo : ∀ i, inL f i → 0 ≤ getI f i
  le : ∀ i, inL f i → getI f i ≤ i
  tlo : ∀ i, inL f i → 0 ≤ T i
  tle : ∀ i, inL f i → T i ≤ i
  root : ∀ i, inL f i → getI f (T i) = T i
  step : ∀ i, inL f i → T (getI f i) = T i
  self : ∀ i, inL f i → getI f i = i → T i = i

section
variable {f : List Int} {T : Int → Int}
theorem Lab.tin (h : Lab f T) {i : Int} (hi : inL f i) : inL f (T i) := ⟨h.tlo i hi, by have := h.tle i hi; have := hi.2; omega⟩
theorem Lab.fin (h : Lab f T) {i : Int} (hi : inL f i) : inL f (getI f i) := ⟨h.lo i hi, by have := h.le i hi; have := hi.2; omega⟩
theorem Lab.top (h : Lab f T) {i : Int} (hi : inL f i) : T (T i) = T i := h.self _ (h.tin hi) (h.root i hi)
end
/-! ### Chains of sets -/
end Go.Eng

set_option linter.unusedVariables false
set_option linter.unusedSectionVars false
set_option linter.unusedSimpArgs false
namespace Go.Eng
open Go Classical

theorem LeastT.congr {E F : Int → Int → Prop} {T : Int → Int} {N : Int} (h : LeastT E T N) (e : ∀ x y, Conn E x y ↔ Conn F x y) : LeastT F T N :=
  ⟨h.lo, h.le, fun x a b => (e _ _).1 (h.conn x a b), fun x y a b c d g => h.same x y a b c d ((e _ _).2 g)⟩
theorem LeastT.congrE {E F : Int → Int → Prop} {T : Int → Int} {N : Int} (h : LeastT E T N) (e : ∀ x y, E x y ↔ F x y) : LeastT F T N := h.congr fun _ _ => Conn.congr e
structure FOK (E : Int → Int → Prop) (N : Nat) (f : List Int) : Prop where
  len : f.length = N
  lab : ∃ T, Lab f T ∧ LeastT E T N
  rng : ∀ x y, E x y → (0 ≤ x ∧ x < (N : Int)) ∧ 0 ≤ y ∧ y < (N : Int)
theorem FOK.congr {E F : Int → Int → Prop} {N : Nat} {f : List Int} (h : FOK E N f) (e : ∀ x y, E x y ↔ F x y) : FOK F N f := by
  obtain ⟨T, a, b⟩ := h.lab
  exact ⟨h.len, ⟨T, a, b.congrE e⟩, fun x y g => h.rng x y ((e x y).2 g)⟩
end Go.Eng

set_option linter.unusedVariables false
set_option linter.unusedSectionVars false
set_option linter.unusedSimpArgs false
namespace Go.Eng
open Go Classical
attribute [local congr] ite_cg
section
variable {n : Api_Net}
theorem Domain_1_spec {d : Api_Domain} {a b : Int} : names_Domain_1 d a b = some (decide (d.dev = a ∧ d.vlan = b)) := by
  simp only [names_Domain_1, bind_ite, Option.bind_some, dif1, dif2, dif3, dif4, dif5, dif6, dif7, dnot, ibeq, ibne, decide_eq_true_eq, if_not2, ge_iff_le, gt_iff_lt, fst_ret, Bool.false_eq_true, decide_false]
theorem names_Domain_spec (hs : SmN n) {a b : Int} : names_Domain n a b = some (if RightP n then domIx n.domains a b else -1) := by
  simp only [names_Domain, names_find_Domain_Domain_1, names_Right_spec hs, slices_IndexFunc_Domain_Domain_1]
  rw [loop_first n.domains (fun d => d.dev = a ∧ d.vlan = b) hs.domains (fun i h0 h1 h2 => by
    have := hs.domains
    simp (disch := omega) only [slices_IndexFunc_Domain_Domain_1_L1, Domain_1_spec, h1, nth_getI h2, wr64, bind_ite, Option.bind_some, dif1, dif2, dif3, dif4, dif5, dif6, dif7, dnot, ibeq, ibne, decide_eq_true_eq, if_not2, ge_iff_le, gt_iff_lt, fst_ret, Bool.false_eq_true, decide_false, decide_true, if_true]; split <;> rfl) (by simp [slices_IndexFunc_Domain_Domain_1_L1])]
  simp only [bind_ite, Option.bind_some, dif1, dif2, dif3, dif4, dif5, dif6, dif7, dnot, ibeq, ibne, decide_eq_true_eq, if_not2, ge_iff_le, gt_iff_lt, fst_ret, Bool.false_eq_true, decide_false]
  split <;> rfl

end
end Go.Eng

set_option linter.unusedVariables false
set_option linter.unusedSectionVars false
set_option linter.unusedSimpArgs false
namespace Go.Eng
open Go Classical
attribute [local congr] ite_cg

section

end
end Go.Eng

set_option linter.unusedVariables false
set_option linter.unusedSectionVars false
set_option linter.unusedSimpArgs false
namespace Go.Eng
open Go Classical
end Go.Eng

set_option linter.unusedVariables false
set_option linter.unusedSectionVars false
set_option linter.unusedSimpArgs false
namespace Go.Eng
open Go Classical

section
variable {α : Type} [Inhabited α] {l r : List α} {x : α} {i k : Int}
theorem inL_app (h : inL l i) : inL (l ++ r) i := ⟨h.1, by have := h.2; simp; omega⟩
theorem getI_app (h : inL l i) : getI (l ++ r) i = getI l i := by
  have h0 := h.1; have h1 := h.2
  unfold getI
  rw [List.getElem?_append_left (by omega)]
theorem inL_app1 : inL (l ++ [x]) i ↔ inL l i ∨ i = l.length := by
  unfold inL
  simp
  omega
theorem getI_last : getI (l ++ [x]) (l.length : Int) = x := by
  unfold getI
  simp
theorem inL_setI : inL (l.set k.toNat x) i ↔ inL l i := by simp [inL]
theorem getI_setI (hk : inL l k) (hi : inL l i) : getI (l.set k.toNat x) i = if i = k then x else getI l i := by
  have h1 := hk.1; have h2 := hi.1; have h3 := hk.2; have h4 := hi.2
  unfold getI
  by_cases h : i = k
  · subst h
    rw [List.getElem?_set_self (by omega)]; simp
  · rw [List.getElem?_set_ne (by omega)]; simp [h]
end
section
variable {n : Api_Net}
end
end Go.Eng

set_option linter.unusedVariables false
set_option linter.unusedSectionVars false
set_option linter.unusedSimpArgs false
namespace Go.Eng
open Go

theorem wr32 {n : Int} (h1 : 0 ≤ n) (h2 : n < 4294967296) : wr_u32 n = n := by
  unfold wr_u32 IntKind.wrap
  simp [IntKind.signed, IntKind.bits]
  omega
theorem low_or (X k : Nat) : X ||| (2 ^ k - 1) = X - X % 2 ^ k + (2 ^ k - 1) := by
  have h : X - X % 2 ^ k = (X / 2 ^ k) * 2 ^ k := by have := Nat.div_add_mod X (2 ^ k); rw [Nat.mul_comm] at this; omega
  rw [h, Nat.mul_comm, Nat.two_pow_add_eq_or_of_lt (by have := Nat.two_pow_pos k; omega)]
  apply Nat.eq_of_testBit_eq
  intro i
  simp only [Nat.testBit_or, Nat.testBit_two_pow_sub_one, Nat.testBit_two_pow_mul, Nat.testBit_div_two_pow]
  by_cases hi : i < k
  · simp [hi]
  · have : k ≤ i := by omega
    simp [hi, this]
theorem low_and (X k n : Nat) (hX : X < 2 ^ n) (hk : k ≤ n) : X &&& (2 ^ n - 1 - (2 ^ k - 1)) = X - X % 2 ^ k := by
  have h : X - X % 2 ^ k = 2 ^ k * (X / 2 ^ k) := by have := Nat.div_add_mod X (2 ^ k); omega
  rw [h]
  apply Nat.eq_of_testBit_eq
  intro i
  have hlt : 2 ^ k - 1 < 2 ^ n := by have := Nat.pow_le_pow_right (by decide : 0 < 2) hk; have := Nat.two_pow_pos k; omega
  rw [Nat.testBit_and, show 2 ^ n - 1 - (2 ^ k - 1) = 2 ^ n - (2 ^ k - 1 + 1) from by omega, Nat.testBit_two_pow_sub_succ hlt, Nat.testBit_two_pow_mul, Nat.testBit_div_two_pow, Nat.testBit_two_pow_sub_one]
  by_cases hi : i < k
  · have : ¬ k ≤ i := by omega
    simp [hi, this]
  · have h2 : k ≤ i := by omega
    by_cases hn : i < n
    · simp [hi, h2, hn]
    · have : X.testBit i = false := Nat.testBit_lt_two_pow (Nat.lt_of_lt_of_le hX (Nat.pow_le_pow_right (by decide) (by omega)))
      simp [hi, h2, hn, this]

theorem ofInt_nat (n : Nat) (x : Int) (h1 : 0 ≤ x) : BitVec.ofInt n x = BitVec.ofNat n x.toNat := by
  have h : BitVec.ofInt n ((x.toNat : Nat) : Int) = BitVec.ofNat n x.toNat := BitVec.ofInt_natCast ..
  rwa [show ((x.toNat : Nat) : Int) = x from by omega] at h

theorem or_u32 {x : Int} {k : Nat} (h1 : 0 ≤ x) (h2 : x < 4294967296) (hk : k ≤ 32) : bits_or .u32 x (2 ^ k - 1 : Nat) = x - x % (2 ^ k : Nat) + ((2 ^ k : Nat) - 1) := by
  have hp := Nat.two_pow_pos k
  have hle : 2 ^ k ≤ 4294967296 := Nat.pow_le_pow_right (n := 2) (by decide) hk
  unfold bits_or
  rw [ofInt_nat _ _ h1, ofInt_nat _ _ (by omega), BitVec.toNat_or, BitVec.toNat_ofNat, BitVec.toNat_ofNat]
  simp only [IntKind.bits, Int.toNat_natCast]
  rw [Nat.mod_eq_of_lt (by omega), Nat.mod_eq_of_lt (by omega), low_or]
  have hm : x.toNat % 2 ^ k < 2 ^ k := Nat.mod_lt _ hp
  have hdm := Nat.div_add_mod x.toNat (2 ^ k)
  have hub : x.toNat - x.toNat % 2 ^ k + (2 ^ k - 1) < 4294967296 := by
    have : x.toNat ||| (2 ^ k - 1) < 2 ^ 32 := Nat.or_lt_two_pow (by omega) (by omega)
    rw [low_or] at this; omega
  have hmod : ((x.toNat % 2 ^ k : Nat) : Int) = x % (2 ^ k : Nat) := by rw [Int.natCast_emod]; congr 1; omega
  have hle2 : x.toNat % 2 ^ k ≤ x.toNat := Nat.mod_le _ _
  have := wr32 (n := ((x.toNat - x.toNat % 2 ^ k + (2 ^ k - 1) : Nat) : Int)) (by omega) (by omega)
  unfold wr_u32 at this
  rw [this, ← hmod]
  omega

theorem andNot_u32 {x : Int} {k : Nat} (h1 : 0 ≤ x) (h2 : x < 4294967296) (hk : k ≤ 32) : bits_andNot .u32 x (2 ^ k - 1 : Nat) = x - x % (2 ^ k : Nat) := by
  have hp := Nat.two_pow_pos k
  have hle : 2 ^ k ≤ 4294967296 := Nat.pow_le_pow_right (n := 2) (by decide) hk
  unfold bits_andNot
  rw [ofInt_nat _ _ h1, ofInt_nat _ _ (by omega), BitVec.toNat_and, BitVec.toNat_not, BitVec.toNat_ofNat, BitVec.toNat_ofNat]
  simp only [IntKind.bits, Int.toNat_natCast]
  rw [Nat.mod_eq_of_lt (by omega), Nat.mod_eq_of_lt (by omega), low_and _ k 32 (by omega) hk]
  have hm : x.toNat % 2 ^ k < 2 ^ k := Nat.mod_lt _ hp
  have hmod : ((x.toNat % 2 ^ k : Nat) : Int) = x % (2 ^ k : Nat) := by rw [Int.natCast_emod]; congr 1; omega
  have hle2 : x.toNat % 2 ^ k ≤ x.toNat := Nat.mod_le _ _
  have := wr32 (n := ((x.toNat - x.toNat % 2 ^ k : Nat) : Int)) (by omega) (by omega)
  unfold wr_u32 at this
  rw [this, ← hmod]
  omega

theorem xor_zero {a b : Nat} (h : a ^^^ b = 0) : a = b := by
  apply Nat.eq_of_testBit_eq; intro i
  have := congrArg (fun q => q.testBit i) h
  simp only [Nat.testBit_xor, Nat.zero_testBit] at this
  simpa using this
theorem xor_low {x y k : Nat} : (x ^^^ y) - (x ^^^ y) % 2 ^ k = 0 ↔ x / 2 ^ k = y / 2 ^ k := by
  have h : (x ^^^ y) - (x ^^^ y) % 2 ^ k = 2 ^ k * ((x ^^^ y) / 2 ^ k) := by have := Nat.div_add_mod (x ^^^ y) (2 ^ k); omega
  rw [h]
  have hp := Nat.two_pow_pos k
  have h2 : (x ^^^ y) / 2 ^ k = (x / 2 ^ k) ^^^ (y / 2 ^ k) := by
    apply Nat.eq_of_testBit_eq; intro i
    simp [Nat.testBit_div_two_pow]
  rw [h2]
  constructor
  · intro h3
    have : (x / 2 ^ k) ^^^ (y / 2 ^ k) = 0 := by
      rcases Nat.mul_eq_zero.1 h3 with h4 | h4
      · omega
      · exact h4
    exact xor_zero this
  · intro h3; rw [h3]; simp
theorem xorNot_u32 {x y : Int} {k : Nat} (h1 : 0 ≤ x) (h2 : x < 4294967296) (h3 : 0 ≤ y) (h4 : y < 4294967296) (hk : k ≤ 32) :
    bits_andNot .u32 (bits_xor .u32 x y) (2 ^ k - 1 : Nat) = 0 ↔ x / (2 ^ k : Nat) = y / (2 ^ k : Nat) := by
  have e : bits_xor .u32 x y = ((x.toNat ^^^ y.toNat : Nat) : Int) := by
    unfold bits_xor
    rw [ofInt_nat _ _ h1, ofInt_nat _ _ h3, BitVec.toNat_xor, BitVec.toNat_ofNat, BitVec.toNat_ofNat]
    simp only [IntKind.bits]
    rw [Nat.mod_eq_of_lt (by omega), Nat.mod_eq_of_lt (by omega)]
    have : x.toNat ^^^ y.toNat < 2 ^ 32 := Nat.xor_lt_two_pow (by omega) (by omega)
    exact wr32 (by omega) (by omega)
  have hlt : x.toNat ^^^ y.toNat < 2 ^ 32 := Nat.xor_lt_two_pow (by omega) (by omega)
  rw [e, andNot_u32 (by omega) (by omega) hk]
  have h5 := @xor_low x.toNat y.toNat k
  have h6 : (((x.toNat ^^^ y.toNat) % 2 ^ k : Nat) : Int) = ((x.toNat ^^^ y.toNat : Nat) : Int) % (2 ^ k : Nat) := Int.natCast_emod _ _
  have h7 : ((x.toNat / 2 ^ k : Nat) : Int) = x / (2 ^ k : Nat) := by rw [Int.natCast_ediv]; congr 1; omega
  have h8 : ((y.toNat / 2 ^ k : Nat) : Int) = y / (2 ^ k : Nat) := by rw [Int.natCast_ediv]; congr 1; omega
  rw [← h6, ← h7, ← h8]
  have h9 : (x.toNat ^^^ y.toNat) % 2 ^ k ≤ (x.toNat ^^^ y.toNat) := Nat.mod_le _ _
  constructor
  · intro h; have := h5.1 (by omega); omega
  · intro h; have := h5.2 (by omega); omega
end Go.Eng
