/- Part of the proof of BridgeSteps: plain laws of the printed mirrors. No conditions. -/
import Derived.Test.YtngflgclljfmjaaGreatEng14
import Derived.Test.YtngflgclljfmjaaGreatMAM
set_option linter.unusedVariables false
set_option linter.unusedSectionVars false
namespace Go.Eng
open Go Classical

theorem wr64 {n : Int} (h1 : -9223372036854775808 ≤ n) (h2 : n < 9223372036854775808) : wr_i64 n = n := by
  unfold wr_i64 IntKind.wrap
  simp [IntKind.signed, IntKind.bits]
  omega

theorem loopM_trace {σ ρ : Type} {f : σ → Option (σ ⊕ ρ)} (st : Nat → σ) (n : Nat) {r : ρ} (hb : n < 18446744073709551616) (h : ∀ i, i < n → f (st i) = some (.inl (st (i + 1)))) (hn : f (st n) = some (.inr r)) :
    loopM f (st 0) = some r := by
  have key : ∀ (k m i : Nat), i + k = n → k < m → iter f m (st i) = some r := by
    intro k
    induction k with
    | zero =>
      intro m i hi hm
      obtain ⟨m, rfl⟩ : ∃ q, m = q + 1 := ⟨m - 1, by omega⟩
      have : i = n := by omega
      subst this
      rw [iter_succ, hn]
    | succ k ih =>
      intro m i hi hm
      obtain ⟨m, rfl⟩ : ∃ q, m = q + 1 := ⟨m - 1, by omega⟩
      rw [iter_succ, h i (by omega)]
      exact ih m (i + 1) (by omega) (by omega)
  exact key n _ 0 (by omega) hb

theorem loopM_rule {σ ρ : Type} {f : σ → Option (σ ⊕ ρ)} (I : σ → Prop) (Q : ρ → Prop) (μ : σ → Nat)
    (h : ∀ s, I s → ∃ q, f s = some q ∧ match q with | .inl s' => I s' ∧ μ s' < μ s | .inr r => Q r) {s : σ} (hs : I s) (hb : μ s < 18446744073709551615) : ∃ r, loopM f s = some r ∧ Q r := by
  have key : ∀ (m : Nat) s, I s → μ s < m → ∃ r, iter f m s = some r ∧ Q r := by
    intro m
    induction m with
    | zero => intro s _ h; omega
    | succ m ih =>
      intro s hs hm
      obtain ⟨q, hq, hr⟩ := h s hs
      cases q with
      | inl s' =>
        obtain ⟨r, h1, h2⟩ := ih s' hr.1 (by have := hr.2; omega)
        exact ⟨r, by rw [iter_succ, hq]; exact h1, h2⟩
      | inr r => exact ⟨r, by rw [iter_succ, hq], hr⟩
  exact key _ s hs (by omega)

theorem loop_ix {α ρ : Type} {f : Int → Option (Int ⊕ ρ)} (l : List α) (step : Nat → α → Option ρ) (last : ρ) (hb : l.length < 9223372036854775807)
    (h1 : ∀ (i : Nat) x, l[i]? = some x → i < l.length → f i = some (match step i x with | none => .inl ((i : Int) + 1) | some r => .inr r)) (h2 : f l.length = some (.inr last)) :
    loopM f 0 = some ((l.zipIdx.findSome? fun q => step q.2 q.1).getD last) := by
  have key : ∀ (r : List α) (k : Nat), l.drop k = r → k ≤ l.length → ∃ n, n ≤ l.length - k ∧ (∀ i, i < n → f ((k + i : Nat) : Int) = some (.inl ((k + (i + 1) : Nat) : Int))) ∧ f ((k + n : Nat) : Int) = some (.inr (((r.zipIdx k).findSome? fun q => step q.2 q.1).getD last)) := by
    intro r
    induction r with
    | nil =>
      intro k hk hle
      have : k = l.length := by
        have := congrArg List.length hk
        simp at this; omega
      subst this
      exact ⟨0, by omega, fun i hi => by omega, by simpa using h2⟩
    | cons x r ih =>
      intro k hk hle
      have hx : l[k]? = some x := by
        have := congrArg (fun q => q[0]?) hk
        simpa using this
      have hlt : k < l.length := (List.getElem?_eq_some_iff.1 hx).1
      have hs := h1 k x hx hlt
      cases hst : step k x with
      | some q =>
        rw [hst] at hs
        exact ⟨0, by omega, fun i hi => by omega, by simpa [List.zipIdx_cons, hst] using hs⟩
      | none =>
        rw [hst] at hs
        obtain ⟨n, hn, ha, hb⟩ := ih (k + 1) (by rw [← List.drop_drop, hk]; rfl) (by omega)
        refine ⟨n + 1, by omega, fun i hi => ?_, ?_⟩
        · cases i with
          | zero => simpa using hs
          | succ i =>
            have := ha i (by omega)
            rw [show k + (i + 1) = k + 1 + i from by omega, show k + (i + 1 + 1) = k + 1 + (i + 1) from by omega]; exact this
        · rw [show k + (n + 1) = k + 1 + n from by omega, hb]
          simp [List.zipIdx_cons, hst]
  obtain ⟨n, hn, ha, hb'⟩ := key l 0 rfl (by omega)
  simp only [Nat.zero_add] at ha hb'
  exact loopM_trace (fun i => (i : Int)) n (by omega) ha hb'

theorem loop_all {α ρ : Type} {f : Int → Option (Int ⊕ ρ)} (l : List α) (P : Nat → α → Prop) {a b : ρ} (hb : l.length < 9223372036854775807)
    (h1 : ∀ (i : Nat) x, l[i]? = some x → i < l.length → f i = some (if P i x then .inl ((i : Int) + 1) else .inr a)) (h2 : f l.length = some (.inr b)) :
    loopM f 0 = some (if ∀ (i : Nat) x, l[i]? = some x → P i x then b else a) := by
  rw [loop_ix l (fun i x => if P i x then none else some a) b hb (fun i x hx hi => by rw [h1 i x hx hi]; split <;> rfl) h2]
  congr 1
  cases hf : l.zipIdx.findSome? (fun q => if P q.2 q.1 then none else some a) with
  | none =>
    rw [List.findSome?_eq_none_iff] at hf
    rw [if_pos]; · rfl
    intro i x hx
    have := hf (x, i) (by rw [List.mem_zipIdx_iff_getElem?]; simpa using hx)
    apply Classical.byContradiction
    intro hn
    simp [hn] at this
  | some r =>
    obtain ⟨q, hq, hr⟩ := List.exists_of_findSome?_eq_some hf
    rw [List.mem_zipIdx_iff_getElem?] at hq
    rw [if_neg]
    · split at hr
      · cases hr
      · simp only [Option.some.injEq] at hr; subst hr; rfl
    · intro hall
      have := hall q.2 q.1 (by simpa using hq)
      simp [this] at hr

abbrev Few {α : Type} (l : List α) : Prop := l.length ≤ 1000000
theorem few_of {α : Type} {l : List α} {k : Nat} (h : l.length ≤ k) (hk : k ≤ 1000000 := by decide) : Few l := by unfold Few; omega
def inL {α : Type} (l : List α) (i : Int) : Prop := 0 ≤ i ∧ i < l.length
theorem inL_iff {α : Type} {l : List α} {i : Int} : inL l i ↔ 0 ≤ i ∧ i < l.length := Iff.rfl
noncomputable def getI {α : Type} [Inhabited α] (l : List α) (i : Int) : α := (l[i.toNat]?).getD default
section
variable {α : Type} [Inhabited α] {l : List α} {i : Int}
theorem nth_getI (h : inL l i) : nth l i = some (getI l i) := by
  have h1 := h.1; have h2 := h.2
  have : i.toNat < l.length := by omega
  simp [nth, getI, h1, this]
theorem getI_nat {n : Nat} {x : α} (h : l[n]? = some x) : getI l n = x := by simp [getI, h]
theorem inL_nat {n : Nat} {x : α} (h : l[n]? = some x) : inL l n := ⟨by omega, by have := (List.getElem?_eq_some_iff.1 h).1; omega⟩
theorem getI_get? (h : inL l i) : l[i.toNat]? = some (getI l i) := (nth_out (nth_getI h)).2
theorem getI_mem (h : inL l i) : getI l i ∈ l := List.mem_of_getElem? (getI_get? h)
theorem mem_getI {x : α} (h : x ∈ l) : ∃ i, inL l i ∧ getI l i = x := by
  obtain ⟨i, hi⟩ := List.getElem?_of_mem h
  exact ⟨i, inL_nat hi, getI_nat hi⟩
end
def EachP {α : Type} [Inhabited α] (l : List α) (P : Int → α → Prop) : Prop := ∀ i, inL l i → P i (getI l i)
theorem eachP_nat {α : Type} [Inhabited α] {l : List α} {P : Int → α → Prop} : EachP l P ↔ ∀ (i : Nat) x, l[i]? = some x → P i x := by
  constructor
  · intro h i x hx
    have := h i (inL_nat hx)
    rwa [getI_nat hx] at this
  · intro h i hi
    have h1 := hi.1
    have := h i.toNat _ (getI_get? hi)
    rwa [show ((i.toNat : Nat) : Int) = i from by omega] at this
theorem loop_each {α ρ : Type} [Inhabited α] {f : Int → Option (Int ⊕ ρ)} (l : List α) (P : Int → α → Prop) (a b : ρ) (hb : Few l)
    (h1 : ∀ i : Int, 0 ≤ i → i < l.length → inL l i → f i = some (if P i (getI l i) then .inl (i + 1) else .inr a)) (h2 : f l.length = some (.inr b)) :
    loopM f 0 = if EachP l P then some b else some a := by
  rw [loop_all l (fun i x => P i x) (by unfold Few at hb; omega) (fun i x hx hi => by rw [h1 i (by omega) (by omega) (inL_nat hx), getI_nat hx]) h2]
  simp only [eachP_nat]
  split <;> rfl
theorem eachP_mem {α : Type} [Inhabited α] {l : List α} {P : α → Prop} : EachP l (fun _ x => P x) ↔ ∀ x ∈ l, P x := by
  rw [eachP_nat]
  constructor
  · intro h v hv
    obtain ⟨i, hi⟩ := List.getElem?_of_mem hv
    exact h i v hi
  · intro h i x hx
    exact h x (List.mem_of_getElem? hx)

/-! ### What is decided -/
section
variable {β γ : Type} {c p q : Prop}
theorem bind_ite [Decidable c] {x y : Option β} {k : β → Option γ} : (if c then x else y).bind k = if c then x.bind k else y.bind k := by split <;> rfl
theorem dif1 [Decidable c] [Decidable p] : (if c then some (decide p) else some false) = some (decide (c ∧ p)) := by by_cases c <;> simp [*]
theorem dif2 [Decidable c] [Decidable p] : (if c then some true else some (decide p)) = some (decide (c ∨ p)) := by by_cases c <;> simp [*]
theorem dif3 [Decidable c] [Decidable p] : (if c then some false else some (decide p)) = some (decide (¬ c ∧ p)) := by by_cases c <;> simp [*]
theorem dif4 [Decidable c] [Decidable p] : (if c then some (decide p) else some true) = some (decide (c → p)) := by by_cases c <;> simp [*]
theorem dif5 [Decidable c] [Decidable p] [Decidable q] : (if c then some (decide p) else some (decide q)) = some (decide ((c → p) ∧ (¬ c → q))) := by by_cases c <;> simp [*]
theorem dif6 [Decidable c] : (if c then some true else some false) = some (decide c) := by by_cases c <;> simp [*]
theorem dif7 [Decidable c] : (if c then some false else some true) = some (decide ¬ c) := by by_cases c <;> simp [*]
theorem dnot [Decidable p] : (!decide p) = decide (¬ p) := by simp
theorem ibeq {x y : Int} : (x == y) = decide (x = y) := by rw [Bool.eq_iff_iff]; simp
theorem ibne {x y : Int} : (x != y) = decide (x ≠ y) := by rw [Bool.eq_iff_iff]; simp
theorem sdec {_ : Decidable p} {_ : Decidable q} (h : p ↔ q) : some (decide p) = some (decide q) := by simp [h]
theorem if_not2 [Decidable p] [Decidable (¬ p)] {x y : β} : (if ¬ p then x else y) = if p then y else x := by by_cases p <;> simp [*]
theorem mrg1 [Decidable c] [Decidable p] {x y : β} : (if c then (if p then x else y) else y) = if c ∧ p then x else y := by by_cases c <;> simp [*]
theorem mrg2 [Decidable c] [Decidable p] {x y : β} : (if c then y else (if p then x else y)) = if ¬ c ∧ p then x else y := by by_cases c <;> simp [*]
theorem mrg3 [Decidable c] [Decidable p] {x y : β} : (if c then x else (if p then x else y)) = if c ∨ p then x else y := by by_cases c <;> simp [*]
theorem mrg4 [Decidable c] [Decidable p] {x y : β} : (if c then (if p then x else y) else x) = if c → p then x else y := by by_cases c <;> simp [*]
theorem mrg5 [Decidable c] {x : β} : (if c then x else x) = x := by simp
theorem mrg6 [Decidable c] [Decidable p] [Decidable q] {x y : β} : (if c then (if p then x else y) else (if q then x else y)) = if (c → p) ∧ (¬ c → q) then x else y := by by_cases c <;> simp [*]
theorem mrg7 [Decidable c] [Decidable p] [Decidable q] {x y : β} : (if c then (if p then x else y) else (if q then y else x)) = if (c → p) ∧ (¬ c → ¬ q) then x else y := by by_cases c <;> by_cases q <;> simp [*]
theorem fpos {_ : Decidable p} {_ : Decidable q} {x y : β} (h : q ↔ p) : (if q then some x else some y) = some (if p then x else y) := by by_cases p <;> simp [*]
theorem fneg {_ : Decidable p} {_ : Decidable q} {x y : β} (h : q ↔ ¬ p) : (if q then some y else some x) = some (if p then x else y) := by by_cases p <;> simp [*]
theorem ite_cg {α : Type} {l : List α} {i : Int} [Decidable (inL l i)] {x y u v : β} (h2 : inL l i → x = u) (h3 : ¬ inL l i → y = v) : (if inL l i then x else y) = (if inL l i then u else v) := ite_congr rfl h2 h3
end
def ixI : Option Nat → Int | some i => i | none => -1
theorem loop_findI {α : Type} [Inhabited α] {f : Int → Option (Int ⊕ (Int ⊕ Unit))} (l : List α) (p : α → Bool) (hb : Few l)
    (h1 : ∀ i : Int, 0 ≤ i → i < l.length → inL l i → f i = some (if p (getI l i) = true then .inr (.inl i) else .inl (i + 1))) (h2 : f l.length = some (.inr (.inr ()))) :
    loopM f 0 = match l.findIdx? p with | some i => some (.inl (i : Int)) | none => some (.inr ()) := by
  have h := loop_ix l (fun i x => if p x = true then some (.inl (i : Int)) else none) (.inr ()) (f := f) (by unfold Few at hb; omega) (fun i x hx hi => by rw [h1 i (by omega) (by omega) (inL_nat hx), getI_nat hx]; split <;> rfl) h2
  rw [h]
  have key : ∀ (l : List α) (k : Nat), ((l.zipIdx k).findSome? (fun q => if p q.1 = true then some (Sum.inl (q.2 : Int)) else none)).getD (Sum.inr ()) = (match l.findIdx? p with | some i => Sum.inl ((k + i : Nat) : Int) | none => Sum.inr () : Int ⊕ Unit) := by
    intro l
    induction l with
    | nil => intro k; rfl
    | cons x l ih =>
      intro k
      rw [List.zipIdx_cons, List.findSome?_cons, List.findIdx?_cons]
      by_cases hp : p x = true
      · simp [hp]
      · simp only [hp]
        have := ih (k + 1)
        simp only [Bool.false_eq_true, if_false] at this ⊢
        rw [this]
        cases List.findIdx? p l with
        | none => rfl
        | some i => simp; omega
  rw [key l 0]
  cases l.findIdx? p <;> simp
theorem loop_fold {α σ τ ρ : Type} {f : τ → Option (τ ⊕ ρ)} (l : List α) (st : σ → Int → τ) (g : Nat → α → σ → σ) (s0 : σ) {out : σ → ρ} (hb : l.length < 9223372036854775807) (I : Nat → σ → Prop) (h0 : I 0 s0)
    (h1 : ∀ (i : Nat) x s, l[i]? = some x → i < l.length → I i s → f (st s i) = some (.inl (st (g i x s) ((i : Int) + 1))) ∧ I (i + 1) (g i x s)) (h2 : ∀ s, I l.length s → f (st s l.length) = some (.inr (out s))) :
    loopM f (st s0 0) = some (out (l.zipIdx.foldl (fun s q => g q.2 q.1 s) s0)) := by
  let S : Nat → σ := fun i => (l.zipIdx.take i).foldl (fun s q => g q.2 q.1 s) s0
  have hS : ∀ i x, l[i]? = some x → S (i + 1) = g i x (S i) := by
    intro i x hx
    have hz : l.zipIdx[i]? = some (x, i) := by simp [hx]
    simp only [S]
    rw [List.take_add_one, hz]
    simp
  have hI : ∀ i, i ≤ l.length → I i (S i) := by
    intro i
    induction i with
    | zero => intro _; exact h0
    | succ i ih =>
      intro hi
      have hx : l[i]? = some l[i] := List.getElem?_eq_getElem (by omega)
      rw [hS i _ hx]
      exact (h1 i _ _ hx (by omega) (ih (by omega))).2
  have hend : S l.length = l.zipIdx.foldl (fun s q => g q.2 q.1 s) s0 := by
    simp only [S]
    rw [List.take_of_length_le (by simp)]
  have := loopM_trace (f := f) (fun i => st (S i) i) l.length (r := out (S l.length)) (by omega) (fun i hi => by
    have hx : l[i]? = some l[i] := List.getElem?_eq_getElem hi
    have := (h1 i _ (S i) hx hi (hI i (by omega))).1
    rw [← hS i _ hx] at this
    rw [this]; simp) (h2 _ (hI _ (Nat.le_refl _)))
  rw [hend] at this
  exact this

noncomputable def fstI {α : Type} (l : List α) (P : α → Prop) : Int := ixI (l.findIdx? fun x => decide (P x))
section
variable {α : Type} [Inhabited α] {l : List α} {P : α → Prop}
theorem fstI_cases : (fstI l P = -1 ∧ ∀ i, inL l i → ¬ P (getI l i)) ∨ (inL l (fstI l P) ∧ P (getI l (fstI l P)) ∧ ∀ j, inL l j → j < fstI l P → ¬ P (getI l j)) := by
  unfold fstI
  cases h : l.findIdx? fun x => decide (P x) with
  | none =>
    rw [List.findIdx?_eq_none_iff] at h
    refine .inl ⟨rfl, fun i hi => ?_⟩
    have := h _ (getI_mem hi)
    simpa using this
  | some n =>
    rw [List.findIdx?_eq_some_iff_getElem] at h
    obtain ⟨hn, h1, h2⟩ := h
    refine .inr ⟨⟨by simp [ixI], by simpa [ixI] using hn⟩, ?_, fun j hj hlt => ?_⟩
    · simp only [ixI]; rw [getI_nat (List.getElem?_eq_getElem hn)]; simpa using h1
    · simp only [ixI] at hlt
      have hj0 := hj.1
      have := h2 j.toNat (by omega)
      rw [show getI l j = l[j.toNat]'(by omega) from by
        have := getI_get? hj
        exact ((List.getElem?_eq_some_iff.1 this).2).symm]
      simpa using this
theorem fstI_ge : -1 ≤ fstI l P := by unfold fstI ixI; split <;> omega
theorem fstI_inL : 0 ≤ fstI l P ↔ inL l (fstI l P) := by
  rcases fstI_cases (l := l) (P := P) with h | h
  · rw [h.1]; simp [inL]
  · exact ⟨fun _ => h.1, fun h => h.1⟩
theorem fstI_is (h : 0 ≤ fstI l P) : P (getI l (fstI l P)) := by
  rcases fstI_cases (l := l) (P := P) with h1 | h1
  · omega
  · exact h1.2.1
theorem fstI_first {j : Int} (hj : inL l j) (hp : P (getI l j)) : 0 ≤ fstI l P ∧ fstI l P ≤ j := by
  rcases fstI_cases (l := l) (P := P) with h1 | h1
  · exact absurd hp (h1.2 j hj)
  · refine ⟨h1.1.1, ?_⟩
    apply Classical.byContradiction
    intro hn
    exact h1.2.2 j hj (by omega) hp
theorem fstI_none : fstI l P < 0 ↔ ∀ i, inL l i → ¬ P (getI l i) := by
  constructor
  · intro h i hi hp
    have := fstI_first hi hp; omega
  · intro h
    rcases fstI_cases (l := l) (P := P) with h1 | h1
    · omega
    · exact absurd h1.2.1 (h _ h1.1)
theorem fstI_none_mem : fstI l P < 0 ↔ ∀ x ∈ l, ¬ P x := by
  rw [fstI_none]
  constructor
  · intro h x hx
    obtain ⟨i, hi, rfl⟩ := mem_getI hx
    exact h i hi
  · exact fun h i hi => h _ (getI_mem hi)
theorem fstI_eq {i : Int} (hi : inL l i) : fstI l P = i ↔ P (getI l i) ∧ ∀ j, inL l j → j < i → ¬ P (getI l j) := by
  constructor
  · intro h
    subst h
    exact ⟨fstI_is hi.1, fun j hj hlt hp => by have := fstI_first hj hp; omega⟩
  · rintro ⟨h1, h2⟩
    have h3 := fstI_first hi h1
    have h4 := fstI_inL.1 h3.1
    have h5 := fstI_is h3.1
    by_cases h : fstI l P < i
    · exact absurd h5 (h2 _ h4 h)
    · omega
theorem loop_first {f : Int → Option (Int ⊕ (Int ⊕ Unit))} (l : List α) (P : α → Prop) (hb : Few l)
    (h1 : ∀ i : Int, 0 ≤ i → i < l.length → inL l i → f i = some (if P (getI l i) then .inr (.inl i) else .inl (i + 1))) (h2 : f l.length = some (.inr (.inr ()))) :
    loopM f 0 = if 0 ≤ fstI l P then some (.inl (fstI l P)) else some (.inr ()) := by
  rw [loop_findI l (fun x => decide (P x)) hb (fun i a b c => by rw [h1 i a b c]; by_cases h : P (getI l i) <;> simp [h]) h2]
  unfold fstI
  cases l.findIdx? fun x => decide (P x) <;> simp [ixI]
theorem loop_firstv {ρ : Type} {f : Int → Option (Int ⊕ (ρ ⊕ Unit))} (l : List α) (P : α → Prop) (g : Int → α → ρ) (hb : Few l)
    (h1 : ∀ i : Int, 0 ≤ i → i < l.length → inL l i → f i = some (if P (getI l i) then .inr (.inl (g i (getI l i))) else .inl (i + 1))) (h2 : f l.length = some (.inr (.inr ()))) :
    loopM f 0 = if 0 ≤ fstI l P then some (.inl (g (fstI l P) (getI l (fstI l P)))) else some (.inr ()) := by
  have h := loop_ix l (fun i x => if P x then some (.inl (g i x)) else none) (.inr ()) (f := f) (by unfold Few at hb; omega) (fun i x hx hi => by rw [h1 i (by omega) (by omega) (inL_nat hx), getI_nat hx]; split <;> rfl) h2
  rw [h]
  have key : ∀ (r : List α) (k : Nat), ((r.zipIdx k).findSome? (fun q => if P q.1 then some (Sum.inl (g (q.2 : Int) q.1)) else none)).getD (Sum.inr ()) = (match r.findIdx? fun x => decide (P x) with | some i => Sum.inl (g ((k + i : Nat) : Int) ((r[i]?).getD default)) | none => Sum.inr () : ρ ⊕ Unit) := by
    intro r
    induction r with
    | nil => intro k; rfl
    | cons x r ih =>
      intro k
      rw [List.zipIdx_cons, List.findSome?_cons, List.findIdx?_cons]
      by_cases hp : P x
      · simp [hp]
      · have := ih (k + 1)
        simp only [hp, if_false, decide_false, Bool.false_eq_true] at this ⊢
        rw [this]
        cases hq : List.findIdx? (fun x => decide (P x)) r with
        | none => rfl
        | some i => simp; congr 1; omega
  have h3 := key l 0
  unfold fstI
  cases hq : l.findIdx? fun x => decide (P x) with
  | none => rw [hq] at h3; simp [ixI]; exact h3
  | some i =>
    rw [hq] at h3
    simp [ixI]
    simpa [getI] using h3
theorem fst_ret : (if 0 ≤ fstI l P then some (fstI l P) else some (-1)) = some (fstI l P) := by
  split
  · rfl
  · have := fstI_ge (l := l) (P := P)
    congr 1; omega
end

theorem roomy_few {α : Type} {l : List α} {b : Nat} (h : l.length ≤ 1000100) (hb : b ≤ 100000000 := by decide) : roomy b l = true := by
  unfold roomy
  have := Nat.mul_le_mul h hb
  exact decide_eq_true ⟨by omega, by omega⟩

noncomputable def gatherI {α β : Type} (l : List α) (P : Int → α → Prop) (e : Int → α → β) : List β := l.zipIdx.filterMap fun q => if P q.2 q.1 then some (e q.2 q.1) else none
section
variable {α β : Type} [Inhabited α] {l : List α} {P : Int → α → Prop} {e : Int → α → β}
theorem gatherI_len : (gatherI l P e).length ≤ l.length := by
  unfold gatherI
  refine Nat.le_trans (List.length_filterMap_le _ _) (by simp)
theorem mem_gatherI {y : β} : y ∈ gatherI l P e ↔ ∃ i, inL l i ∧ P i (getI l i) ∧ y = e i (getI l i) := by
  unfold gatherI
  rw [List.mem_filterMap]
  constructor
  · rintro ⟨⟨x, i⟩, hq, hy⟩
    rw [List.mem_zipIdx_iff_getElem?] at hq
    simp only at hq hy
    split at hy
    · rename_i hp
      refine ⟨i, inL_nat hq, ?_, ?_⟩
      · rw [getI_nat hq]; exact hp
      · rw [getI_nat hq]; simpa using hy.symm
    · cases hy
  · rintro ⟨i, hi, hp, rfl⟩
    have hi0 := hi.1
    refine ⟨(getI l i, i.toNat), ?_, ?_⟩
    · rw [List.mem_zipIdx_iff_getElem?]; exact getI_get? hi
    · simp only
      rw [show ((i.toNat : Nat) : Int) = i from by omega, if_pos hp]
end
theorem loop_gather {α β ρ : Type} [Inhabited α] {f : List β × Int → Option ((List β × Int) ⊕ ρ)} (l : List α) (P : Int → α → Prop) (e : Int → α → β) {out : List β → ρ} (hb : Few l)
    (h1 : ∀ (i : Int) (s : List β), 0 ≤ i → i < l.length → inL l i → s.length ≤ i → f (s, i) = some (.inl (if P i (getI l i) then s ++ [e i (getI l i)] else s, i + 1))) (h2 : ∀ s, f (s, l.length) = some (.inr (out s))) :
    loopM f ([], 0) = some (out (gatherI l P e)) := by
  have := loop_fold (f := f) l (fun s i => (s, i)) (fun i x s => if P i x then s ++ [e i x] else s) [] (out := out) (by unfold Few at hb; omega) (fun i s => s.length ≤ i) (by simp) (fun i x s hx hi hs => by
    have h := h1 i s (by omega) (by omega) (inL_nat hx) (by omega)
    rw [getI_nat hx] at h
    refine ⟨h, ?_⟩
    split
    · simp; omega
    · omega) (fun s _ => h2 s)
  have key : ∀ (q : List (α × Nat)) (s : List β), q.foldl (fun s q => if P q.2 q.1 then s ++ [e q.2 q.1] else s) s = s ++ q.filterMap fun q => if P q.2 q.1 then some (e q.2 q.1) else none := by
    intro q
    induction q with
    | nil => intro s; simp
    | cons a q ih =>
      intro s
      rw [List.foldl_cons, ih, List.filterMap_cons]
      by_cases h : P a.2 a.1 <;> simp [h]
  rw [this, key l.zipIdx []]
  rfl

theorem lin_dec {α : Type} {l : List α} {i : Int} : lin l i = decide (inL l i) := by unfold lin inL; exact decide_eq_decide.2 Iff.rfl
section
variable {α : Type} [Inhabited α] {l : List α}
theorem mem_take_getI {j : Int} {x : α} : x ∈ l.take j.toNat ↔ ∃ k, inL l k ∧ k < j ∧ getI l k = x := by
  rw [List.mem_take_iff_getElem]
  constructor
  · rintro ⟨i, hi, rfl⟩
    have h1 : i < l.length := by omega
    exact ⟨i, ⟨by omega, by omega⟩, by omega, getI_nat (List.getElem?_eq_getElem h1)⟩
  · rintro ⟨k, hk, hlt, rfl⟩
    have h0 := hk.1; have h1 := hk.2
    refine ⟨k.toNat, by omega, ?_⟩
    have := getI_get? hk
    exact (List.getElem?_eq_some_iff.1 this).2
theorem fst_take [DecidableEq α] {j : Int} (hj : inL l j) : fstI l (fun y => getI l j = y) = j ↔ getI l j ∉ l.take j.toNat := by
  rw [fstI_eq hj, mem_take_getI]
  constructor
  · rintro ⟨_, h⟩ ⟨k, hk, hlt, e⟩
    exact h k hk hlt e.symm
  · intro h
    exact ⟨rfl, fun k hk hlt e => h ⟨k, hk, hlt, e.symm⟩⟩
end
theorem slok_dec {n : Nat} {a b : Int} : slok n a b = decide (0 ≤ a ∧ a ≤ b ∧ b ≤ n) := rfl
end Go.Eng

set_option linter.unusedVariables false
set_option linter.unusedSectionVars false
set_option linter.unusedSimpArgs false
namespace Go.Eng
open Go Classical
attribute [local congr] ite_cg

theorem place_Device_spec {l i} : names_place_Device l i = some (decide (inL l i)) := by simp only [names_place_Device, bind_ite, Option.bind_some, dif1, dif2, dif3, dif4, dif5, dif6, dif7, dnot, ibeq, ibne, decide_eq_true_eq, if_not2, ge_iff_le, gt_iff_lt, fst_ret, Bool.false_eq_true, decide_false]; exact sdec Iff.rfl
theorem place_Port_spec {l i} : names_place_Port l i = some (decide (inL l i)) := by simp only [names_place_Port, bind_ite, Option.bind_some, dif1, dif2, dif3, dif4, dif5, dif6, dif7, dnot, ibeq, ibne, decide_eq_true_eq, if_not2, ge_iff_le, gt_iff_lt, fst_ret, Bool.false_eq_true, decide_false]; exact sdec Iff.rfl
theorem place_Link_spec {l i} : names_place_Link l i = some (decide (inL l i)) := by simp only [names_place_Link, bind_ite, Option.bind_some, dif1, dif2, dif3, dif4, dif5, dif6, dif7, dnot, ibeq, ibne, decide_eq_true_eq, if_not2, ge_iff_le, gt_iff_lt, fst_ret, Bool.false_eq_true, decide_false]; exact sdec Iff.rfl
theorem place_Domain_spec {l i} : names_place_Domain l i = some (decide (inL l i)) := by simp only [names_place_Domain, bind_ite, Option.bind_some, dif1, dif2, dif3, dif4, dif5, dif6, dif7, dnot, ibeq, ibne, decide_eq_true_eq, if_not2, ge_iff_le, gt_iff_lt, fst_ret, Bool.false_eq_true, decide_false]; exact sdec Iff.rfl
theorem place_Irb_spec {l i} : names_place_Irb l i = some (decide (inL l i)) := by simp only [names_place_Irb, bind_ite, Option.bind_some, dif1, dif2, dif3, dif4, dif5, dif6, dif7, dnot, ibeq, ibne, decide_eq_true_eq, if_not2, ge_iff_le, gt_iff_lt, fst_ret, Bool.false_eq_true, decide_false]; exact sdec Iff.rfl
theorem place_Vrf_spec {l i} : names_place_Vrf l i = some (decide (inL l i)) := by simp only [names_place_Vrf, bind_ite, Option.bind_some, dif1, dif2, dif3, dif4, dif5, dif6, dif7, dnot, ibeq, ibne, decide_eq_true_eq, if_not2, ge_iff_le, gt_iff_lt, fst_ret, Bool.false_eq_true, decide_false]; exact sdec Iff.rfl

theorem Index_int_spec {l : List Int} {x : Int} (hl : Few l) : slices_Index_int l x = some (fstI l (fun y => x = y)) := by
  unfold slices_Index_int
  rw [loop_first l (fun y => x = y) hl (fun i h0 h1 h2 => by simp (disch := omega) only [slices_Index_int_L1, h1, nth_getI h2, wr64, bind_ite, Option.bind_some, dif1, dif2, dif3, dif4, dif5, dif6, dif7, dnot, ibeq, ibne, decide_eq_true_eq, if_not2, ge_iff_le, gt_iff_lt, fst_ret, Bool.false_eq_true, decide_false, decide_true, if_true]; split <;> rfl) (by simp [slices_Index_int_L1])]
  simp only [bind_ite, Option.bind_some, dif1, dif2, dif3, dif4, dif5, dif6, dif7, dnot, ibeq, ibne, decide_eq_true_eq, if_not2, ge_iff_le, gt_iff_lt, fst_ret, Bool.false_eq_true, decide_false]

theorem Contains_int_spec {l : List Int} {x : Int} (hl : Few l) : slices_Contains_int l x = some (decide (x ∈ l)) := by
  unfold slices_Contains_int
  rw [Index_int_spec hl]
  simp only [bind_ite, Option.bind_some, dif1, dif2, dif3, dif4, dif5, dif6, dif7, dnot, ibeq, ibne, decide_eq_true_eq, if_not2, ge_iff_le, gt_iff_lt, fst_ret, Bool.false_eq_true, decide_false]
  refine sdec ?_
  have := fstI_none_mem (l := l) (P := fun y => x = y)
  constructor
  · intro h
    apply Classical.byContradiction
    intro hn
    have := this.2 (fun y hy e => hn (e ▸ hy)); omega
  · intro h
    apply Classical.byContradiction
    intro hn
    exact this.1 (by omega) x h rfl

/-! ### The net -/
structure SmN (n : Api_Net) : Prop where
  devices : Few n.devices
  ports : Few n.ports
  links : Few n.links
  domains : Few n.domains
  statics : Few n.statics
  floods : Few n.floods
  vrfs : Few n.vrfs
  irbs : Few n.irbs
  tagged : ∀ p ∈ n.ports, Few p.tagged
  peers : ∀ d ∈ n.domains, Few d.peers
  addrs : ∀ f ∈ n.floods, Few f.addrs
  imports : ∀ v ∈ n.vrfs, Few v.imports
  exports : ∀ v ∈ n.vrfs, Few v.exports

noncomputable def domIx (l : List Api_Domain) (dev vlan : Int) : Int := fstI l fun d => d.dev = dev ∧ d.vlan = vlan

theorem IndexFunc_judge_domain_spec {l a b} (hl : Few l) : slices_IndexFunc_Domain_judge_domain_1 l a b = some (domIx l a b) := by
  unfold slices_IndexFunc_Domain_judge_domain_1
  rw [loop_first l (fun d => d.dev = a ∧ d.vlan = b) hl (fun i h0 h1 h2 => by simp (disch := omega) only [slices_IndexFunc_Domain_judge_domain_1_L1, names_judge_domain_1, h1, nth_getI h2, wr64, bind_ite, Option.bind_some, dif1, dif2, dif3, dif4, dif5, dif6, dif7, dnot, ibeq, ibne, decide_eq_true_eq, if_not2, ge_iff_le, gt_iff_lt, fst_ret, Bool.false_eq_true, decide_false, decide_true, if_true]; split <;> rfl) (by simp [slices_IndexFunc_Domain_judge_domain_1_L1])]
  simp only [bind_ite, Option.bind_some, dif1, dif2, dif3, dif4, dif5, dif6, dif7, dnot, ibeq, ibne, decide_eq_true_eq, if_not2, ge_iff_le, gt_iff_lt, fst_ret, Bool.false_eq_true, decide_false]
  rfl

theorem judge_domain_spec {j a b} (hl : Few j.n.domains) : names_judge_domain j a b = some (domIx j.n.domains a b) := by
  simp only [names_judge_domain, IndexFunc_judge_domain_spec hl, bind_ite, Option.bind_some, dif1, dif2, dif3, dif4, dif5, dif6, dif7, dnot, ibeq, ibne, decide_eq_true_eq, if_not2, ge_iff_le, gt_iff_lt, fst_ret, Bool.false_eq_true, decide_false]

def BareP (n : Api_Net) (i : Int) (d : Api_Domain) : Prop :=
  inL n.devices d.dev ∧ 1 ≤ d.vlan ∧ d.vlan ≤ 4094 ∧ 0 ≤ d.vni ∧ d.vni ≤ 16777215 ∧ (d.irb = -1 ∨ inL n.irbs d.irb ∧ (getI n.irbs d.irb).domain = i) ∧ domIx n.domains d.dev d.vlan = i

theorem judge_bare_spec {n : Api_Net} {i : Int} {d} (hl : Few n.domains) : names_judge_bare ⟨n⟩ i d = some (decide (BareP n i d)) := by
  simp +contextual only [names_judge_bare, place_Device_spec, place_Irb_spec, judge_domain_spec (j := ⟨n⟩) hl, nth_getI, bind_ite, Option.bind_some, dif1, dif2, dif3, dif4, dif5, dif6, dif7, dnot, ibeq, ibne, decide_eq_true_eq, if_not2, ge_iff_le, gt_iff_lt, fst_ret, Bool.false_eq_true, decide_false]
  refine sdec ?_
  unfold BareP
  grind

def vtepP (n : Api_Net) (dev : Int) : Prop := (getI n.devices dev).vtep ≠ 0
theorem judge_vtep_spec {n : Api_Net} {d : Api_Domain} (h : inL n.devices d.dev) : names_judge_vtep ⟨n⟩ d = some (decide (vtepP n d.dev)) := by
  simp only [names_judge_vtep, nth_getI h, bind_ite, Option.bind_some, dif1, dif2, dif3, dif4, dif5, dif6, dif7, dnot, ibeq, ibne, decide_eq_true_eq, if_not2, ge_iff_le, gt_iff_lt, fst_ret, Bool.false_eq_true, decide_false]; exact sdec Iff.rfl

def PeerP (n : Api_Net) (i : Int) (d : Api_Domain) (k : Int) : Prop :=
  inL n.domains k ∧ k ≠ i ∧ inL n.devices (getI n.domains k).dev ∧ (getI n.domains k).dev ≠ d.dev ∧ (getI n.domains k).vni = d.vni ∧ d.vni ≠ 0 ∧ vtepP n (getI n.domains k).dev ∧ vtepP n d.dev ∧ i ∈ (getI n.domains k).peers

theorem judge_peer_spec {n : Api_Net} (hs : SmN n) {i : Int} {d : Api_Domain} (hd : inL n.devices d.dev) {k : Int} : names_judge_peer ⟨n⟩ i d k = some (decide (PeerP n i d k)) := by
  have hp : inL n.domains k → Few (getI n.domains k).peers := fun h => hs.peers _ (getI_mem h)
  simp +contextual only [names_judge_peer, place_Domain_spec, place_Device_spec, judge_vtep_spec, hd, Contains_int_spec, hp, nth_getI, bind_ite, Option.bind_some, dif1, dif2, dif3, dif4, dif5, dif6, dif7, dnot, ibeq, ibne, decide_eq_true_eq, if_not2, ge_iff_le, gt_iff_lt, fst_ret, Bool.false_eq_true, decide_false]
  refine sdec ?_
  unfold PeerP
  grind

def PeersP (n : Api_Net) (i : Int) (d : Api_Domain) : Prop := EachP d.peers fun j k => PeerP n i d k ∧ fstI d.peers (fun y => k = y) = j

theorem judge_peers_spec {n : Api_Net} (hs : SmN n) {i : Int} {d : Api_Domain} (hd : inL n.devices d.dev) (hp : Few d.peers) : names_judge_peers ⟨n⟩ i d = some (decide (PeersP n i d)) := by
  unfold names_judge_peers names_all_int_judge_peers_1
  rw [loop_each d.peers (fun j k => PeerP n i d k ∧ fstI d.peers (fun y => k = y) = j) (.inl ()) (.inr ()) hp (fun j h0 h1 h2 => by
    simp (disch := omega) only [names_all_int_judge_peers_1_L1, names_judge_peers_1, h1, nth_getI h2, wr64, judge_peer_spec hs hd, Index_int_spec hp, bind_ite, Option.bind_some, dif1, dif2, dif3, dif4, dif5, dif6, dif7, dnot, ibeq, ibne, decide_eq_true_eq, if_not2, ge_iff_le, gt_iff_lt, fst_ret, Bool.false_eq_true, decide_false, decide_true, if_true]; split <;> rfl) (by simp [names_all_int_judge_peers_1_L1])]
  simp only [bind_ite, Option.bind_some, dif1, dif2, dif3, dif4, dif5, dif6, dif7, dnot, ibeq, ibne, decide_eq_true_eq, if_not2, ge_iff_le, gt_iff_lt, fst_ret, Bool.false_eq_true, decide_false]
  rfl

def RisingP (l : List Int) (a b : Int) : Prop := (EachP l fun i x => a ≤ x ∧ x ≤ b ∧ (0 < i → getI l (i - 1) < x)) ∧ 0 < l.length ∧ l.length ≤ 16

theorem num_Rising_spec {l : List Int} {a b : Int} (hl : Few l) : num_Rising l a b = some (decide (RisingP l a b)) := by
  unfold num_Rising
  rw [loop_each l (fun i x => a ≤ x ∧ x ≤ b ∧ (0 < i → getI l (i - 1) < x)) (.inl ()) (.inr ()) hl (fun i h0 h1 h2 => by
    by_cases hi : 0 < i
    · have h3 : inL l (i - 1) := ⟨by omega, by omega⟩
      simp (disch := omega) only [num_Rising_L1, h1, hi, nth_getI h2, wr64, nth_getI h3, bind_ite, Option.bind_some, dif1, dif2, dif3, dif4, dif5, dif6, dif7, dnot, ibeq, ibne, decide_eq_true_eq, if_not2, ge_iff_le, gt_iff_lt, fst_ret, Bool.false_eq_true, decide_false, decide_true, if_true]
      grind
    · simp (disch := omega) only [num_Rising_L1, h1, hi, nth_getI h2, wr64, bind_ite, Option.bind_some, dif1, dif2, dif3, dif4, dif5, dif6, dif7, dnot, ibeq, ibne, decide_eq_true_eq, if_not2, ge_iff_le, gt_iff_lt, fst_ret, Bool.false_eq_true, decide_false, decide_true, if_true]
      grind) (by simp [num_Rising_L1])]
  simp only [bind_ite, Option.bind_some, dif1, dif2, dif3, dif4, dif5, dif6, dif7, dnot, ibeq, ibne, decide_eq_true_eq, if_not2, ge_iff_le, gt_iff_lt, fst_ret, Bool.false_eq_true, decide_false]
  refine sdec (and_congr Iff.rfl ?_)
  omega

def RiseP (l : List Int) (b : Int) : Prop := l = [] ∨ RisingP l 1 b
theorem rising_spec {l : List Int} {b : Int} (hl : Few l) : names_rising l b = some (decide (RiseP l b)) := by
  simp only [names_rising, num_Rising_spec hl, bind_ite, Option.bind_some, dif1, dif2, dif3, dif4, dif5, dif6, dif7, dnot, ibeq, ibne, decide_eq_true_eq, if_not2, ge_iff_le, gt_iff_lt, fst_ret, Bool.false_eq_true, decide_false]
  refine sdec ?_
  unfold RiseP
  cases l <;> simp; omega

def PortP (n : Api_Net) (i : Int) (p : Api_Port) : Prop :=
  inL n.devices p.dev ∧ 0 ≤ p.native ∧ p.native ≤ 4094 ∧ RiseP p.tagged 4094 ∧ p.native ∉ p.tagged ∧ ¬ (p.native = 0 ∧ p.tagged = []) ∧ (∀ v ∈ p.tagged, 0 ≤ domIx n.domains p.dev v) ∧
  (0 < p.native → 0 ≤ domIx n.domains p.dev p.native) ∧ (p.link = -1 ∨ inL n.links p.link ∧ ((getI n.links p.link).a = i ∨ (getI n.links p.link).b = i))

theorem judge_port_spec {n : Api_Net} (hs : SmN n) {i : Int} {p : Api_Port} (hp : Few p.tagged) : names_judge_port ⟨n⟩ i p = some (decide (PortP n i p)) := by
  have hl : loopM (names_judge_port_L2 ⟨n⟩ i p) 0 = if ∀ v ∈ p.tagged, 0 ≤ domIx n.domains p.dev v then some (.inr ()) else some (.inl ()) := by
    rw [loop_each p.tagged (fun _ v => 0 ≤ domIx n.domains p.dev v) (.inl ()) (.inr ()) hp (fun j h0 h1 h2 => by
      simp (disch := omega) only [names_judge_port_L2, judge_domain_spec (j := ⟨n⟩) hs.domains, nth_getI h2, wr64, h1, bind_ite, Option.bind_some, dif1, dif2, dif3, dif4, dif5, dif6, dif7, dnot, ibeq, ibne, decide_eq_true_eq, if_not2, ge_iff_le, gt_iff_lt, fst_ret, Bool.false_eq_true, decide_false, mrg1, mrg2, mrg3, mrg4, mrg5, mrg6, mrg7, decide_true, if_true]
      exact fneg (by omega)) (by simp [names_judge_port_L2])]
    simp only [eachP_mem]
  have h3 : ((p.tagged.length : Int) = 0) ↔ p.tagged = [] := by simp
  by_cases c : inL n.links p.link <;>
    simp only [names_judge_port, names_judge_port_J1, names_judge_port_J3, place_Device_spec, place_Link_spec, rising_spec hp, Contains_int_spec hp, hl, judge_domain_spec (j := ⟨n⟩) hs.domains, nth_getI, c, h3, bind_ite, Option.bind_some, dif1, dif2, dif3, dif4, dif5, dif6, dif7, dnot, ibeq, ibne, decide_eq_true_eq, if_not2, ge_iff_le, gt_iff_lt, fst_ret, Bool.false_eq_true, decide_false, mrg1, mrg2, mrg3, mrg4, mrg5, mrg6, mrg7, decide_true, if_true, if_false, decide_false] <;>
    refine sdec ?_ <;> unfold PortP <;> simp only [c] <;> clear hl <;>
    generalize (∀ v ∈ p.tagged, 0 ≤ domIx n.domains p.dev v) = A <;>
    generalize domIx n.domains p.dev p.native = B <;>
    generalize RiseP p.tagged 4094 = C <;>
    generalize inL n.devices p.dev = E <;>
    generalize (p.native ∈ p.tagged) = G <;>
    generalize (p.tagged = []) = F <;> grind

def LinkP (n : Api_Net) (i : Int) (l : Api_Link) : Prop :=
  inL n.ports l.a ∧ inL n.ports l.b ∧ (getI n.ports l.a).dev ≠ (getI n.ports l.b).dev ∧ (getI n.ports l.a).link = i ∧ (getI n.ports l.b).link = i
theorem judge_link_spec {n : Api_Net} {i : Int} {l : Api_Link} : names_judge_link ⟨n⟩ i l = some (decide (LinkP n i l)) := by
  simp +contextual only [names_judge_link, place_Port_spec, nth_getI, bind_ite, Option.bind_some, dif1, dif2, dif3, dif4, dif5, dif6, dif7, dnot, ibeq, ibne, decide_eq_true_eq, if_not2, ge_iff_le, gt_iff_lt, fst_ret, Bool.false_eq_true, decide_false]
  exact sdec (by unfold LinkP; grind)

def MemP (p : Api_Port) (v : Int) : Prop := v ≠ 0 ∧ (v = p.native ∨ v ∈ p.tagged)
theorem Member_spec {p : Api_Port} {v : Int} (hp : Few p.tagged) : names_Member p v = some (decide (MemP p v)) := by
  simp +contextual only [names_Member, Contains_int_spec hp, bind_ite, Option.bind_some, dif1, dif2, dif3, dif4, dif5, dif6, dif7, dnot, ibeq, ibne, decide_eq_true_eq, if_not2, ge_iff_le, gt_iff_lt, fst_ret, Bool.false_eq_true, decide_false]
  exact sdec Iff.rfl

def StaticP (n : Api_Net) (s : Api_Static) : Prop :=
  inL n.domains s.domain ∧ inL n.ports s.port ∧ (getI n.ports s.port).dev = (getI n.domains s.domain).dev ∧ MemP (getI n.ports s.port) (getI n.domains s.domain).vlan
theorem judge_static_spec {n : Api_Net} (hs : SmN n) {i : Int} {s : Api_Static} : names_judge_static ⟨n⟩ i s = some (decide (StaticP n s)) := by
  have hp : inL n.ports s.port → Few (getI n.ports s.port).tagged := fun h => hs.tagged _ (getI_mem h)
  simp +contextual only [names_judge_static, place_Port_spec, place_Domain_spec, Member_spec, hp, nth_getI, bind_ite, Option.bind_some, dif1, dif2, dif3, dif4, dif5, dif6, dif7, dnot, ibeq, ibne, decide_eq_true_eq, if_not2, ge_iff_le, gt_iff_lt, fst_ret, Bool.false_eq_true, decide_false]
  exact sdec Iff.rfl

def FloodP (n : Api_Net) (f : Api_Flood) : Prop := inL n.devices f.dev ∧ f.addrs.length ≤ 16
theorem Right_1_spec {n : Api_Net} {i : Int} {f : Api_Flood} : names_Right_1 i f n = some (decide (FloodP n f)) := by
  simp +contextual only [names_Right_1, place_Device_spec, bind_ite, Option.bind_some, dif1, dif2, dif3, dif4, dif5, dif6, dif7, dnot, ibeq, ibne, decide_eq_true_eq, if_not2, ge_iff_le, gt_iff_lt, fst_ret, Bool.false_eq_true, decide_false]
  exact sdec (and_congr Iff.rfl (by omega))

def VrfP (n : Api_Net) (f : Api_Vrf) : Prop := inL n.devices f.dev ∧ RiseP f.imports 65535 ∧ RiseP f.exports 65535
theorem Right_2_spec {n : Api_Net} {i : Int} {f : Api_Vrf} (h1 : Few f.imports) (h2 : Few f.exports) : names_Right_2 i f n = some (decide (VrfP n f)) := by
  simp +contextual only [names_Right_2, place_Device_spec, rising_spec h1, rising_spec h2, bind_ite, Option.bind_some, dif1, dif2, dif3, dif4, dif5, dif6, dif7, dnot, ibeq, ibne, decide_eq_true_eq, if_not2, ge_iff_le, gt_iff_lt, fst_ret, Bool.false_eq_true, decide_false]
  exact sdec Iff.rfl

def IrbP (n : Api_Net) (i : Int) (x : Api_Irb) : Prop :=
  inL n.domains x.domain ∧ inL n.vrfs x.vrf ∧ (getI n.domains x.domain).dev = (getI n.vrfs x.vrf).dev ∧ (getI n.domains x.domain).irb = i ∧ 1 ≤ x.net.bits ∧ x.net.bits ≤ 30
theorem judge_irb_spec {n : Api_Net} {i : Int} {x : Api_Irb} : names_judge_irb ⟨n⟩ i x = some (decide (IrbP n i x)) := by
  simp +contextual only [names_judge_irb, place_Vrf_spec, place_Domain_spec, nth_getI, bind_ite, Option.bind_some, dif1, dif2, dif3, dif4, dif5, dif6, dif7, dnot, ibeq, ibne, decide_eq_true_eq, if_not2, ge_iff_le, gt_iff_lt, fst_ret, Bool.false_eq_true, decide_false]
  exact sdec Iff.rfl

def FewP (n : Api_Net) : Prop := n.devices.length ≤ 8 ∧ n.ports.length ≤ 40 ∧ n.links.length ≤ 20 ∧ n.domains.length ≤ 48 ∧ n.statics.length ≤ 64 ∧ n.floods.length ≤ 48 ∧ n.vrfs.length ≤ 16 ∧ n.irbs.length ≤ 48
theorem judge_few_spec {n : Api_Net} : names_judge_few ⟨n⟩ = some (decide (FewP n)) := by
  simp +contextual only [names_judge_few, bind_ite, Option.bind_some, dif1, dif2, dif3, dif4, dif5, dif6, dif7, dnot, ibeq, ibne, decide_eq_true_eq, if_not2, ge_iff_le, gt_iff_lt, fst_ret, Bool.false_eq_true, decide_false]
  exact sdec (by unfold FewP; omega)

structure RightP (n : Api_Net) : Prop where
  few : FewP n
  bare : EachP n.domains (BareP n)
  peers : EachP n.domains (PeersP n)
  ports : EachP n.ports (PortP n)
  links : EachP n.links (LinkP n)
  statics : EachP n.statics fun _ x => StaticP n x
  floods : EachP n.floods fun _ x => FloodP n x
  vrfs : EachP n.vrfs fun _ x => VrfP n x
  irbs : EachP n.irbs (IrbP n)
theorem rightP_iff {n : Api_Net} : RightP n ↔ FewP n ∧ EachP n.domains (BareP n) ∧ EachP n.domains (PeersP n) ∧ EachP n.ports (PortP n) ∧ EachP n.links (LinkP n) ∧ EachP n.statics (fun _ x => StaticP n x) ∧
    EachP n.floods (fun _ x => FloodP n x) ∧ EachP n.vrfs (fun _ x => VrfP n x) ∧ EachP n.irbs (IrbP n) :=
  ⟨fun ⟨a, b, c, d, e, f, g, h, i⟩ => ⟨a, b, c, d, e, f, g, h, i⟩, fun ⟨a, b, c, d, e, f, g, h, i⟩ => ⟨a, b, c, d, e, f, g, h, i⟩⟩

section
variable {n : Api_Net}
theorem all_bare_spec (hs : SmN n) : names_all_Domain_judge_bare n.domains ⟨n⟩ = some (decide (EachP n.domains (BareP n))) := by
  unfold names_all_Domain_judge_bare
  rw [loop_each n.domains (BareP n) (.inl ()) (.inr ()) hs.domains (fun i h0 h1 h2 => by
    have := hs.domains
    simp (disch := omega) only [names_all_Domain_judge_bare_L1, h1, nth_getI h2, wr64, judge_bare_spec (n := n) hs.domains, bind_ite, Option.bind_some, dif1, dif2, dif3, dif4, dif5, dif6, dif7, dnot, ibeq, ibne, decide_eq_true_eq, if_not2, ge_iff_le, gt_iff_lt, fst_ret, Bool.false_eq_true, decide_false, decide_true, if_true]; split <;> rfl) (by simp [names_all_Domain_judge_bare_L1])]
  simp only [bind_ite, Option.bind_some, dif1, dif2, dif3, dif4, dif5, dif6, dif7, dnot, ibeq, ibne, decide_eq_true_eq, if_not2, ge_iff_le, gt_iff_lt, fst_ret, Bool.false_eq_true, decide_false]
theorem all_peers_spec (hs : SmN n) (hb : EachP n.domains (BareP n)) : names_all_Domain_judge_peers n.domains ⟨n⟩ = some (decide (EachP n.domains (PeersP n))) := by
  unfold names_all_Domain_judge_peers
  rw [loop_each n.domains (PeersP n) (.inl ()) (.inr ()) hs.domains (fun i h0 h1 h2 => by
    have := hs.domains
    simp (disch := omega) only [names_all_Domain_judge_peers_L1, h1, nth_getI h2, wr64, judge_peers_spec (n := n) hs (hb i h2).1 (hs.peers _ (getI_mem h2)), bind_ite, Option.bind_some, dif1, dif2, dif3, dif4, dif5, dif6, dif7, dnot, ibeq, ibne, decide_eq_true_eq, if_not2, ge_iff_le, gt_iff_lt, fst_ret, Bool.false_eq_true, decide_false, decide_true, if_true]; split <;> rfl) (by simp [names_all_Domain_judge_peers_L1])]
  simp only [bind_ite, Option.bind_some, dif1, dif2, dif3, dif4, dif5, dif6, dif7, dnot, ibeq, ibne, decide_eq_true_eq, if_not2, ge_iff_le, gt_iff_lt, fst_ret, Bool.false_eq_true, decide_false]
theorem all_port_spec (hs : SmN n) : names_all_Port_judge_port n.ports ⟨n⟩ = some (decide (EachP n.ports (PortP n))) := by
  unfold names_all_Port_judge_port
  rw [loop_each n.ports (PortP n) (.inl ()) (.inr ()) hs.ports (fun i h0 h1 h2 => by
    have := hs.ports
    simp (disch := omega) only [names_all_Port_judge_port_L1, h1, nth_getI h2, wr64, judge_port_spec (n := n) hs (hs.tagged _ (getI_mem h2)), bind_ite, Option.bind_some, dif1, dif2, dif3, dif4, dif5, dif6, dif7, dnot, ibeq, ibne, decide_eq_true_eq, if_not2, ge_iff_le, gt_iff_lt, fst_ret, Bool.false_eq_true, decide_false, decide_true, if_true]; split <;> rfl) (by simp [names_all_Port_judge_port_L1])]
  simp only [bind_ite, Option.bind_some, dif1, dif2, dif3, dif4, dif5, dif6, dif7, dnot, ibeq, ibne, decide_eq_true_eq, if_not2, ge_iff_le, gt_iff_lt, fst_ret, Bool.false_eq_true, decide_false]
theorem all_link_spec (hs : SmN n) : names_all_Link_judge_link n.links ⟨n⟩ = some (decide (EachP n.links (LinkP n))) := by
  unfold names_all_Link_judge_link
  rw [loop_each n.links (LinkP n) (.inl ()) (.inr ()) hs.links (fun i h0 h1 h2 => by
    have := hs.links
    simp (disch := omega) only [names_all_Link_judge_link_L1, h1, nth_getI h2, wr64, judge_link_spec (n := n), bind_ite, Option.bind_some, dif1, dif2, dif3, dif4, dif5, dif6, dif7, dnot, ibeq, ibne, decide_eq_true_eq, if_not2, ge_iff_le, gt_iff_lt, fst_ret, Bool.false_eq_true, decide_false, decide_true, if_true]; split <;> rfl) (by simp [names_all_Link_judge_link_L1])]
  simp only [bind_ite, Option.bind_some, dif1, dif2, dif3, dif4, dif5, dif6, dif7, dnot, ibeq, ibne, decide_eq_true_eq, if_not2, ge_iff_le, gt_iff_lt, fst_ret, Bool.false_eq_true, decide_false]
theorem all_static_spec (hs : SmN n) : names_all_Static_judge_static n.statics ⟨n⟩ = some (decide (EachP n.statics fun _ x => StaticP n x)) := by
  unfold names_all_Static_judge_static
  rw [loop_each n.statics (fun _ x => StaticP n x) (.inl ()) (.inr ()) hs.statics (fun i h0 h1 h2 => by
    have := hs.statics
    simp (disch := omega) only [names_all_Static_judge_static_L1, h1, nth_getI h2, wr64, judge_static_spec (n := n) hs, bind_ite, Option.bind_some, dif1, dif2, dif3, dif4, dif5, dif6, dif7, dnot, ibeq, ibne, decide_eq_true_eq, if_not2, ge_iff_le, gt_iff_lt, fst_ret, Bool.false_eq_true, decide_false, decide_true, if_true]; split <;> rfl) (by simp [names_all_Static_judge_static_L1])]
  simp only [bind_ite, Option.bind_some, dif1, dif2, dif3, dif4, dif5, dif6, dif7, dnot, ibeq, ibne, decide_eq_true_eq, if_not2, ge_iff_le, gt_iff_lt, fst_ret, Bool.false_eq_true, decide_false]
theorem all_flood_spec (hs : SmN n) : names_all_Flood_Right_1 n.floods n = some (decide (EachP n.floods fun _ x => FloodP n x)) := by
  unfold names_all_Flood_Right_1
  rw [loop_each n.floods (fun _ x => FloodP n x) (.inl ()) (.inr ()) hs.floods (fun i h0 h1 h2 => by
    have := hs.floods
    simp (disch := omega) only [names_all_Flood_Right_1_L1, h1, nth_getI h2, wr64, Right_1_spec, bind_ite, Option.bind_some, dif1, dif2, dif3, dif4, dif5, dif6, dif7, dnot, ibeq, ibne, decide_eq_true_eq, if_not2, ge_iff_le, gt_iff_lt, fst_ret, Bool.false_eq_true, decide_false, decide_true, if_true]; split <;> rfl) (by simp [names_all_Flood_Right_1_L1])]
  simp only [bind_ite, Option.bind_some, dif1, dif2, dif3, dif4, dif5, dif6, dif7, dnot, ibeq, ibne, decide_eq_true_eq, if_not2, ge_iff_le, gt_iff_lt, fst_ret, Bool.false_eq_true, decide_false]
theorem all_vrf_spec (hs : SmN n) : names_all_Vrf_Right_2 n.vrfs n = some (decide (EachP n.vrfs fun _ x => VrfP n x)) := by
  unfold names_all_Vrf_Right_2
  rw [loop_each n.vrfs (fun _ x => VrfP n x) (.inl ()) (.inr ()) hs.vrfs (fun i h0 h1 h2 => by
    have := hs.vrfs
    simp (disch := omega) only [names_all_Vrf_Right_2_L1, h1, nth_getI h2, wr64, Right_2_spec (hs.imports _ (getI_mem h2)) (hs.exports _ (getI_mem h2)), bind_ite, Option.bind_some, dif1, dif2, dif3, dif4, dif5, dif6, dif7, dnot, ibeq, ibne, decide_eq_true_eq, if_not2, ge_iff_le, gt_iff_lt, fst_ret, Bool.false_eq_true, decide_false, decide_true, if_true]; split <;> rfl) (by simp [names_all_Vrf_Right_2_L1])]
  simp only [bind_ite, Option.bind_some, dif1, dif2, dif3, dif4, dif5, dif6, dif7, dnot, ibeq, ibne, decide_eq_true_eq, if_not2, ge_iff_le, gt_iff_lt, fst_ret, Bool.false_eq_true, decide_false]
theorem all_irb_spec (hs : SmN n) : names_all_Irb_judge_irb n.irbs ⟨n⟩ = some (decide (EachP n.irbs (IrbP n))) := by
  unfold names_all_Irb_judge_irb
  rw [loop_each n.irbs (IrbP n) (.inl ()) (.inr ()) hs.irbs (fun i h0 h1 h2 => by
    have := hs.irbs
    simp (disch := omega) only [names_all_Irb_judge_irb_L1, h1, nth_getI h2, wr64, judge_irb_spec (n := n), bind_ite, Option.bind_some, dif1, dif2, dif3, dif4, dif5, dif6, dif7, dnot, ibeq, ibne, decide_eq_true_eq, if_not2, ge_iff_le, gt_iff_lt, fst_ret, Bool.false_eq_true, decide_false, decide_true, if_true]; split <;> rfl) (by simp [names_all_Irb_judge_irb_L1])]
  simp only [bind_ite, Option.bind_some, dif1, dif2, dif3, dif4, dif5, dif6, dif7, dnot, ibeq, ibne, decide_eq_true_eq, if_not2, ge_iff_le, gt_iff_lt, fst_ret, Bool.false_eq_true, decide_false]

theorem names_Right_spec (hs : SmN n) : names_Right n = some (decide (RightP n)) := by
  by_cases hb : EachP n.domains (BareP n)
  · simp only [names_Right, judge_few_spec, all_bare_spec hs, all_peers_spec hs hb, all_port_spec hs, all_link_spec hs, all_static_spec hs, all_flood_spec hs, all_vrf_spec hs, all_irb_spec hs, bind_ite, Option.bind_some, dif1, dif2, dif3, dif4, dif5, dif6, dif7, dnot, ibeq, ibne, decide_eq_true_eq, if_not2, ge_iff_le, gt_iff_lt, fst_ret, Bool.false_eq_true, decide_false]
    exact sdec rightP_iff.symm
  · have : ¬ RightP n := fun h => hb h.bare
    simp only [names_Right, judge_few_spec, all_bare_spec hs, hb, this, bind_ite, Option.bind_some, dif1, dif2, dif3, dif4, dif5, dif6, dif7, dnot, ibeq, ibne, decide_eq_true_eq, if_not2, ge_iff_le, gt_iff_lt, fst_ret, Bool.false_eq_true, decide_false, decide_false, if_false, Bool.false_eq_true]
    simp

structure BndN (n : Api_Net) (a b : Nat) : Prop where
  devices : n.devices.length ≤ a
  ports : n.ports.length ≤ a
  links : n.links.length ≤ a
  domains : n.domains.length ≤ a
  statics : n.statics.length ≤ a
  floods : n.floods.length ≤ a
  vrfs : n.vrfs.length ≤ a
  irbs : n.irbs.length ≤ a
  tagged : ∀ p ∈ n.ports, p.tagged.length ≤ b
  peers : ∀ d ∈ n.domains, d.peers.length ≤ b
  addrs : ∀ f ∈ n.floods, f.addrs.length ≤ b
  imports : ∀ v ∈ n.vrfs, v.imports.length ≤ b
  exports : ∀ v ∈ n.vrfs, v.exports.length ≤ b
theorem BndN.sm {a b : Nat} (h : BndN n a b) (ha : a ≤ 1000000 := by decide) (hb : b ≤ 1000000 := by decide) : SmN n :=
  ⟨few_of h.devices ha, few_of h.ports ha, few_of h.links ha, few_of h.domains ha, few_of h.statics ha, few_of h.floods ha, few_of h.vrfs ha, few_of h.irbs ha,
    fun p q => few_of (h.tagged p q) hb, fun p q => few_of (h.peers p q) hb, fun p q => few_of (h.addrs p q) hb, fun p q => few_of (h.imports p q) hb, fun p q => few_of (h.exports p q) hb⟩
theorem Great_spec : palinglaw15_Great n = some (decide (¬ BndN n 200 100)) := by
  unfold palinglaw15_Great
  simp only [bind_ite, Option.bind_some, dif1, dif2, dif3, dif4, dif5, dif6, dif7, dnot, ibeq, ibne, decide_eq_true_eq, if_not2, ge_iff_le, gt_iff_lt, fst_ret, Bool.false_eq_true, decide_false]
  by_cases h1 : (200 : Int) < n.devices.length
  · have : ¬ BndN n 200 100 := fun h => by have := h.devices; omega
    simp [h1, this]
  by_cases h2 : (200 : Int) < n.ports.length
  · have : ¬ BndN n 200 100 := fun h => by have := h.ports; omega
    simp [h1, h2, this]
  by_cases h3 : (200 : Int) < n.links.length
  · have : ¬ BndN n 200 100 := fun h => by have := h.links; omega
    simp [h1, h2, h3, this]
  by_cases h4 : (200 : Int) < n.domains.length
  · have : ¬ BndN n 200 100 := fun h => by have := h.domains; omega
    simp [h1, h2, h3, h4, this]
  by_cases h5 : (200 : Int) < n.statics.length
  · have : ¬ BndN n 200 100 := fun h => by have := h.statics; omega
    simp [h1, h2, h3, h4, h5, this]
  by_cases h6 : (200 : Int) < n.floods.length
  · have : ¬ BndN n 200 100 := fun h => by have := h.floods; omega
    simp [h1, h2, h3, h4, h5, h6, this]
  by_cases h7 : (200 : Int) < n.vrfs.length
  · have : ¬ BndN n 200 100 := fun h => by have := h.vrfs; omega
    simp [h1, h2, h3, h4, h5, h6, h7, this]
  by_cases h8 : (200 : Int) < n.irbs.length
  · have : ¬ BndN n 200 100 := fun h => by have := h.irbs; omega
    simp [h1, h2, h3, h4, h5, h6, h7, h8, this]
  simp only [h1, h2, h3, h4, h5, h6, h7, h8, if_false]
  rw [loop_each n.ports (fun _ p => ¬ 100 < (p.tagged.length : Int)) (.inl ()) (.inr ()) (by omega) (fun i g0 g1 g2 => by
    simp (disch := omega) only [palinglaw15_Great_L1, g1, nth_getI g2, wr64, bind_ite, Option.bind_some, dif1, dif2, dif3, dif4, dif5, dif6, dif7, dnot, ibeq, ibne, decide_eq_true_eq, if_not2, ge_iff_le, gt_iff_lt, fst_ret, Bool.false_eq_true, decide_false, decide_true, if_true]; split <;> rfl) (by simp [palinglaw15_Great_L1]),
   loop_each n.domains (fun _ p => ¬ 100 < (p.peers.length : Int)) (.inl ()) (.inr ()) (by omega) (fun i g0 g1 g2 => by
    simp (disch := omega) only [palinglaw15_Great_L2, g1, nth_getI g2, wr64, bind_ite, Option.bind_some, dif1, dif2, dif3, dif4, dif5, dif6, dif7, dnot, ibeq, ibne, decide_eq_true_eq, if_not2, ge_iff_le, gt_iff_lt, fst_ret, Bool.false_eq_true, decide_false, decide_true, if_true]; split <;> rfl) (by simp [palinglaw15_Great_L2]),
   loop_each n.floods (fun _ p => ¬ 100 < (p.addrs.length : Int)) (.inl ()) (.inr ()) (by omega) (fun i g0 g1 g2 => by
    simp (disch := omega) only [palinglaw15_Great_L3, g1, nth_getI g2, wr64, bind_ite, Option.bind_some, dif1, dif2, dif3, dif4, dif5, dif6, dif7, dnot, ibeq, ibne, decide_eq_true_eq, if_not2, ge_iff_le, gt_iff_lt, fst_ret, Bool.false_eq_true, decide_false, decide_true, if_true]; split <;> rfl) (by simp [palinglaw15_Great_L3]),
   loop_each n.vrfs (fun _ p => ¬ 100 < (p.imports.length : Int) ∧ ¬ 100 < (p.exports.length : Int)) (.inl ()) (.inr ()) (by omega) (fun i g0 g1 g2 => by
    simp (disch := omega) only [palinglaw15_Great_L4, g1, nth_getI g2, wr64, bind_ite, Option.bind_some, dif1, dif2, dif3, dif4, dif5, dif6, dif7, dnot, ibeq, ibne, decide_eq_true_eq, if_not2, ge_iff_le, gt_iff_lt, fst_ret, Bool.false_eq_true, decide_false, decide_true, if_true]; grind) (by simp [palinglaw15_Great_L4])]
  simp only [bind_ite, Option.bind_some, dif1, dif2, dif3, dif4, dif5, dif6, dif7, dnot, ibeq, ibne, decide_eq_true_eq, if_not2, ge_iff_le, gt_iff_lt, fst_ret, Bool.false_eq_true, decide_false, eachP_mem]
  refine sdec ?_
  constructor
  · intro h hb
    have := hb.tagged; have := hb.peers; have := hb.addrs; have := hb.imports; have := hb.exports
    grind
  · intro h
    apply Classical.byContradiction
    intro hn
    refine h ⟨by omega, by omega, by omega, by omega, by omega, by omega, by omega, by omega, ?_, ?_, ?_, ?_, ?_⟩ <;> grind
end

end Go.Eng

set_option linter.unusedVariables false
set_option linter.unusedSectionVars false
set_option linter.unusedSimpArgs false
namespace Go.Eng
open Go Classical
attribute [local congr] ite_cg
section
variable {n : Api_Net}
def InDom (n : Api_Net) (k : Int) (p : Api_Port) : Prop := p.dev = (getI n.domains k).dev ∧ MemP p (getI n.domains k).vlan
noncomputable def membersL (n : Api_Net) (k : Int) : List Int := gatherI n.ports (fun _ p => InDom n k p) (fun i _ => i)
end
end Go.Eng

set_option linter.unusedVariables false
set_option linter.unusedSectionVars false
set_option linter.unusedSimpArgs false
namespace Go.Eng
open Go Classical
attribute [local congr] ite_cg
section
variable {n : Api_Net}
end
end Go.Eng

set_option linter.unusedVariables false
set_option linter.unusedSectionVars false
set_option linter.unusedSimpArgs false
namespace Go.Eng
open Go Classical
attribute [local congr] ite_cg
section
variable {n : Api_Net}
theorem names_Members_spec (hs : SmN n) {k : Int} : names_Members n k = some (if RightP n ∧ inL n.domains k then membersL n k else []) := by
  by_cases hr : RightP n
  case neg => simp [names_Members, names_Right_spec hs, hr]
  by_cases hk : inL n.domains k
  case neg => simp [names_Members, names_Right_spec hs, place_Domain_spec, hr, hk]
  simp only [names_Members, names_Right_spec hs, place_Domain_spec, hr, hk, decide_true, and_self, if_true, Option.bind_some]
  rw [loop_gather n.ports (fun _ p => InDom n k p) (fun i _ => i) (out := id) hs.ports (fun i s h0 h1 h2 h3 => by
    have h4 := hs.ports
    have h5 : roomy 8 (s ++ [i]) = true := roomy_few (by simp; omega)
    simp (disch := omega) only [names_Members_L1, h1, nth_getI h2, nth_getI hk, Member_spec (hs.tagged _ (getI_mem h2)), wr64, h5, bind_ite, Option.bind_some, dif1, dif2, dif3, dif4, dif5, dif6, dif7, dnot, ibeq, ibne, decide_eq_true_eq, if_not2, ge_iff_le, gt_iff_lt, fst_ret, Bool.false_eq_true, decide_false, decide_true, if_true, InDom]
    grind) (fun s => by simp [names_Members_L1])]
  rfl

end
end Go.Eng

set_option linter.unusedVariables false
set_option linter.unusedSectionVars false
set_option linter.unusedSimpArgs false
namespace Go.Eng
open Go Classical
attribute [local congr] ite_cg
variable {n : Api_Net}

noncomputable def othI (n : Api_Net) (p : Int) : Int :=
  if RightP n ∧ inL n.ports p ∧ 0 ≤ (getI n.ports p).link then
    (if (getI n.links (getI n.ports p).link).a = p then (getI n.links (getI n.ports p).link).b else (getI n.links (getI n.ports p).link).a)
  else -1

theorem RightP.link (h : RightP n) {p : Int} (hp : inL n.ports p) (hl : 0 ≤ (getI n.ports p).link) :
    inL n.links (getI n.ports p).link ∧ ((getI n.links (getI n.ports p).link).a = p ∨ (getI n.links (getI n.ports p).link).b = p) := by
  have := (h.ports p hp).2.2.2.2.2.2.2.2
  rcases this with h1 | h1
  · omega
  · exact h1

structure OthP (n : Api_Net) (p q : Int) : Prop where
  ip : inL n.ports p
  iq : inL n.ports q
  ik : inL n.links (getI n.ports p).link
  link : (getI n.ports q).link = (getI n.ports p).link
  dev : (getI n.ports q).dev ≠ (getI n.ports p).dev
  ends : (p = (getI n.links (getI n.ports p).link).a ∧ q = (getI n.links (getI n.ports p).link).b) ∨ (p = (getI n.links (getI n.ports p).link).b ∧ q = (getI n.links (getI n.ports p).link).a)

theorem OthP.back (hr : RightP n) {p q : Int} (h : OthP n p q) : othI n q = p := by
  unfold othI
  have h0 := h.ik.1
  rw [if_pos ⟨hr, h.iq, by rw [h.link]; exact h0⟩, h.link]
  have hd := h.dev
  rcases h.ends with ⟨e1, e2⟩ | ⟨e1, e2⟩
  · rw [if_neg, ← e1]
    intro e
    rw [← e1] at e
    exact hd (by rw [e])
  · rw [if_pos e2.symm, ← e1]

end Go.Eng

set_option linter.unusedVariables false
set_option linter.unusedSectionVars false
set_option linter.unusedSimpArgs false
namespace Go.Eng
open Go Classical
attribute [local congr] ite_cg

theorem rPlace_spec {α : Type} {l : List α} {i : Int} : palingref15_Place i (l.length : Int) = some (decide (inL l i)) := by
  simp only [palingref15_Place, bind_ite, Option.bind_some, dif1, dif2, dif3, dif4, dif5, dif6, dif7, dnot, ibeq, ibne, decide_eq_true_eq, if_not2, ge_iff_le, gt_iff_lt, fst_ret, Bool.false_eq_true, decide_false]; exact sdec Iff.rfl

theorem rAt_spec {n : Api_Net} {a b : Int} (hl : Few n.domains) : palingref15_At n a b = some (domIx n.domains a b) := by
  unfold palingref15_At
  rw [loop_first n.domains (fun d => d.dev = a ∧ d.vlan = b) hl (fun i h0 h1 h2 => by
    simp (disch := omega) only [palingref15_At_L1, h1, nth_getI h2, wr64, bind_ite, Option.bind_some, dif1, dif2, dif3, dif4, dif5, dif6, dif7, dnot, ibeq, ibne, decide_eq_true_eq, if_not2, ge_iff_le, gt_iff_lt, fst_ret, Bool.false_eq_true, decide_false, mrg1, mrg2, mrg3, mrg4, mrg5, mrg6, mrg7, decide_true, if_true]; exact fpos Iff.rfl) (by simp [palingref15_At_L1])]
  simp only [bind_ite, Option.bind_some, dif1, dif2, dif3, dif4, dif5, dif6, dif7, dnot, ibeq, ibne, decide_eq_true_eq, if_not2, ge_iff_le, gt_iff_lt, fst_ret, Bool.false_eq_true, decide_false]
  rfl

theorem rIn_spec {l : List Int} {x : Int} (hl : Few l) : palingref15_In l x = some (decide (x ∈ l)) := by
  unfold palingref15_In
  rw [loop_each l (fun _ y => ¬ y = x) (.inl ()) (.inr ()) hl (fun i h0 h1 h2 => by
    simp (disch := omega) only [palingref15_In_L1, h1, nth_getI h2, wr64, bind_ite, Option.bind_some, dif1, dif2, dif3, dif4, dif5, dif6, dif7, dnot, ibeq, ibne, decide_eq_true_eq, if_not2, ge_iff_le, gt_iff_lt, fst_ret, Bool.false_eq_true, decide_false, mrg1, mrg2, mrg3, mrg4, mrg5, mrg6, mrg7, decide_true, if_true]; exact fpos Iff.rfl) (by simp [palingref15_In_L1])]
  simp only [bind_ite, Option.bind_some, dif1, dif2, dif3, dif4, dif5, dif6, dif7, dnot, ibeq, ibne, decide_eq_true_eq, if_not2, ge_iff_le, gt_iff_lt, fst_ret, Bool.false_eq_true, decide_false, eachP_mem]
  refine sdec ?_
  constructor
  · intro h
    apply Classical.byContradiction
    intro hn
    exact h fun y hy e => hn (e ▸ hy)
  · intro h hn
    exact hn x h rfl

theorem rRising3_spec {l : List Int} {a b : Int} (hl : Few l) : palingref03_Rising l a b = some (decide (RisingP l a b)) := by
  unfold palingref03_Rising
  rw [loop_each l (fun i x => a ≤ x ∧ x ≤ b ∧ (0 < i → getI l (i - 1) < x)) (.inl ()) (.inr ()) hl (fun i h0 h1 h2 => by
    by_cases hi : 0 < i
    · have h3 : inL l (i - 1) := ⟨by omega, by omega⟩
      simp (disch := omega) only [palingref03_Rising_L1, h1, hi, nth_getI h2, wr64, nth_getI h3, bind_ite, Option.bind_some, dif1, dif2, dif3, dif4, dif5, dif6, dif7, dnot, ibeq, ibne, decide_eq_true_eq, if_not2, ge_iff_le, gt_iff_lt, fst_ret, Bool.false_eq_true, decide_false, mrg1, mrg2, mrg3, mrg4, mrg5, mrg6, mrg7, decide_true, if_true]
      exact fneg (by grind)
    · simp (disch := omega) only [palingref03_Rising_L1, h1, hi, nth_getI h2, wr64, bind_ite, Option.bind_some, dif1, dif2, dif3, dif4, dif5, dif6, dif7, dnot, ibeq, ibne, decide_eq_true_eq, if_not2, ge_iff_le, gt_iff_lt, fst_ret, Bool.false_eq_true, decide_false, mrg1, mrg2, mrg3, mrg4, mrg5, mrg6, mrg7, decide_true, if_true, if_false]
      exact fneg (by grind)) (by simp [palingref03_Rising_L1])]
  simp only [bind_ite, Option.bind_some, dif1, dif2, dif3, dif4, dif5, dif6, dif7, dnot, ibeq, ibne, decide_eq_true_eq, if_not2, ge_iff_le, gt_iff_lt, fst_ret, Bool.false_eq_true, decide_false]
  refine sdec ?_
  unfold RisingP
  constructor
  · rintro ⟨h1, h2, h3⟩; exact ⟨h3, by omega, by omega⟩
  · rintro ⟨h1, h2, h3⟩; exact ⟨by omega, by omega, h1⟩

theorem rrising_spec {l : List Int} {b : Int} (hl : Few l) : palingref15_rising l b = some (decide (RiseP l b)) := by
  simp only [palingref15_rising, rRising3_spec hl, bind_ite, Option.bind_some, dif1, dif2, dif3, dif4, dif5, dif6, dif7, dnot, ibeq, ibne, decide_eq_true_eq, if_not2, ge_iff_le, gt_iff_lt, fst_ret, Bool.false_eq_true, decide_false]
  refine sdec ?_
  unfold RiseP
  cases l <;> simp; omega

theorem rMember_spec {p : Api_Port} {v : Int} (hp : Few p.tagged) : palingref15_Member p v = some (decide (MemP p v)) := by
  simp +contextual only [palingref15_Member, rIn_spec hp, bind_ite, Option.bind_some, dif1, dif2, dif3, dif4, dif5, dif6, dif7, dnot, ibeq, ibne, decide_eq_true_eq, if_not2, ge_iff_le, gt_iff_lt, fst_ret, Bool.false_eq_true, decide_false]
  exact sdec (by unfold MemP; grind)

section
variable {n : Api_Net}
theorem rdom1_spec (hs : SmN n) : loopM (palingref15_domains_L1 n) 0 = if EachP n.domains (BareP n) then some (.inr ()) else some (.inl ()) := by
  refine loop_each (ρ := Unit ⊕ Unit) n.domains (BareP n) (.inl ()) (.inr ()) hs.domains (fun i h0 h1 h2 => ?_) (by simp [palingref15_domains_L1])
  have := hs.domains
  by_cases c : inL n.irbs (getI n.domains i).irb <;>
    simp (disch := omega) only [palingref15_domains_L1, h1, nth_getI, h2, c, rPlace_spec, rAt_spec hs.domains, wr64, bind_ite, Option.bind_some, dif1, dif2, dif3, dif4, dif5, dif6, dif7, dnot, ibeq, ibne, decide_eq_true_eq, if_not2, ge_iff_le, gt_iff_lt, fst_ret, Bool.false_eq_true, decide_false, mrg1, mrg2, mrg3, mrg4, mrg5, mrg6, mrg7, decide_true, if_true, if_false, Classical.not_not, not_true_eq_false, not_false_eq_true] <;>
    (first | refine fpos ?_ | refine fneg ?_) <;> unfold BareP <;> grind

theorem rpeer_spec (hs : SmN n) (hb : EachP n.domains (BareP n)) {i k : Int} (hi : inL n.domains i) : palingref15_peer n i k = some (decide (PeerP n i (getI n.domains i) k)) := by
  have hp : inL n.domains k → Few (getI n.domains k).peers := fun h => hs.peers _ (getI_mem h)
  have hd : ∀ {j}, inL n.domains j → inL n.devices (getI n.domains j).dev := fun h => (hb _ h).1
  simp +contextual only [palingref15_peer, rPlace_spec, nth_getI, hi, hd, rIn_spec, hp, bind_ite, Option.bind_some, dif1, dif2, dif3, dif4, dif5, dif6, dif7, dnot, ibeq, ibne, decide_eq_true_eq, if_not2, ge_iff_le, gt_iff_lt, fst_ret, Bool.false_eq_true, decide_false]
  refine sdec ?_
  unfold PeerP vtepP
  grind

theorem rdom2_spec (hs : SmN n) (hb : EachP n.domains (BareP n)) : loopM (palingref15_domains_L2 n) 0 = if EachP n.domains (PeersP n) then some (.inr ()) else some (.inl ()) := by
  refine loop_each (ρ := Unit ⊕ Unit) n.domains (PeersP n) (.inl ()) (.inr ()) hs.domains (fun i h0 h1 h2 => ?_) (by simp [palingref15_domains_L2])
  have hd := hs.domains
  have hp := hs.peers _ (getI_mem h2)
  simp (disch := omega) only [palingref15_domains_L2, h1, nth_getI h2, wr64, bind_ite, Option.bind_some, dif1, dif2, dif3, dif4, dif5, dif6, dif7, dnot, ibeq, ibne, decide_eq_true_eq, if_not2, ge_iff_le, gt_iff_lt, fst_ret, Bool.false_eq_true, decide_false, decide_true, if_true]
  rw [loop_each (getI n.domains i).peers (fun j k => PeerP n i (getI n.domains i) k ∧ fstI (getI n.domains i).peers (fun y => k = y) = j) (.inl ()) (.inr ()) hp (fun j g0 g1 g2 => by
    have hs1 : slok (List.length (getI n.domains i).peers) 0 j = true := by rw [slok_dec]; exact decide_eq_true ⟨by omega, by omega, by omega⟩
    have hft : Few (List.drop (Int.toNat 0) (List.take j.toNat (getI n.domains i).peers)) := by simp [Few] at hp ⊢; omega
    simp (disch := omega) only [palingref15_domains_L3, g1, nth_getI g2, rpeer_spec hs hb h2, hs1, rIn_spec hft, wr64, bind_ite, Option.bind_some, dif1, dif2, dif3, dif4, dif5, dif6, dif7, dnot, ibeq, ibne, decide_eq_true_eq, if_not2, ge_iff_le, gt_iff_lt, fst_ret, Bool.false_eq_true, decide_false, mrg1, mrg2, mrg3, mrg4, mrg5, mrg6, mrg7, decide_true, if_true]
    refine fneg ?_
    rw [fst_take g2]
    simp
    grind) (by simp [palingref15_domains_L3])]
  simp only [bind_ite, Option.bind_some, dif1, dif2, dif3, dif4, dif5, dif6, dif7, dnot, ibeq, ibne, decide_eq_true_eq, if_not2, ge_iff_le, gt_iff_lt, fst_ret, Bool.false_eq_true, decide_false]
  exact fpos Iff.rfl

theorem rdomains_spec (hs : SmN n) : palingref15_domains n = some (decide (EachP n.domains (BareP n) ∧ EachP n.domains (PeersP n))) := by
  unfold palingref15_domains
  rw [rdom1_spec hs]
  by_cases hb : EachP n.domains (BareP n)
  · rw [rdom2_spec hs hb]
    simp only [hb, bind_ite, Option.bind_some, dif1, dif2, dif3, dif4, dif5, dif6, dif7, dnot, ibeq, ibne, decide_eq_true_eq, if_not2, ge_iff_le, gt_iff_lt, fst_ret, Bool.false_eq_true, decide_false, if_true, true_and]
  · simp [hb]

theorem rports_spec (hs : SmN n) : palingref15_ports n = some (decide (EachP n.ports (PortP n))) := by
  unfold palingref15_ports
  rw [loop_each n.ports (PortP n) (.inl ()) (.inr ()) hs.ports (fun i h0 h1 h2 => by
    have hp := hs.tagged _ (getI_mem h2)
    have hps := hs.ports
    have hl : loopM (palingref15_ports_L3 n i (getI n.ports i)) 0 = if ∀ v ∈ (getI n.ports i).tagged, 0 ≤ domIx n.domains (getI n.ports i).dev v then some (.inr ()) else some (.inl ()) := by
      rw [loop_each (getI n.ports i).tagged (fun _ v => 0 ≤ domIx n.domains (getI n.ports i).dev v) (.inl ()) (.inr ()) hp (fun j g0 g1 g2 => by
        simp (disch := omega) only [palingref15_ports_L3, rAt_spec hs.domains, nth_getI g2, wr64, g1, bind_ite, Option.bind_some, dif1, dif2, dif3, dif4, dif5, dif6, dif7, dnot, ibeq, ibne, decide_eq_true_eq, if_not2, ge_iff_le, gt_iff_lt, fst_ret, Bool.false_eq_true, decide_false, mrg1, mrg2, mrg3, mrg4, mrg5, mrg6, mrg7, decide_true, if_true]
        exact fneg (by omega)) (by simp [palingref15_ports_L3])]
      simp only [eachP_mem]
    have h3 : (((getI n.ports i).tagged.length : Int) = 0) ↔ (getI n.ports i).tagged = [] := by simp
    by_cases c : inL n.links (getI n.ports i).link <;>
    simp (disch := omega) only [palingref15_ports_L1, palingref15_ports_J2, h1, nth_getI h2, nth_getI, c, rPlace_spec, rAt_spec hs.domains, rrising_spec hp, rIn_spec hp, hl, h3, wr64, bind_ite, Option.bind_some, dif1, dif2, dif3, dif4, dif5, dif6, dif7, dnot, ibeq, ibne, decide_eq_true_eq, if_not2, ge_iff_le, gt_iff_lt, fst_ret, Bool.false_eq_true, decide_false, mrg1, mrg2, mrg3, mrg4, mrg5, mrg6, mrg7, decide_true, if_true, if_false, Classical.not_not, not_true_eq_false, not_false_eq_true] <;>
    (first | refine fpos ?_ | refine fneg ?_) <;> unfold PortP <;> simp only [c] <;> clear hl <;>
    generalize getI n.ports i = p <;>
    generalize (∀ v ∈ p.tagged, 0 ≤ domIx n.domains p.dev v) = A <;>
    generalize domIx n.domains p.dev p.native = B <;>
    generalize RiseP p.tagged 4094 = C <;>
    generalize inL n.devices p.dev = E <;>
    generalize (p.native ∈ p.tagged) = G <;>
    generalize (p.tagged = []) = F <;> grind) (by simp [palingref15_ports_L1])]
  simp only [bind_ite, Option.bind_some, dif1, dif2, dif3, dif4, dif5, dif6, dif7, dnot, ibeq, ibne, decide_eq_true_eq, if_not2, ge_iff_le, gt_iff_lt, fst_ret, Bool.false_eq_true, decide_false]

theorem rlinks_spec (hs : SmN n) : palingref15_links n = some (decide (EachP n.links (LinkP n))) := by
  unfold palingref15_links
  rw [loop_each n.links (LinkP n) (.inl ()) (.inr ()) hs.links (fun i h0 h1 h2 => by
    have := hs.links
    simp +contextual (disch := omega) only [palingref15_links_L1, h1, nth_getI, h2, rPlace_spec, wr64, bind_ite, Option.bind_some, dif1, dif2, dif3, dif4, dif5, dif6, dif7, dnot, ibeq, ibne, decide_eq_true_eq, if_not2, ge_iff_le, gt_iff_lt, fst_ret, Bool.false_eq_true, decide_false, decide_true, if_true]
    simp only [mrg1, mrg2, mrg3, mrg4, mrg5, mrg6, mrg7, Classical.not_not]
    first | refine fpos ?_ | refine fneg ?_
    unfold LinkP
    grind) (by simp [palingref15_links_L1])]
  simp only [bind_ite, Option.bind_some, dif1, dif2, dif3, dif4, dif5, dif6, dif7, dnot, ibeq, ibne, decide_eq_true_eq, if_not2, ge_iff_le, gt_iff_lt, fst_ret, Bool.false_eq_true, decide_false]

theorem rrest_spec (hs : SmN n) : palingref15_rest n = some (decide (EachP n.statics (fun _ x => StaticP n x) ∧ EachP n.floods (fun _ x => FloodP n x) ∧ EachP n.vrfs (fun _ x => VrfP n x) ∧ EachP n.irbs (IrbP n))) := by
  unfold palingref15_rest
  rw [loop_each n.statics (fun _ x => StaticP n x) (.inl ()) (.inr ()) hs.statics (fun i h0 h1 h2 => by
    have := hs.statics
    have hp : inL n.ports (getI n.statics i).port → ∀ v, palingref15_Member (getI n.ports (getI n.statics i).port) v = some (decide (MemP (getI n.ports (getI n.statics i).port) v)) := fun h v => rMember_spec (hs.tagged _ (getI_mem h))
    simp +contextual (disch := omega) only [palingref15_rest_L1, h1, nth_getI, h2, rPlace_spec, hp, wr64, bind_ite, Option.bind_some, dif1, dif2, dif3, dif4, dif5, dif6, dif7, dnot, ibeq, ibne, decide_eq_true_eq, if_not2, ge_iff_le, gt_iff_lt, fst_ret, Bool.false_eq_true, decide_false, decide_true, if_true]
    simp only [mrg1, mrg2, mrg3, mrg4, mrg5, mrg6, mrg7, Classical.not_not]
    first | refine fpos ?_ | refine fneg ?_
    unfold StaticP
    grind) (by simp [palingref15_rest_L1]),
   loop_each n.floods (fun _ x => FloodP n x) (.inl ()) (.inr ()) hs.floods (fun i h0 h1 h2 => by
    have := hs.floods
    simp +contextual (disch := omega) only [palingref15_rest_L2, h1, nth_getI, h2, rPlace_spec, wr64, bind_ite, Option.bind_some, dif1, dif2, dif3, dif4, dif5, dif6, dif7, dnot, ibeq, ibne, decide_eq_true_eq, if_not2, ge_iff_le, gt_iff_lt, fst_ret, Bool.false_eq_true, decide_false, decide_true, if_true]
    simp only [mrg1, mrg2, mrg3, mrg4, mrg5, mrg6, mrg7, Classical.not_not]
    first | refine fpos ?_ | refine fneg ?_
    unfold FloodP
    grind) (by simp [palingref15_rest_L2]),
   loop_each n.vrfs (fun _ x => VrfP n x) (.inl ()) (.inr ()) hs.vrfs (fun i h0 h1 h2 => by
    have := hs.vrfs
    simp +contextual (disch := omega) only [palingref15_rest_L3, h1, nth_getI, h2, rPlace_spec, rrising_spec (hs.imports _ (getI_mem h2)), rrising_spec (hs.exports _ (getI_mem h2)), wr64, bind_ite, Option.bind_some, dif1, dif2, dif3, dif4, dif5, dif6, dif7, dnot, ibeq, ibne, decide_eq_true_eq, if_not2, ge_iff_le, gt_iff_lt, fst_ret, Bool.false_eq_true, decide_false, decide_true, if_true]
    simp only [mrg1, mrg2, mrg3, mrg4, mrg5, mrg6, mrg7, Classical.not_not]
    first | refine fpos ?_ | refine fneg ?_
    unfold VrfP
    grind) (by simp [palingref15_rest_L3]),
   loop_each n.irbs (IrbP n) (.inl ()) (.inr ()) hs.irbs (fun i h0 h1 h2 => by
    have := hs.irbs
    simp +contextual (disch := omega) only [palingref15_rest_L4, h1, nth_getI, h2, rPlace_spec, wr64, bind_ite, Option.bind_some, dif1, dif2, dif3, dif4, dif5, dif6, dif7, dnot, ibeq, ibne, decide_eq_true_eq, if_not2, ge_iff_le, gt_iff_lt, fst_ret, Bool.false_eq_true, decide_false, decide_true, if_true]
    simp only [mrg1, mrg2, mrg3, mrg4, mrg5, mrg6, mrg7, Classical.not_not]
    first | refine fpos ?_ | refine fneg ?_
    unfold IrbP
    grind) (by simp [palingref15_rest_L4])]
  simp only [bind_ite, Option.bind_some, dif1, dif2, dif3, dif4, dif5, dif6, dif7, dnot, ibeq, ibne, decide_eq_true_eq, if_not2, ge_iff_le, gt_iff_lt, fst_ret, Bool.false_eq_true, decide_false]

theorem rRight_spec (hs : SmN n) : palingref15_Right n = some (decide (RightP n)) := by
  simp only [palingref15_Right, rdomains_spec hs, rports_spec hs, rlinks_spec hs, rrest_spec hs, bind_ite, Option.bind_some, dif1, dif2, dif3, dif4, dif5, dif6, dif7, dnot, ibeq, ibne, decide_eq_true_eq, if_not2, ge_iff_le, gt_iff_lt, fst_ret, Bool.false_eq_true, decide_false]
  refine sdec ?_
  rw [rightP_iff]
  unfold FewP
  constructor
  · rintro ⟨a, b, c, d, e, f, g, h, ⟨i, j⟩, k, l, m⟩; exact ⟨⟨by omega, by omega, by omega, by omega, by omega, by omega, by omega, by omega⟩, i, j, k, l, m⟩
  · rintro ⟨⟨a, b, c, d, e, f, g, h⟩, i, j, k, l, m⟩; exact ⟨by omega, by omega, by omega, by omega, by omega, by omega, by omega, by omega, ⟨i, j⟩, k, l, m⟩
end
end Go.Eng

set_option linter.unusedVariables false
set_option linter.unusedSectionVars false
set_option linter.unusedSimpArgs false
namespace Go.Eng
open Go Classical
attribute [local congr] ite_cg
variable {n : Api_Net}

end Go.Eng

set_option linter.unusedVariables false
set_option linter.unusedSectionVars false
set_option linter.unusedSimpArgs false
namespace Go.Eng
open Go

theorem wr32 {n : Int} (h1 : 0 ≤ n) (h2 : n < 4294967296) : wr_u32 n = n := by
  unfold wr_u32 IntKind.wrap
  simp [IntKind.signed, IntKind.bits]
  omega
theorem wr64u {n : Int} (h1 : 0 ≤ n) (h2 : n < 18446744073709551616) : wr_u64 n = n := by
  unfold wr_u64 IntKind.wrap
  simp [IntKind.signed, IntKind.bits]
  omega
theorem wr8 {n : Int} (h1 : 0 ≤ n) (h2 : n < 256) : wr_u8 n = n := by
  unfold wr_u8 IntKind.wrap
  simp [IntKind.signed, IntKind.bits]
  omega

theorem low_or (X k : Nat) : X ||| (2 ^ k - 1) = X - X % 2 ^ k + (2 ^ k - 1) := by
  have h : X - X % 2 ^ k = (X / 2 ^ k) * 2 ^ k := by have := Nat.div_add_mod X (2 ^ k); rw [Nat.mul_comm] at this; omega
  rw [h, Nat.mul_comm, Nat.two_pow_add_eq_or_of_lt (by have := Nat.two_pow_pos k; omega)]
  apply Nat.eq_of_testBit_eq
  intro i
  simp only [Nat.testBit_or, Nat.testBit_two_pow_sub_one, Nat.testBit_two_pow_mul, Nat.testBit_div_two_pow]
  by_cases hi : i < k
  · simp [hi]
  · have : k ≤ i := by omega
    simp [hi, this]
theorem low_and (X k n : Nat) (hX : X < 2 ^ n) (hk : k ≤ n) : X &&& (2 ^ n - 1 - (2 ^ k - 1)) = X - X % 2 ^ k := by
  have h : X - X % 2 ^ k = 2 ^ k * (X / 2 ^ k) := by have := Nat.div_add_mod X (2 ^ k); omega
  rw [h]
  apply Nat.eq_of_testBit_eq
  intro i
  have hlt : 2 ^ k - 1 < 2 ^ n := by have := Nat.pow_le_pow_right (by decide : 0 < 2) hk; have := Nat.two_pow_pos k; omega
  rw [Nat.testBit_and, show 2 ^ n - 1 - (2 ^ k - 1) = 2 ^ n - (2 ^ k - 1 + 1) from by omega, Nat.testBit_two_pow_sub_succ hlt, Nat.testBit_two_pow_mul, Nat.testBit_div_two_pow, Nat.testBit_two_pow_sub_one]
  by_cases hi : i < k
  · have : ¬ k ≤ i := by omega
    simp [hi, this]
  · have h2 : k ≤ i := by omega
    by_cases hn : i < n
    · simp [hi, h2, hn]
    · have : X.testBit i = false := Nat.testBit_lt_two_pow (Nat.lt_of_lt_of_le hX (Nat.pow_le_pow_right (by decide) (by omega)))
      simp [hi, h2, hn, this]

theorem ofInt_nat (n : Nat) (x : Int) (h1 : 0 ≤ x) : BitVec.ofInt n x = BitVec.ofNat n x.toNat := by
  have h : BitVec.ofInt n ((x.toNat : Nat) : Int) = BitVec.ofNat n x.toNat := BitVec.ofInt_natCast ..
  rwa [show ((x.toNat : Nat) : Int) = x from by omega] at h

theorem or_u32 {x : Int} {k : Nat} (h1 : 0 ≤ x) (h2 : x < 4294967296) (hk : k ≤ 32) : bits_or .u32 x (2 ^ k - 1 : Nat) = x - x % (2 ^ k : Nat) + ((2 ^ k : Nat) - 1) := by
  have hp := Nat.two_pow_pos k
  have hle : 2 ^ k ≤ 4294967296 := Nat.pow_le_pow_right (n := 2) (by decide) hk
  unfold bits_or
  rw [ofInt_nat _ _ h1, ofInt_nat _ _ (by omega), BitVec.toNat_or, BitVec.toNat_ofNat, BitVec.toNat_ofNat]
  simp only [IntKind.bits, Int.toNat_natCast]
  rw [Nat.mod_eq_of_lt (by omega), Nat.mod_eq_of_lt (by omega), low_or]
  have hm : x.toNat % 2 ^ k < 2 ^ k := Nat.mod_lt _ hp
  have hdm := Nat.div_add_mod x.toNat (2 ^ k)
  have hub : x.toNat - x.toNat % 2 ^ k + (2 ^ k - 1) < 4294967296 := by
    have : x.toNat ||| (2 ^ k - 1) < 2 ^ 32 := Nat.or_lt_two_pow (by omega) (by omega)
    rw [low_or] at this; omega
  have hmod : ((x.toNat % 2 ^ k : Nat) : Int) = x % (2 ^ k : Nat) := by rw [Int.natCast_emod]; congr 1; omega
  have hle2 : x.toNat % 2 ^ k ≤ x.toNat := Nat.mod_le _ _
  have := wr32 (n := ((x.toNat - x.toNat % 2 ^ k + (2 ^ k - 1) : Nat) : Int)) (by omega) (by omega)
  unfold wr_u32 at this
  rw [this, ← hmod]
  omega

theorem andNot_u32 {x : Int} {k : Nat} (h1 : 0 ≤ x) (h2 : x < 4294967296) (hk : k ≤ 32) : bits_andNot .u32 x (2 ^ k - 1 : Nat) = x - x % (2 ^ k : Nat) := by
  have hp := Nat.two_pow_pos k
  have hle : 2 ^ k ≤ 4294967296 := Nat.pow_le_pow_right (n := 2) (by decide) hk
  unfold bits_andNot
  rw [ofInt_nat _ _ h1, ofInt_nat _ _ (by omega), BitVec.toNat_and, BitVec.toNat_not, BitVec.toNat_ofNat, BitVec.toNat_ofNat]
  simp only [IntKind.bits, Int.toNat_natCast]
  rw [Nat.mod_eq_of_lt (by omega), Nat.mod_eq_of_lt (by omega), low_and _ k 32 (by omega) hk]
  have hm : x.toNat % 2 ^ k < 2 ^ k := Nat.mod_lt _ hp
  have hmod : ((x.toNat % 2 ^ k : Nat) : Int) = x % (2 ^ k : Nat) := by rw [Int.natCast_emod]; congr 1; omega
  have hle2 : x.toNat % 2 ^ k ≤ x.toNat := Nat.mod_le _ _
  have := wr32 (n := ((x.toNat - x.toNat % 2 ^ k : Nat) : Int)) (by omega) (by omega)
  unfold wr_u32 at this
  rw [this, ← hmod]
  omega

theorem xor_zero {a b : Nat} (h : a ^^^ b = 0) : a = b := by
  apply Nat.eq_of_testBit_eq; intro i
  have := congrArg (fun q => q.testBit i) h
  simp only [Nat.testBit_xor, Nat.zero_testBit] at this
  simpa using this
theorem xor_low {x y k : Nat} : (x ^^^ y) - (x ^^^ y) % 2 ^ k = 0 ↔ x / 2 ^ k = y / 2 ^ k := by
  have h : (x ^^^ y) - (x ^^^ y) % 2 ^ k = 2 ^ k * ((x ^^^ y) / 2 ^ k) := by have := Nat.div_add_mod (x ^^^ y) (2 ^ k); omega
  rw [h]
  have hp := Nat.two_pow_pos k
  have h2 : (x ^^^ y) / 2 ^ k = (x / 2 ^ k) ^^^ (y / 2 ^ k) := by
    apply Nat.eq_of_testBit_eq; intro i
    simp [Nat.testBit_div_two_pow]
  rw [h2]
  constructor
  · intro h3
    have : (x / 2 ^ k) ^^^ (y / 2 ^ k) = 0 := by
      rcases Nat.mul_eq_zero.1 h3 with h4 | h4
      · omega
      · exact h4
    exact xor_zero this
  · intro h3; rw [h3]; simp
theorem xorNot_u32 {x y : Int} {k : Nat} (h1 : 0 ≤ x) (h2 : x < 4294967296) (h3 : 0 ≤ y) (h4 : y < 4294967296) (hk : k ≤ 32) :
    bits_andNot .u32 (bits_xor .u32 x y) (2 ^ k - 1 : Nat) = 0 ↔ x / (2 ^ k : Nat) = y / (2 ^ k : Nat) := by
  have e : bits_xor .u32 x y = ((x.toNat ^^^ y.toNat : Nat) : Int) := by
    unfold bits_xor
    rw [ofInt_nat _ _ h1, ofInt_nat _ _ h3, BitVec.toNat_xor, BitVec.toNat_ofNat, BitVec.toNat_ofNat]
    simp only [IntKind.bits]
    rw [Nat.mod_eq_of_lt (by omega), Nat.mod_eq_of_lt (by omega)]
    have : x.toNat ^^^ y.toNat < 2 ^ 32 := Nat.xor_lt_two_pow (by omega) (by omega)
    exact wr32 (by omega) (by omega)
  have hlt : x.toNat ^^^ y.toNat < 2 ^ 32 := Nat.xor_lt_two_pow (by omega) (by omega)
  rw [e, andNot_u32 (by omega) (by omega) hk]
  have h5 := @xor_low x.toNat y.toNat k
  have h6 : (((x.toNat ^^^ y.toNat) % 2 ^ k : Nat) : Int) = ((x.toNat ^^^ y.toNat : Nat) : Int) % (2 ^ k : Nat) := Int.natCast_emod _ _
  have h7 : ((x.toNat / 2 ^ k : Nat) : Int) = x / (2 ^ k : Nat) := by rw [Int.natCast_ediv]; congr 1; omega
  have h8 : ((y.toNat / 2 ^ k : Nat) : Int) = y / (2 ^ k : Nat) := by rw [Int.natCast_ediv]; congr 1; omega
  rw [← h6, ← h7, ← h8]
  have h9 : (x.toNat ^^^ y.toNat) % 2 ^ k ≤ (x.toNat ^^^ y.toNat) := Nat.mod_le _ _
  constructor
  · intro h; have := h5.1 (by omega); omega
  · intro h; have := h5.2 (by omega); omega
end Go.Eng

set_option linter.unusedVariables false
set_option linter.unusedSectionVars false
set_option linter.unusedSimpArgs false
namespace Go.Eng
open Go Classical
attribute [local congr] ite_cg
theorem seqB_dec {x y : ByteArray} : seqB x y = decide (x = y) := by
  unfold seqB
  rw [Bool.eq_iff_iff]
  simp only [beq_iff_eq, decide_eq_true_eq]
  constructor
  · intro h
    rw [ByteArray.toList_eq, ByteArray.toList_eq] at h
    obtain ⟨⟨x⟩⟩ := x
    obtain ⟨⟨y⟩⟩ := y
    simpa using h
  · intro h; rw [h]

end Go.Eng

set_option linter.unusedVariables false
set_option linter.unusedSectionVars false
set_option linter.unusedSimpArgs false
namespace Go.Eng
open Go Classical
attribute [local congr] ite_cg
section
/-! ### A copy -/
theorem roomyN {α : Type} {l : List α} {b : Nat} (h : Few l) (hb : b ≤ 100000000 := by decide) : roomy b l = true := roomy_few (by unfold Few at h; omega) hb
end
end Go.Eng

set_option linter.unusedVariables false
set_option linter.unusedSectionVars false
set_option linter.unusedSimpArgs false
namespace Go.Eng
open Go Classical
attribute [local congr] ite_cg
section
end
end Go.Eng

set_option linter.unusedVariables false
set_option linter.unusedSectionVars false
set_option linter.unusedSimpArgs false
namespace Go.Eng
open Go Classical
attribute [local congr] ite_cg
section
end
end Go.Eng

set_option linter.unusedVariables false
set_option linter.unusedSectionVars false
set_option linter.unusedSimpArgs false
namespace Go.Eng
open Go Classical
attribute [local congr] ite_cg
section
variable {n : Api_Net}
theorem membersL_in {k p : Int} (h : p ∈ membersL n k) : inL n.ports p := by
  obtain ⟨i, hi, _, rfl⟩ := mem_gatherI.1 h
  exact hi
theorem membersL_len {k : Int} : (membersL n k).length ≤ n.ports.length := gatherI_len
theorem rMembers_spec (hs : SmN n) {k : Int} : palingref15_Members n k = some (if inL n.domains k then membersL n k else []) := by
  by_cases hk : inL n.domains k
  case neg => simp [palingref15_Members, rPlace_spec, hk]
  simp only [palingref15_Members, rPlace_spec, hk, nth_getI hk, decide_true, Bool.not_true, Bool.false_eq_true, if_false, if_true, Option.bind_some]
  rw [loop_gather n.ports (fun _ p => InDom n k p) (fun i _ => i) (out := id) hs.ports (fun i s h0 h1 h2 h3 => by
    have h4 := hs.ports
    have h5 : roomy 8 (s ++ [i]) = true := roomy_few (by simp; omega)
    simp (disch := omega) only [palingref15_Members_L1, h1, nth_getI h2, rMember_spec (hs.tagged _ (getI_mem h2)), wr64, h5, bind_ite, Option.bind_some, dif1, dif2, dif3, dif4, dif5, dif6, dif7, dnot, ibeq, ibne, decide_eq_true_eq, if_not2, ge_iff_le, gt_iff_lt, fst_ret, Bool.false_eq_true, decide_false, decide_true, if_true, InDom]
    grind) (fun s => by simp [palingref15_Members_L1])]
  rfl

end
end Go.Eng

set_option linter.unusedVariables false
set_option linter.unusedSectionVars false
set_option linter.unusedSimpArgs false
namespace Go.Eng
open Go Classical

inductive Conn (E : Int → Int → Prop) : Int → Int → Prop
  | refl (x : Int) : Conn E x x
  | edge {x y : Int} (h : E x y) : Conn E x y
  | symm {x y : Int} (h : Conn E x y) : Conn E y x
  | trans {x y z : Int} (h : Conn E x y) (g : Conn E y z) : Conn E x z

section
variable {E F : Int → Int → Prop}
theorem Conn.mono (h : ∀ x y, E x y → F x y) {x y : Int} (c : Conn E x y) : Conn F x y := by
  induction c with
  | refl x => exact .refl x
  | edge e => exact .edge (h _ _ e)
  | symm _ ih => exact ih.symm
  | trans _ _ i1 i2 => exact i1.trans i2
theorem Conn.congr (h : ∀ x y, E x y ↔ F x y) {x y : Int} : Conn E x y ↔ Conn F x y := ⟨Conn.mono fun x y => (h x y).1, Conn.mono fun x y => (h x y).2⟩
theorem Conn.sub (h : ∀ x y, E x y → Conn F x y) {x y : Int} (c : Conn E x y) : Conn F x y := by
  induction c with
  | refl x => exact .refl x
  | edge e => exact h _ _ e
  | symm _ ih => exact ih.symm
  | trans _ _ i1 i2 => exact i1.trans i2
theorem Conn.inv {β : Type} {T : Int → β} (h : ∀ x y, E x y → T x = T y) {x y : Int} (c : Conn E x y) : T x = T y := by
  induction c with
  | refl x => rfl
  | edge e => exact h _ _ e
  | symm _ ih => exact ih.symm
  | trans _ _ i1 i2 => exact i1.trans i2
theorem Conn.set {P : Int → Prop} (h : ∀ x y, E x y → (P x ↔ P y)) {x y : Int} (c : Conn E x y) : P x ↔ P y := by
  induction c with
  | refl x => exact Iff.rfl
  | edge e => exact h _ _ e
  | symm _ ih => exact ih.symm
  | trans _ _ i1 i2 => exact i1.trans i2
end

structure LeastT (E : Int → Int → Prop) (T : Int → Int) (N : Int) : Prop where
  lo : ∀ x, 0 ≤ x → x < N → 0 ≤ T x
  le : ∀ x, 0 ≤ x → x < N → T x ≤ x
  conn : ∀ x, 0 ≤ x → x < N → Conn E x (T x)
  same : ∀ x y, 0 ≤ x → x < N → 0 ≤ y → y < N → Conn E x y → T x = T y
theorem LeastT.uniq {E F : Int → Int → Prop} {T U : Int → Int} {N : Int} (h : LeastT E T N) (g : LeastT F U N) (e : ∀ x y, Conn E x y ↔ Conn F x y) {x : Int} (h0 : 0 ≤ x) (h1 : x < N) : T x = U x := by
  have a1 := h.lo x h0 h1
  have a2 := h.le x h0 h1
  have b1 := g.lo x h0 h1
  have b2 := g.le x h0 h1
  have c1 := g.same x (T x) h0 h1 a1 (by omega) ((e _ _).1 (h.conn x h0 h1))
  have c2 := h.same x (U x) h0 h1 b1 (by omega) ((e _ _).2 (g.conn x h0 h1))
  have d1 := g.le (T x) a1 (by omega)
  have d2 := h.le (U x) b1 (by omega)
  omega
structure Lab (f : List Int) (T : Int → Int) : Prop where
  lo : ∀ i, inL f i → 0 ≤ getI f i
  le : ∀ i, inL f i → getI f i ≤ i
  tlo : ∀ i, inL f i → 0 ≤ T i
  tle : ∀ i, inL f i → T i ≤ i
  root : ∀ i, inL f i → getI f (T i) = T i
  step : ∀ i, inL f i → T (getI f i) = T i
  self : ∀ i, inL f i → getI f i = i → T i = i

theorem inL_set {α : Type} {l : List α} {k : Nat} {x : α} {i : Int} : inL (l.set k x) i ↔ inL l i := by simp [inL]
theorem getI_set {α : Type} [Inhabited α] {l : List α} {k i : Int} {x : α} (hk : inL l k) (hi : inL l i) : getI (l.set k.toNat x) i = if i = k then x else getI l i := by
  unfold getI
  have h1 := hk.1; have h2 := hi.1; have h3 := hk.2; have h4 := hi.2
  by_cases h : i = k
  · subst h
    rw [List.getElem?_set_self (by omega)]; simp
  · rw [List.getElem?_set_ne (by omega)]; simp [h]
section
variable {f : List Int} {T : Int → Int}
theorem Lab.fin (h : Lab f T) {i : Int} (hi : inL f i) : inL f (getI f i) := ⟨h.lo i hi, by have := h.le i hi; have := hi.2; omega⟩
end
/-! ### Chains of sets -/
end Go.Eng

set_option linter.unusedVariables false
set_option linter.unusedSectionVars false
set_option linter.unusedSimpArgs false
namespace Go.Eng
open Go Classical
attribute [local congr] ite_cg

/-! ### Items deleted -/
theorem filter_none_lt {α : Type} [Inhabited α] {l : List α} {K : α → Bool} {i : Int} (h0 : 0 ≤ i) (h1 : i ≤ l.length) (h : ∀ j, inL l j → j < i → K (getI l j) = true) : l.take i.toNat = (l.take i.toNat).filter K := by
  symm; rw [List.filter_eq_self]
  intro x hx
  obtain ⟨k, hk, hlt, rfl⟩ := mem_take_getI.1 hx
  exact h k hk hlt
theorem take_succ_getI {α : Type} [Inhabited α] {l : List α} {i : Int} (h : inL l i) : l.take (i + 1).toNat = l.take i.toNat ++ [getI l i] := by
  have h0 := h.1
  rw [show (i + 1).toNat = i.toNat + 1 from by omega, List.take_add_one, getI_get? h]; rfl
theorem del_loop {α : Type} [Inhabited α] (l : List α) (K : α → Bool) {f : List α × Int × Int → Option ((List α × Int × Int) ⊕ (List α × Int))} (hb : Few l)
    (h1 : ∀ a i j, a.length = l.length → 0 ≤ i → i < j → inL l j → inL l i → getI a j = getI l j → f (a, i, j) = some (.inl (if K (getI l j) = true then (a.set i.toNat (getI l j), i + 1, j + 1) else (a, i, j + 1))))
    (h2 : ∀ a i, a.length = l.length → f (a, i, l.length) = some (.inr (a, i))) {i0 : Int} (hi0 : inL l i0) (hk : K (getI l i0) = false) (hlt : ∀ j, inL l j → j < i0 → K (getI l j) = true) :
    ∃ a i, loopM f (l, i0, i0 + 1) = some (a, i) ∧ a.length = l.length ∧ 0 ≤ i ∧ i ≤ l.length ∧ a.take i.toNat = l.filter K := by
  have hb' : l.length ≤ 1000000 := hb
  obtain ⟨r, e, q1, q2, q3, q4⟩ := loopM_rule (f := f)
    (fun s => s.1.length = l.length ∧ 0 ≤ s.2.1 ∧ s.2.1 < s.2.2 ∧ s.2.2 ≤ l.length ∧ s.1.take s.2.1.toNat = (l.take s.2.2.toNat).filter K ∧ ∀ j, inL l j → s.2.2 ≤ j → getI s.1 j = getI l j)
    (fun r => r.1.length = l.length ∧ 0 ≤ r.2 ∧ r.2 ≤ l.length ∧ r.1.take r.2.toNat = l.filter K) (fun s => (l.length - s.2.2).toNat) (s := (l, i0, i0 + 1)) (fun s hI => by
      obtain ⟨a, i, j⟩ := s
      obtain ⟨ha, i0, ij, jl, ht, hd⟩ := hI
      simp only at ha i0 ij jl ht hd ⊢
      by_cases hj : j = l.length
      · subst hj
        refine ⟨_, h2 a i ha, ha, i0, by omega, ?_⟩
        simpa using ht
      · have ji : inL l j := ⟨by omega, by omega⟩
        have ii : inL l i := ⟨by omega, by omega⟩
        refine ⟨_, h1 a i j ha i0 ij ji ii (hd j ji (Int.le_refl _)), ?_⟩
        by_cases hK : K (getI l j) = true
        · simp only [hK, if_true]
          have ii' : inL a i := ⟨i0, by omega⟩
          refine ⟨⟨by simpa using ha, by omega, by omega, by omega, ?_, fun k hk hjk => ?_⟩, by omega⟩
          · rw [take_succ_getI (inL_set.2 ii'), take_succ_getI ji, List.filter_append, ← ht, getI_set ii' ii', if_pos rfl, List.take_set_of_le (by omega)]
            simp [hK]
          · rw [getI_set ii' ⟨hk.1, by have := hk.2; omega⟩, if_neg (by omega)]
            exact hd k hk (by omega)
        · rw [if_neg hK]
          refine ⟨⟨ha, i0, by simp only; omega, by simp only; omega, ?_, fun k hk hjk => hd k hk (by simp only at hjk; omega)⟩, by simp only; omega⟩
          simp only
          rw [take_succ_getI ji, List.filter_append, ← ht]
          simp [hK]) ⟨rfl, hi0.1, by simp only; omega, by have := hi0.2; simp only; omega, by
        simp only
        rw [take_succ_getI hi0, List.filter_append, ← filter_none_lt hi0.1 (by have := hi0.2; omega) hlt]
        simp [hk], fun j _ _ => rfl⟩ (by have := hi0.1; have := hi0.2; simp only; omega)
  exact ⟨r.1, r.2, e, q1, q2, q3, q4⟩

/-! ### Ports that may be gone out at -/
section
variable {n : Api_Net} {fw : List Bool}
def UsP (n : Api_Net) (fw : List Bool) (p : Int) : Prop := (getI n.ports p).link < 0 ∨ getI fw (getI n.ports p).link = true
structure FwOk (n : Api_Net) (fw : List Bool) : Prop where
  right : RightP n
  len : fw.length = n.links.length
theorem FwOk.link (h : FwOk n fw) {p : Int} (hp : inL n.ports p) : (getI n.ports p).link = -1 ∨ inL fw (getI n.ports p).link := by
  rcases (h.right.ports p hp).2.2.2.2.2.2.2.2 with h1 | h1
  · exact .inl h1
  · right
    have := h1.1
    unfold inL at this ⊢
    rw [h.len]; exact this
theorem lookup_usable_spec (h : FwOk n fw) {p : Int} (hp : inL n.ports p) : lookup_usable n fw p = some (decide (UsP n fw p)) := by
  unfold lookup_usable UsP
  rcases h.link hp with h1 | h1
  · simp [nth_getI hp, h1]
  · have : ¬ (getI n.ports p).link < 0 := by have := h1.1; omega
    simp [nth_getI hp, nth_getI h1, this]
theorem r29Usable_spec (h : FwOk n fw) {p : Int} (hp : inL n.ports p) : palingref29_Usable n fw p = some (decide (UsP n fw p)) := by
  unfold palingref29_Usable UsP
  rcases h.link hp with h1 | h1
  · simp [rPlace_spec, hp, nth_getI hp, h1]
  · have h2 : ¬ (getI n.ports p).link < 0 := by have := h1.1; omega
    have h3 : ¬ (getI n.ports p).link = -1 := by have := h1.1; omega
    simp [rPlace_spec, hp, nth_getI hp, nth_getI h1, h2, h3]
noncomputable def goB (n : Api_Net) (fw : List Bool) (frm p : Int) : Bool := decide (p ≠ frm ∧ UsP n fw p)
theorem room_ports_1_spec (h : FwOk n fw) {p d frm : Int} {mem : List Int} (hp : inL n.ports p) : lookup_room_ports_1 p ⟨n, fw, d, frm, mem⟩ = some (! goB n fw frm p) := by
  unfold lookup_room_ports_1 goB
  simp only [lookup_usable_spec h hp, bind_ite, Option.bind_some, dif1, dif2, dif3, dif4, dif5, dif6, dif7, dnot, ibeq, ibne, decide_eq_true_eq, if_not2, ge_iff_le, gt_iff_lt, fst_ret, Bool.false_eq_true, decide_false]
  by_cases e : p = frm <;> simp [e]
theorem IF_room_spec (h : FwOk n fw) {d frm : Int} {mem l : List Int} (hl : Few l) (ha : ∀ p ∈ l, inL n.ports p) : slices_IndexFunc_int_room_ports_1 l ⟨n, fw, d, frm, mem⟩ = some (fstI l (fun p => goB n fw frm p = false)) := by
  unfold slices_IndexFunc_int_room_ports_1
  rw [loop_first l (fun p => goB n fw frm p = false) hl (fun i h0 h1 h2 => by
    have hl' : l.length ≤ 1000000 := hl
    simp (disch := omega) only [slices_IndexFunc_int_room_ports_1_L1, h1, nth_getI h2, wr64, room_ports_1_spec h (ha _ (getI_mem h2)), decide_true, if_true, Option.bind_some]
    cases goB n fw frm (getI l i) <;> simp) (by simp [slices_IndexFunc_int_room_ports_1_L1])]
  by_cases h2 : 0 ≤ fstI l (fun p => goB n fw frm p = false)
  · simp [h2]
  · have := fstI_ge (l := l) (P := fun p => goB n fw frm p = false)
    simp [h2]; omega
theorem room_ports_spec (h : FwOk n fw) {d frm : Int} {mem l : List Int} (hl : l.length ≤ 1000000) (ha : ∀ p ∈ l, inL n.ports p) : lookup_room_ports ⟨n, fw, d, frm, mem⟩ l = some (l.filter (goB n fw frm)) := by
  have hf : Few l := hl
  have hr : roomy 8 l = true := roomy_few (by omega)
  simp only [lookup_room_ports, slices_Clone_int, hr, if_true, Option.bind_some, slices_DeleteFunc_int_room_ports_1_own, IF_room_spec h hf ha]
  rcases fstI_cases (l := l) (P := fun p => goB n fw frm p = false) with ⟨e, h1⟩ | ⟨h1, h2, h3⟩
  · rw [e]
    have : l.filter (goB n fw frm) = l := by
      rw [List.filter_eq_self]
      intro x hx
      obtain ⟨i, hi, rfl⟩ := mem_getI hx
      have := h1 i hi
      simpa using this
    simp [this]
  · have h4 : ¬ fstI l (fun p => goB n fw frm p = false) = -1 := by have := h1.1; omega
    have h5 := wr64 (n := fstI l (fun p => goB n fw frm p = false) + 1) (by have := h1.1; omega) (by have := h1.2; omega)
    generalize fstI l (fun p => goB n fw frm p = false) = i0 at *
    obtain ⟨a, i, e, q1, q2, q3, q4⟩ := del_loop l (goB n fw frm) (f := fun s : (List Int) × Int × Int => match s with | (l6, v7, v8) => slices_DeleteFunc_int_room_ports_1_own_L1 l ⟨n, fw, d, frm, mem⟩ l6 v7 v8) hf (fun a i j ha0 hi hij hj hi2 hg => by
      have j1 := hj.1; have j2 := hj.2
      have ji : inL a j := ⟨hj.1, by omega⟩
      have ii : inL a i := ⟨hi, by omega⟩
      have w1 := wr64 (n := i + 1) (by omega) (by omega)
      have w2 := wr64 (n := j + 1) (by omega) (by omega)
      have l1 : lin a j = true := by rw [lin_dec]; exact decide_eq_true ji
      have l2 : lin a i = true := by rw [lin_dec]; exact decide_eq_true ii
      simp only [slices_DeleteFunc_int_room_ports_1_own_L1, j2, l1, l2, getI_get? ji, getI_get? ii, hg, room_ports_1_spec h (ha _ (getI_mem hj)), w1, w2, decide_true, if_true, Option.bind_some, Bool.not_not]
      split <;> rfl) (fun a i ha0 => by simp [slices_DeleteFunc_int_room_ports_1_own_L1]) h1 h2 (fun j hj hlt => by have := h3 j hj hlt; simpa using this)
    have s1 : slok a.length i a.length = true := by rw [slok_dec]; exact decide_eq_true ⟨q2, by omega, by omega⟩
    have s2 : List.take i.toNat a ++ (List.replicate ((Int.toNat (a.length : Int)) - i.toNat) (0 : Int) ++ List.drop (Int.toNat (a.length : Int)) a) = List.take i.toNat a ++ List.replicate (a.length - i.toNat) (0 : Int) := by simp
    have s3 : slok (List.take i.toNat a ++ List.replicate (a.length - i.toNat) (0 : Int)).length 0 i = true := by rw [slok_dec]; exact decide_eq_true ⟨by omega, q2, by simp; omega⟩
    simp only [ibeq, h4, decide_false, Bool.false_eq_true, if_false, h5, e, s1, s2, s3, if_true, Option.bind_some]
    rw [← q4]
    have : (List.take i.toNat a).length = i.toNat := by simp; omega
    simp [this]

structure OpenP (n : Api_Net) (fw : List Bool) (d frm : Int) : Prop where
  fw : FwOk n fw
  dom : inL n.domains d
  frm : frm = -1 ∨ frm = -2 ∨ frm ∈ membersL n d
theorem open_spec (hs : SmN n) {d frm : Int} : (¬ (FwOk n fw ∧ inL n.domains d) ∧ lookup_open n fw d frm = some (.inl ())) ∨
    ((FwOk n fw ∧ inL n.domains d) ∧ lookup_open n fw d frm = some (.inr (membersL n d, decide (OpenP n fw d frm)))) := by
  unfold lookup_open
  simp only [bind_ite, Option.bind_some, dif1, dif2, dif3, dif4, dif5, dif6, dif7, dnot, ibeq, ibne, decide_eq_true_eq, if_not2, ge_iff_le, gt_iff_lt, fst_ret, Bool.false_eq_true, decide_false]
  by_cases hd : inL n.domains d
  case neg =>
    left
    refine ⟨fun h => hd h.2, ?_⟩
    have : d < 0 ∨ (n.domains.length : Int) ≤ d := by unfold inL at hd; omega
    rcases this with h | h <;> simp [h]
  have d1 : ¬ d < 0 := by have := hd.1; omega
  have d2 : ¬ (n.domains.length : Int) ≤ d := by have := hd.2; omega
  by_cases hl : fw.length = n.links.length
  case neg =>
    left
    have : ¬ (fw.length : Int) = n.links.length := by omega
    exact ⟨fun h => hl h.1.len, by simp [d1, d2, this]⟩
  have h2 : (fw.length : Int) = n.links.length := by omega
  by_cases hr : RightP n
  case neg => exact .inl ⟨fun h => hr h.1.right, by simp [d1, d2, h2, names_Right_spec hs, hr]⟩
  right
  have hF : FwOk n fw := ⟨hr, hl⟩
  refine ⟨⟨hF, hd⟩, ?_⟩
  have hm : Few (membersL n d) := Nat.le_trans membersL_len hs.ports
  have ho : OpenP n fw d frm ↔ frm = -1 ∨ frm = -2 ∨ frm ∈ membersL n d := ⟨fun h => h.frm, fun h => ⟨hF, hd, h⟩⟩
  simp only [d1, d2, h2, names_Right_spec hs, hr, names_Members_spec hs, hd, Contains_int_spec hm, ho, ne_eq, not_true_eq_false, if_false, if_true, decide_true, Bool.not_true, Bool.false_eq_true, Option.bind_some, and_self]
  by_cases e1 : frm = -1
  · simp [e1]
  by_cases e2 : frm = -2
  · simp [e1, e2]
  simp [e1, e2]
theorem fits_spec (hs : SmN n) {d frm : Int} : palingref29_fits n fw d frm = some (decide (OpenP n fw d frm)) := by
  unfold palingref29_fits
  simp only [rRight_spec hs, rPlace_spec, rMembers_spec hs, bind_ite, Option.bind_some, dif1, dif2, dif3, dif4, dif5, dif6, dif7, dnot, ibeq, ibne, decide_eq_true_eq, if_not2, ge_iff_le, gt_iff_lt, fst_ret, Bool.false_eq_true, decide_false]
  by_cases hr : RightP n
  case neg =>
    have : ¬ OpenP n fw d frm := fun h => hr h.fw.right
    simp [hr, this]
  by_cases hl : fw.length = n.links.length
  case neg =>
    have h2 : ¬ (fw.length : Int) = n.links.length := by omega
    have : ¬ OpenP n fw d frm := fun h => hl h.fw.len
    simp [hr, h2, this]
  have h2 : (fw.length : Int) = n.links.length := by omega
  by_cases hd : inL n.domains d
  case neg =>
    have : ¬ OpenP n fw d frm := fun h => hd h.dom
    simp [hr, h2, hd, this]
  have hF : FwOk n fw := ⟨hr, hl⟩
  have hm : Few (membersL n d) := Nat.le_trans membersL_len hs.ports
  have ho : OpenP n fw d frm ↔ frm = -1 ∨ frm = -2 ∨ frm ∈ membersL n d := ⟨fun h => h.frm, fun h => ⟨hF, hd, h⟩⟩
  simp only [hr, h2, hd, rIn_spec hm, ho, ne_eq, not_true_eq_false, if_false, if_true, decide_true, Option.bind_some, not_not]
  by_cases e1 : frm = -1
  · simp [e1]
  by_cases e2 : frm = -2
  · simp [e1, e2]
  simp [e1, e2]
end
end Go.Eng

set_option linter.unusedVariables false
set_option linter.unusedSectionVars false
set_option linter.unusedSimpArgs false
namespace Go.Eng
open Go Classical
attribute [local congr] ite_cg

/-! ### One bit of a number -/
theorem and_two_pow' (x k : Nat) : x &&& 2 ^ k = (x.testBit k).toNat * 2 ^ k := by
  apply Nat.eq_of_testBit_eq
  intro i
  rw [Nat.testBit_and, Nat.testBit_two_pow]
  by_cases h : k = i
  · subst h
    cases hb : x.testBit k <;> simp
  · cases hb : x.testBit k <;> simp [h, Nat.testBit_two_pow]
theorem okI64 {x : Int} (h : okI .i64 x) : -9223372036854775808 ≤ x ∧ x ≤ 9223372036854775807 := ⟨h.1, h.2⟩
theorem okU64 {x : Int} (h : okI .u64 x) : 0 ≤ x ∧ x < 18446744073709551616 := ⟨h.1, by have : x ≤ 18446744073709551615 := h.2; omega⟩
theorem gather_filter {l : List Int} {K : Int → Bool} : gatherI l (fun _ p => K p = true) (fun _ p => p) = l.filter K := by
  unfold gatherI
  have key : ∀ (l : List Int) (k : Nat), (l.zipIdx k).filterMap (fun q => if K q.1 = true then some q.1 else none) = l.filter K := by
    intro l
    induction l with
    | nil => intro k; rfl
    | cons x l ih =>
      intro k
      rw [List.zipIdx_cons, List.filterMap_cons, List.filter_cons, ih]
      cases h : K x <;> simp [h]
  rw [← key l 0]
  congr 1
  funext q
  split <;> rename_i h <;> simp [h]
theorem bit_u64 {x : Int} {k : Nat} (h1 : 0 ≤ x) (h2 : x < 18446744073709551616) (hk : k < 64) : bits_and .u64 x (2 ^ k : Nat) ≠ 0 ↔ x / (2 ^ k : Nat) % 2 = 1 := by
  have hp := Nat.two_pow_pos k
  have hlt : 2 ^ k < 2 ^ 64 := Nat.pow_lt_pow_right (by decide) hk
  unfold bits_and
  rw [ofInt_nat _ _ h1, ofInt_nat _ _ (by omega), BitVec.toNat_and, BitVec.toNat_ofNat, BitVec.toNat_ofNat]
  simp only [IntKind.bits, Int.toNat_natCast]
  rw [Nat.mod_eq_of_lt (by omega), Nat.mod_eq_of_lt (by omega), and_two_pow', show x.toNat.testBit k = decide (x.toNat / 2 ^ k % 2 = 1) from Nat.testBit_eq_decide_div_mod_eq]
  have e : x / (2 ^ k : Nat) % 2 = ((x.toNat / 2 ^ k % 2 : Nat) : Int) := by
    rw [Int.natCast_emod, Int.natCast_ediv]
    rw [show ((x.toNat : Nat) : Int) = x from by omega]; rfl
  rw [e]
  generalize 2 ^ k = p at *
  have hb := Nat.mod_two_eq_zero_or_one (x.toNat / p)
  generalize x.toNat / p % 2 = c at *
  rcases hb with rfl | rfl
  · have : IntKind.u64.wrap 0 = 0 := by decide
    simp [this]
  · have := wr64u (n := (p : Int)) (by omega) (by omega)
    unfold wr_u64 at this
    simp [this]; omega
def GrpP (m : Int) : Prop := m / 1099511627776 % 2 = 1
theorem mac_Group_spec {m : Int} (h1 : 0 ≤ m) (h2 : m < 18446744073709551616) : mac_Group m = some (decide (GrpP m)) := by
  have h := bit_u64 (k := 40) h1 h2 (by decide)
  simp only [mac_Group, ibne]
  refine sdec ?_
  unfold GrpP
  simpa using h

/-! ### Bytes of an address -/
theorem bytes_round {m : Int} (h1 : 0 ≤ m) (h2 : m < 18446744073709551616) (l : List Int) (k : Nat) (hk : k ≤ 6) :
    loopM (fun s : Int × Int => match s with | (v5, v6) => palingref01_Bytes_L2 m l (k : Int) v5 v6) (m, 0) = some (m / (256 ^ k : Nat)) := by
  have key := loopM_trace (f := fun s : Int × Int => match s with | (v5, v6) => palingref01_Bytes_L2 m l (k : Int) v5 v6) (fun i => (m / (256 ^ i : Nat), (i : Int))) k (r := m / (256 ^ k : Nat)) (by omega) (fun i hi => by
    have hp : 0 < 256 ^ i := Nat.pow_pos (by decide)
    have a1 : (0 : Int) ≤ m / (256 ^ i : Nat) := Int.ediv_nonneg h1 (by omega)
    have a2 : m / (256 ^ i : Nat) ≤ m := Int.ediv_le_self _ h1
    have e : Int.tdiv (m / (256 ^ i : Nat)) 256 = m / (256 ^ (i + 1) : Nat) := by
      rw [Int.tdiv_eq_ediv_of_nonneg a1, Int.ediv_ediv_of_nonneg (by omega), Nat.pow_succ]; simp
    have b1 : (0 : Int) ≤ m / (256 ^ (i + 1) : Nat) := Int.ediv_nonneg h1 (by omega)
    have b2 : m / (256 ^ (i + 1) : Nat) ≤ m := Int.ediv_le_self _ h1
    have w1 := wr64u b1 (by omega)
    have w2 := wr64 (n := (i : Int) + 1) (by omega) (by omega)
    have hlt : (i : Int) < k := by omega
    simp only [palingref01_Bytes_L2, hlt, e, w1, w2, decide_true, if_true]
    simp) (by simp [palingref01_Bytes_L2])
  simpa using key
theorem r01_step {m : Int} (h1 : 0 ≤ m) (h2 : m < 18446744073709551616) (l : List Int) (hl : l.length ≤ 100) (k : Nat) (hk : k ≤ 5) :
    palingref01_Bytes_L1 m l (k : Int) = some (.inl (l ++ [m / (256 ^ k : Nat) % 256], (k : Int) - 1)) := by
  have h0 : (k : Int) ≥ 0 := by omega
  have a1 : (0 : Int) ≤ m / (256 ^ k : Nat) := Int.ediv_nonneg h1 (Int.natCast_nonneg _)
  have w := wr8 (n := m / (256 ^ k : Nat) % 256) (Int.emod_nonneg _ (by decide)) (Int.emod_lt_of_pos _ (by decide))
  have w2 := wr64 (n := (k : Int) - 1) (by omega) (by omega)
  have hr : roomy 1 (l ++ [m / (256 ^ k : Nat) % 256]) = true := roomy_few (by simp; omega)
  simp only [palingref01_Bytes_L1, h0, bytes_round h1 h2 l k (by omega), Int.tmod_eq_emod_of_nonneg a1, w, w2, hr, decide_true, if_true, Option.bind_some]
theorem r01Bytes_spec {m : Int} (h1 : 0 ≤ m) (h2 : m < 18446744073709551616) : palingref01_Bytes m = some [m / 1099511627776 % 256, m / 4294967296 % 256, m / 16777216 % 256, m / 65536 % 256, m / 256 % 256, m % 256] := by
  unfold palingref01_Bytes
  have e : loopM (fun s : (List Int) × Int => match s with | (l2, v3) => palingref01_Bytes_L1 m l2 v3) ([], 5) = some [m / 1099511627776 % 256, m / 4294967296 % 256, m / 16777216 % 256, m / 65536 % 256, m / 256 % 256, m % 256] := by
    have s5 := r01_step h1 h2 [] (by simp) 5 (by omega)
    have s4 := r01_step h1 h2 [m / 1099511627776 % 256] (by simp) 4 (by omega)
    have s3 := r01_step h1 h2 [m / 1099511627776 % 256, m / 4294967296 % 256] (by simp) 3 (by omega)
    have s2 := r01_step h1 h2 [m / 1099511627776 % 256, m / 4294967296 % 256, m / 16777216 % 256] (by simp) 2 (by omega)
    have s1 := r01_step h1 h2 [m / 1099511627776 % 256, m / 4294967296 % 256, m / 16777216 % 256, m / 65536 % 256] (by simp) 1 (by omega)
    have s0 := r01_step h1 h2 [m / 1099511627776 % 256, m / 4294967296 % 256, m / 16777216 % 256, m / 65536 % 256, m / 256 % 256] (by simp) 0 (by omega)
    simp at s5 s4 s3 s2 s1 s0
    exact loopM_trace (f := fun s : (List Int) × Int => match s with | (l2, v3) => palingref01_Bytes_L1 m l2 v3) (r := [m / 1099511627776 % 256, m / 4294967296 % 256, m / 16777216 % 256, m / 65536 % 256, m / 256 % 256, m % 256]) (fun i => ([m / 1099511627776 % 256, m / 4294967296 % 256, m / 16777216 % 256, m / 65536 % 256, m / 256 % 256, m % 256].take i, 5 - (i : Int))) 6 (by decide) (fun i hi => by
      match i, hi with
      | 0, _ => simpa using s5
      | 1, _ => simpa using s4
      | 2, _ => simpa using s3
      | 3, _ => simpa using s2
      | 4, _ => simpa using s1
      | 5, _ => simpa using s0) (by simp [palingref01_Bytes_L1])
  rw [e]; rfl
theorem r01Group_spec {m : Int} (h1 : 0 ≤ m) (h2 : m < 18446744073709551616) : palingref01_Group m = some (decide (GrpP m)) := by
  have a : (0 : Int) ≤ m / 1099511627776 % 256 := Int.emod_nonneg _ (by decide)
  simp only [palingref01_Group, r01Bytes_spec h1 h2, Option.bind_some]
  have l0 : lin [m / 1099511627776 % 256, m / 4294967296 % 256, m / 16777216 % 256, m / 65536 % 256, m / 256 % 256, m % 256] 0 = true := by rw [lin_dec]; exact decide_eq_true ⟨by decide, by simp⟩
  simp only [l0, if_true]
  have e : ([m / 1099511627776 % 256, m / 4294967296 % 256, m / 16777216 % 256, m / 65536 % 256, m / 256 % 256, m % 256] : List Int)[Int.toNat 0]? = some (m / 1099511627776 % 256) := rfl
  rw [e]
  simp only [Option.bind_some, Int.tmod_eq_emod_of_nonneg a, ibeq]
  refine sdec ?_
  unfold GrpP
  omega

end Go.Eng

set_option linter.unusedVariables false
set_option linter.unusedSectionVars false
set_option linter.unusedSimpArgs false
namespace Go.Eng
open Go Classical
attribute [local congr] ite_cg
section
variable {n : Api_Net}
noncomputable def statI (n : Api_Net) (d x : Int) : Int := fstI n.statics fun s => s.domain = d ∧ s.mac = x
noncomputable def statP (n : Api_Net) (d x : Int) : Int := if 0 ≤ statI n d x then (getI n.statics (statI n d x)).port else -1
theorem statI_in {d x : Int} (h : 0 ≤ statI n d x) : inL n.statics (statI n d x) := fstI_inL.1 h
theorem domains_entry_spec (hs : SmN n) {d x : Int} : domains_entry n d x = some (statI n d x) := by
  unfold domains_entry slices_IndexFunc_Static_entry_1
  rw [loop_first n.statics (fun s => s.domain = d ∧ s.mac = x) hs.statics (fun i h0 h1 h2 => by
    have := hs.statics
    simp (disch := omega) only [slices_IndexFunc_Static_entry_1_L1, domains_entry_1, h1, nth_getI h2, wr64, bind_ite, Option.bind_some, dif1, dif2, dif3, dif4, dif5, dif6, dif7, dnot, ibeq, ibne, decide_eq_true_eq, if_not2, ge_iff_le, gt_iff_lt, fst_ret, Bool.false_eq_true, decide_false, mrg1, mrg2, mrg3, mrg4, mrg5, mrg6, mrg7, decide_true, if_true]; first | exact fpos Iff.rfl | exact fneg Iff.rfl) (by simp [slices_IndexFunc_Static_entry_1_L1])]
  simp only [bind_ite, Option.bind_some, dif1, dif2, dif3, dif4, dif5, dif6, dif7, dnot, ibeq, ibne, decide_eq_true_eq, if_not2, ge_iff_le, gt_iff_lt, fst_ret, Bool.false_eq_true, decide_false]
  rfl
theorem domains_Lookup_spec (hs : SmN n) (hr : RightP n) {d x : Int} : domains_Lookup n d x = some (statP n d x) := by
  unfold domains_Lookup statP
  simp only [domains_entry_spec hs, names_Right_spec hs, hr, bind_ite, Option.bind_some, dif1, dif2, dif3, dif4, dif5, dif6, dif7, dnot, ibeq, ibne, decide_eq_true_eq, if_not2, ge_iff_le, gt_iff_lt, fst_ret, Bool.false_eq_true, decide_false]
  by_cases h : 0 ≤ statI n d x
  · have h1 : ¬ statI n d x < 0 := by omega
    simp [h, h1, nth_getI (statI_in h)]
  · have h1 : statI n d x < 0 := by omega
    simp [h, h1]
theorem r18Lookup_spec (hs : SmN n) {d x : Int} : palingref18_Lookup n d x = some (statP n d x) := by
  unfold palingref18_Lookup statP
  rw [loop_firstv n.statics (fun s => s.domain = d ∧ s.mac = x) (fun _ s => s.port) hs.statics (fun i h0 h1 h2 => by
    have := hs.statics
    simp (disch := omega) only [palingref18_Lookup_L1, h1, nth_getI h2, wr64, bind_ite, Option.bind_some, dif1, dif2, dif3, dif4, dif5, dif6, dif7, dnot, ibeq, ibne, decide_eq_true_eq, if_not2, ge_iff_le, gt_iff_lt, fst_ret, Bool.false_eq_true, decide_false, mrg1, mrg2, mrg3, mrg4, mrg5, mrg6, mrg7, decide_true, if_true]; exact fpos Iff.rfl) (by simp [palingref18_Lookup_L1])]
  by_cases h : 0 ≤ statI n d x
  · have h' : 0 ≤ fstI n.statics (fun s => s.domain = d ∧ s.mac = x) := h
    simp only [h, h', if_true, Option.bind_some]; rfl
  · have h' : ¬ 0 ≤ fstI n.statics (fun s => s.domain = d ∧ s.mac = x) := h
    simp only [h, h', if_false, Option.bind_some]
end
end Go.Eng

set_option linter.unusedVariables false
set_option linter.unusedSectionVars false
set_option linter.unusedSimpArgs false
namespace Go.Eng
open Go Classical
attribute [local congr] ite_cg
/-! ### Static entries, and tables -/
section
variable {n : Api_Net} {fw : List Bool}
theorem statP_in (hr : RightP n) {d x : Int} (h : 0 ≤ statP n d x) : inL n.ports (statP n d x) := by
  unfold statP at h ⊢
  by_cases h1 : 0 ≤ statI n d x
  · rw [if_pos h1] at h ⊢
    exact (hr.statics _ (fstI_inL.1 h1)).2.1
  · rw [if_neg h1] at h; omega
noncomputable def tabF (t : List Api_Entry) (x : Int) : Int × Bool := if 0 ≤ fstI t (fun e => e.mac = x) then ((getI t (fstI t (fun e => e.mac = x))).where_, true) else (0, false)
theorem table_Find_spec {t : List Api_Entry} {x : Int} (ht : Few t) : table_Find t x = some (tabF t x) := by
  simp only [table_Find, table_index, slices_IndexFunc_Entry_index_1]
  rw [loop_first t (fun s => s.mac = x) ht (fun i h0 h1 h2 => by
    have h3 : t.length ≤ 1000000 := ht
    simp (disch := omega) only [slices_IndexFunc_Entry_index_1_L1, table_index_1, h1, nth_getI h2, wr64, bind_ite, Option.bind_some, dif1, dif2, dif3, dif4, dif5, dif6, dif7, dnot, ibeq, ibne, decide_eq_true_eq, if_not2, ge_iff_le, gt_iff_lt, fst_ret, Bool.false_eq_true, decide_false, mrg1, mrg2, mrg3, mrg4, mrg5, mrg6, mrg7, decide_true, if_true]; exact fpos Iff.rfl) (by simp [slices_IndexFunc_Entry_index_1_L1])]
  unfold tabF
  by_cases h : 0 ≤ fstI t (fun e => e.mac = x)
  · have h1 : ¬ fstI t (fun e => e.mac = x) < 0 := by omega
    simp [h, h1, nth_getI (fstI_inL.1 h)]
  · simp [h]
theorem r26Find_spec {t : List Api_Entry} {x : Int} (ht : Few t) : palingref26_Find t x = some (tabF t x) := by
  unfold palingref26_Find
  rw [loop_firstv t (fun s => s.mac = x) (fun _ s => s.where_) ht (fun i h0 h1 h2 => by
    have h3 : t.length ≤ 1000000 := ht
    simp (disch := omega) only [palingref26_Find_L1, h1, nth_getI h2, wr64, bind_ite, Option.bind_some, dif1, dif2, dif3, dif4, dif5, dif6, dif7, dnot, ibeq, ibne, decide_eq_true_eq, if_not2, ge_iff_le, gt_iff_lt, fst_ret, Bool.false_eq_true, decide_false, mrg1, mrg2, mrg3, mrg4, mrg5, mrg6, mrg7, decide_true, if_true]; exact fpos Iff.rfl) (by simp [palingref26_Find_L1])]
  unfold tabF
  by_cases h : 0 ≤ fstI t (fun e => e.mac = x)
  · simp [h]
  · simp [h]

/-! ### Where a frame goes -/
noncomputable def flPorts (n : Api_Net) (fw : List Bool) (d frm : Int) : List Int := (membersL n d).filter (goB n fw frm)
noncomputable def flPeers (n : Api_Net) (d frm : Int) : List Int := if frm = -1 then [] else (getI n.domains d).peers
noncomputable def floodR (n : Api_Net) (fw : List Bool) (d frm : Int) : List Int × List Int × Int := if OpenP n fw d frm then (flPorts n fw d frm, flPeers n d frm, 0) else ([], [], 2)
theorem room_peers_spec (hs : SmN n) {d frm : Int} {mem : List Int} (hd : inL n.domains d) : lookup_room_peers ⟨n, fw, d, frm, mem⟩ = some (flPeers n d frm) := by
  have hp := hs.peers _ (getI_mem hd)
  have hr : roomy 8 (getI n.domains d).peers = true := roomy_few (by unfold Few at hp; omega)
  unfold lookup_room_peers flPeers
  by_cases e : frm = -1
  · simp [e]
  · simp [e, nth_getI hd, slices_Clone_int, hr]
theorem lookup_Flood_spec (hs : SmN n) {d frm : Int} : lookup_Flood n fw d frm = some (floodR n fw d frm) := by
  unfold lookup_Flood floodR
  rcases open_spec (fw := fw) hs (d := d) (frm := frm) with ⟨h, e⟩ | ⟨h, e⟩
  · have : ¬ OpenP n fw d frm := fun g => h ⟨g.fw, g.dom⟩
    simp [e, this]
  · have hm : (membersL n d).length ≤ 1000000 := Nat.le_trans membersL_len hs.ports
    by_cases ho : OpenP n fw d frm
    · simp [e, ho, room_ports_spec h.1 hm (fun p hp => membersL_in hp), room_peers_spec hs h.2, flPorts]
    · simp [e, ho]
theorem r29Flood_spec (hs : SmN n) {d frm : Int} : palingref29_Flood n fw d frm = some (floodR n fw d frm) := by
  unfold palingref29_Flood floodR
  simp only [fits_spec hs, Option.bind_some]
  by_cases ho : OpenP n fw d frm
  case neg => simp [ho]
  have hm : Few (membersL n d) := Nat.le_trans membersL_len hs.ports
  have hl := loop_gather (f := fun s : (List Int) × Int => match s with | (l11, v12) => palingref29_Flood_L1 n fw d frm (membersL n d) l11 v12) (membersL n d) (fun _ p => goB n fw frm p = true) (fun _ p => p) (out := id) hm (fun i s h0 h1 h2 h3 => by
    have hm' : (membersL n d).length ≤ 1000000 := hm
    have l1 : lin (membersL n d) i = true := by rw [lin_dec]; exact decide_eq_true h2
    have hp := membersL_in (getI_mem h2)
    have hr : roomy 8 (s ++ [getI (membersL n d) i]) = true := roomy_few (by simp; omega)
    simp (disch := omega) only [palingref29_Flood_L1, h1, l1, getI_get? h2, r29Usable_spec ho.fw hp, hr, wr64, bind_ite, Option.bind_some, dif1, dif2, dif3, dif4, dif5, dif6, dif7, dnot, ibeq, ibne, decide_eq_true_eq, if_not2, ge_iff_le, gt_iff_lt, fst_ret, Bool.false_eq_true, decide_false, decide_true, if_true, goB]
    by_cases e : getI (membersL n d) i = frm <;> by_cases u : UsP n fw (getI (membersL n d) i) <;> simp [e, u]) (fun s => by simp [palingref29_Flood_L1])
  have e : gatherI (membersL n d) (fun _ p => goB n fw frm p = true) (fun _ p => p) = flPorts n fw d frm := gather_filter
  simp only [ho, decide_true, Bool.not_true, Bool.false_eq_true, if_false, if_true, rMembers_spec hs, ho.dom, Option.bind_some, hl, e, id, nth_getI ho.dom]
  unfold flPeers
  by_cases e1 : frm = -1
  · simp [e1]
  · simp [e1]

theorem one_spec (h : FwOk n fw) {p frm : Int} (hp : inL n.ports p) : palingref29_one n fw p frm = some ([p].filter (goB n fw frm)) := by
  unfold palingref29_one
  simp only [r29Usable_spec h hp, bind_ite, Option.bind_some, dif1, dif2, dif3, dif4, dif5, dif6, dif7, dnot, ibeq, ibne, decide_eq_true_eq, if_not2, ge_iff_le, gt_iff_lt, fst_ret, Bool.false_eq_true, decide_false]
  unfold goB
  by_cases e : p = frm
  · simp [e]
  · by_cases u : UsP n fw p <;> simp [e, u]

noncomputable def decR (n : Api_Net) (fw : List Bool) (t : List Api_Entry) (d frm x : Int) : List Int × List Int × Int :=
  if ¬ OpenP n fw d frm then ([], [], 2) else if GrpP x then floodR n fw d frm else
  if 0 ≤ statP n d x then ([statP n d x].filter (goB n fw frm), [], 0) else
  if (tabF t x).2 = true ∧ (tabF t x).1 ∈ membersL n d then ([(tabF t x).1].filter (goB n fw frm), [], 0) else
  if (tabF t x).2 = true ∧ (tabF t x).1 < 0 ∧ -1 - (tabF t x).1 ∈ (getI n.domains d).peers then (if frm = -1 then ([], [], 0) else ([], [-1 - (tabF t x).1], 0)) else floodR n fw d frm
theorem tabF_ok {t : List Api_Entry} {x : Int} (ht : okL Api_Entry.Ok t) : -9223372036854775808 ≤ (tabF t x).1 ∧ (tabF t x).1 ≤ 9223372036854775807 := by
  unfold tabF
  by_cases h : 0 ≤ fstI t (fun e => e.mac = x)
  · rw [if_pos h]
    exact okI64 (ht.2 _ (getI_mem (fstI_inL.1 h))).2.1
  · rw [if_neg h]; simp
theorem lookup_Decide_spec (hs : SmN n) {t : List Api_Entry} (ht : Few t) (hto : okL Api_Entry.Ok t) {d frm x : Int} (x0 : 0 ≤ x) (x1 : x < 18446744073709551616) : lookup_Decide n fw t d frm x = some (decR n fw t d frm x) := by
  unfold lookup_Decide decR
  rcases open_spec (fw := fw) hs (d := d) (frm := frm) with ⟨h, e⟩ | ⟨h, e⟩
  · have : ¬ OpenP n fw d frm := fun g => h ⟨g.fw, g.dom⟩
    simp [e, this]
  by_cases ho : OpenP n fw d frm
  case neg => simp [e, ho]
  have hm : Few (membersL n d) := Nat.le_trans membersL_len hs.ports
  have hp := hs.peers _ (getI_mem h.2)
  have rp := room_ports_spec (d := d) (frm := frm) (mem := membersL n d) h.1 hm (fun p hp => membersL_in hp)
  have rq := room_peers_spec (fw := fw) (frm := frm) (mem := membersL n d) hs h.2
  have ff : floodR n fw d frm = (flPorts n fw d frm, flPeers n d frm, 0) := by unfold floodR; rw [if_pos ho]
  simp only [e, ho, mac_Group_spec x0 x1, rp, rq, Option.bind_some, decide_true, Bool.not_true, Bool.false_eq_true, if_false, not_true_eq_false]
  by_cases hg : GrpP x
  · simp [hg, ff, flPorts]
  simp only [hg, decide_false, Bool.not_false, if_true, if_false]
  have hk : lookup_room_known ⟨n, fw, d, frm, membersL n d⟩ t x = some (
      if 0 ≤ statP n d x then ([statP n d x].filter (goB n fw frm), [], true) else
      if (tabF t x).2 = true ∧ (tabF t x).1 ∈ membersL n d then ([(tabF t x).1].filter (goB n fw frm), [], true) else
      if (tabF t x).2 = true ∧ (tabF t x).1 < 0 ∧ -1 - (tabF t x).1 ∈ (getI n.domains d).peers then (if frm = -1 then ([], [], true) else ([], [-1 - (tabF t x).1], true)) else ([], [], false)) := by
    unfold lookup_room_known
    simp only [domains_Lookup_spec hs h.1.right, table_Find_spec ht, Option.bind_some, lookup_room_known_J1, lookup_room_known_J2, nth_getI h.2, Contains_int_spec hm, Contains_int_spec hp, ge_iff_le, decide_eq_true_eq]
    by_cases h1 : 0 ≤ statP n d x
    · rw [if_pos h1, if_pos h1, room_ports_spec h.1 (by simp) (fun p hp => by simp at hp; subst hp; exact statP_in h.1.right h1)]; rfl
    rw [if_neg h1, if_neg h1]
    have hw := tabF_ok (x := x) hto
    generalize tabF t x = q at *
    obtain ⟨wh, ok⟩ := q
    simp only at hw ⊢
    cases ok with
    | false => simp
    | true =>
      have w := wr64 (n := -1 - wh)
      by_cases h2 : wh ∈ membersL n d
      · have hin := membersL_in h2
        have h3 : 0 ≤ wh := hin.1
        rw [room_ports_spec h.1 (by simp) (fun p hp => by simp at hp; subst hp; exact hin)]
        simp [h2, h3]
      · by_cases h3 : 0 ≤ wh
        · have h4 : ¬ wh < 0 := by omega
          simp [h2, h3, h4]
        · have h4 : wh < 0 := by omega
          have w := wr64 (n := -1 - wh) (by omega) (by omega)
          simp only [h2, h3, h4, w, decide_false, decide_true, if_false, if_true, Bool.not_true, Bool.false_eq_true, Option.bind_some, and_false, true_and]
          by_cases h5 : -1 - wh ∈ (getI n.domains d).peers
          · by_cases h6 : frm = -1
            · simp [h5, h6]
            · simp [h5, h6]
          · simp [h5]
  rw [hk]
  simp only [Option.bind_some]
  by_cases c1 : 0 ≤ statP n d x
  · simp [c1]
  by_cases c2 : (tabF t x).2 = true ∧ (tabF t x).1 ∈ membersL n d
  · simp [c1, c2]
  by_cases c3 : (tabF t x).2 = true ∧ (tabF t x).1 < 0 ∧ -1 - (tabF t x).1 ∈ (getI n.domains d).peers
  · by_cases c4 : frm = -1
    · rw [if_neg c1, if_neg c2, if_pos c3, if_pos c4, if_neg c1, if_neg c2, if_pos c3, if_pos c4]; rfl
    · rw [if_neg c1, if_neg c2, if_pos c3, if_neg c4, if_neg c1, if_neg c2, if_pos c3, if_neg c4]; rfl
  · simp only [c1, c2, c3, if_false, Bool.false_eq_true, ff, flPorts]
theorem r29Decide_spec (hs : SmN n) {t : List Api_Entry} (ht : Few t) (hto : okL Api_Entry.Ok t) {d frm x : Int} (x0 : 0 ≤ x) (x1 : x < 18446744073709551616) : palingref29_Decide n fw t d frm x = some (decR n fw t d frm x) := by
  unfold palingref29_Decide decR
  simp only [r29Flood_spec hs, r01Group_spec x0 x1, r18Lookup_spec hs, r26Find_spec ht, Option.bind_some]
  by_cases ho : OpenP n fw d frm
  case neg => simp [floodR, ho]
  have ff : floodR n fw d frm = (flPorts n fw d frm, flPeers n d frm, 0) := by unfold floodR; rw [if_pos ho]
  have hm : Few (membersL n d) := Nat.le_trans membersL_len hs.ports
  have hp := hs.peers _ (getI_mem ho.dom)
  simp only [ff, ho, not_true_eq_false, if_false]
  by_cases hg : GrpP x
  · simp [hg]
  have nz : ((0 : Int) != 0) = false := rfl
  simp only [hg, nz, decide_false, Bool.false_eq_true, if_false, ge_iff_le, decide_eq_true_eq]
  by_cases h1 : 0 ≤ statP n d x
  · rw [if_pos h1, if_pos h1, one_spec ho.fw (statP_in ho.fw.right h1)]; rfl
  rw [if_neg h1, if_neg h1]
  have hw := tabF_ok (x := x) hto
  simp only [palingref29_Decide_J1, palingref29_Decide_J2, rMembers_spec hs, ho.dom, if_true, Option.bind_some, nth_getI ho.dom, rIn_spec hm, rIn_spec hp]
  generalize tabF t x = q at *
  obtain ⟨wh, ok⟩ := q
  simp only at hw ⊢
  cases ok with
  | false => simp
  | true =>
    by_cases h2 : wh ∈ membersL n d
    · have hin := membersL_in h2
      rw [one_spec ho.fw hin]
      simp [h2]
    · by_cases h3 : 0 ≤ wh
      · have h4 : ¬ wh < 0 := by omega
        simp [h2, h4]
      · have h4 : wh < 0 := by omega
        have w1 := wr64 (n := wh + 1) (by omega) (by omega)
        have w := wr64 (n := -1 - wh) (by omega) (by omega)
        have e : 0 - (wh + 1) = -1 - wh := by omega
        simp only [h2, h4, w1, w, e, decide_false, decide_true, if_false, if_true, Bool.false_eq_true, Option.bind_some, and_false, true_and]
        by_cases h5 : -1 - wh ∈ (getI n.domains d).peers
        · by_cases h6 : frm = -1
          · simp [h5, h6]
          · simp [h5, h6]
        · simp [h5]
theorem floodR_len (hs : SmN n) {d frm : Int} : (floodR n fw d frm).1.length ≤ 1000000 ∧ (floodR n fw d frm).2.1.length ≤ 1000000 := by
  unfold floodR
  by_cases ho : OpenP n fw d frm
  · rw [if_pos ho]
    have h1 : (flPorts n fw d frm).length ≤ (membersL n d).length := List.length_filter_le _ _
    have h2 := @membersL_len n d
    have h3 : n.ports.length ≤ 1000000 := hs.ports
    have h4 : (getI n.domains d).peers.length ≤ 1000000 := hs.peers _ (getI_mem ho.dom)
    refine ⟨by simp only; omega, ?_⟩
    simp only [flPeers]; split
    · simp
    · exact h4
  · rw [if_neg ho]; simp
theorem one_filter {p : Int} {K : Int → Bool} : ([p].filter K).length ≤ 1 := by
  have := List.length_filter_le K [p]; simpa using this
theorem decR_len (hs : SmN n) {t : List Api_Entry} {d frm x : Int} : (decR n fw t d frm x).1.length ≤ 1000000 ∧ (decR n fw t d frm x).2.1.length ≤ 1000000 := by
  have h := floodR_len (fw := fw) hs (d := d) (frm := frm)
  have h1 : ∀ p, ([p].filter (goB n fw frm)).length ≤ 1 := fun p => one_filter
  unfold decR
  split
  · simp
  split
  · exact h
  split
  · have := h1 (statP n d x); exact ⟨by simp only; omega, by simp⟩
  split
  · have := h1 (tabF t x).1; exact ⟨by simp only; omega, by simp⟩
  split
  · split <;> simp
  · exact h
end
end Go.Eng

set_option linter.unusedVariables false
set_option linter.unusedSectionVars false
set_option linter.unusedSimpArgs false
namespace Go.Eng
open Go Classical

theorem LeastT.congr {E F : Int → Int → Prop} {T : Int → Int} {N : Int} (h : LeastT E T N) (e : ∀ x y, Conn E x y ↔ Conn F x y) : LeastT F T N :=
  ⟨h.lo, h.le, fun x a b => (e _ _).1 (h.conn x a b), fun x y a b c d g => h.same x y a b c d ((e _ _).2 g)⟩
theorem LeastT.congrE {E F : Int → Int → Prop} {T : Int → Int} {N : Int} (h : LeastT E T N) (e : ∀ x y, E x y ↔ F x y) : LeastT F T N := h.congr fun _ _ => Conn.congr e
def mkL (N : Nat) (T : Int → Int) : List Int := (List.range N).map fun (i : Nat) => T (i : Int)
theorem mkL_len {N : Nat} {T : Int → Int} : (mkL N T).length = N := by simp [mkL]
theorem mkL_inL {N : Nat} {T : Int → Int} {i : Int} : inL (mkL N T) i ↔ 0 ≤ i ∧ i < N := by rw [inL_iff, mkL_len]
structure FOK (E : Int → Int → Prop) (N : Nat) (f : List Int) : Prop where
  len : f.length = N
  lab : ∃ T, Lab f T ∧ LeastT E T N
  rng : ∀ x y, E x y → (0 ≤ x ∧ x < (N : Int)) ∧ 0 ≤ y ∧ y < (N : Int)
theorem FOK.congr {E F : Int → Int → Prop} {N : Nat} {f : List Int} (h : FOK E N f) (e : ∀ x y, E x y ↔ F x y) : FOK F N f := by
  obtain ⟨T, a, b⟩ := h.lab
  exact ⟨h.len, ⟨T, a, b.congrE e⟩, fun x y g => h.rng x y ((e x y).2 g)⟩
end Go.Eng

set_option linter.unusedVariables false
set_option linter.unusedSectionVars false
set_option linter.unusedSimpArgs false
namespace Go.Eng
open Go Classical
attribute [local congr] ite_cg

theorem loop_upto {ρ : Type} {f : Int → Option (Int ⊕ ρ)} (N : Nat) (P : Int → Prop) (a b : ρ) (hb : N ≤ 1000000)
    (h1 : ∀ i : Int, 0 ≤ i → i < N → f i = some (if P i then .inl (i + 1) else .inr a)) (h2 : f N = some (.inr b)) :
    loopM f 0 = if ∀ i : Int, 0 ≤ i → i < N → P i then some b else some a := by
  rw [loop_each (mkL N fun x => x) (fun i _ => P i) a b (by unfold Few; rw [mkL_len]; exact hb) (fun i i0 i1 _ => h1 i i0 (by rw [mkL_len] at i1; exact i1)) (by rw [mkL_len]; exact h2)]
  have : EachP (mkL N fun x => x) (fun i _ => P i) ↔ ∀ i : Int, 0 ≤ i → i < N → P i :=
    ⟨fun h i a b => h i (mkL_inL.2 ⟨a, b⟩), fun h i hi => h i hi.1 (mkL_inL.1 hi).2⟩
  simp only [this]

section
variable {n : Api_Net}
end
end Go.Eng
