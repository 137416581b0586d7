/- Part of the proof of AuditOrder: plain laws of the printed mirrors. No conditions. -/
import Derived.Test.YtdlaaoajcoogbaaGreatDoorEng14
import Derived.Test.YtdlaaoajcoogbaaGreatDoorMAM
set_option linter.unusedVariables false
set_option linter.unusedSectionVars false
namespace Go.Eng
open Go Classical

theorem wr64 {n : Int} (h1 : -9223372036854775808 ≤ n) (h2 : n < 9223372036854775808) : wr_i64 n = n := by
  unfold wr_i64 IntKind.wrap
  simp [IntKind.signed, IntKind.bits]
  omega

theorem loopM_trace {σ ρ : Type} {f : σ → Option (σ ⊕ ρ)} (st : Nat → σ) (n : Nat) {r : ρ} (hb : n < 18446744073709551616) (h : ∀ i, i < n → f (st i) = some (.inl (st (i + 1)))) (hn : f (st n) = some (.inr r)) :
    loopM f (st 0) = some r := by
  have key : ∀ (k m i : Nat), i + k = n → k < m → iter f m (st i) = some r := by
    intro k
    induction k with
    | zero =>
      intro m i hi hm
      obtain ⟨m, rfl⟩ : ∃ q, m = q + 1 := ⟨m - 1, by omega⟩
      have : i = n := by omega
      subst this
      rw [iter_succ, hn]
    | succ k ih =>
      intro m i hi hm
      obtain ⟨m, rfl⟩ : ∃ q, m = q + 1 := ⟨m - 1, by omega⟩
      rw [iter_succ, h i (by omega)]
      exact ih m (i + 1) (by omega) (by omega)
  exact key n _ 0 (by omega) hb

theorem loopM_rule {σ ρ : Type} {f : σ → Option (σ ⊕ ρ)} (I : σ → Prop) (Q : ρ → Prop) (μ : σ → Nat)
    (h : ∀ s, I s → ∃ q, f s = some q ∧ match q with | .inl s' => I s' ∧ μ s' < μ s | .inr r => Q r) {s : σ} (hs : I s) (hb : μ s < 18446744073709551615) : ∃ r, loopM f s = some r ∧ Q r := by
  have key : ∀ (m : Nat) s, I s → μ s < m → ∃ r, iter f m s = some r ∧ Q r := by
    intro m
    induction m with
    | zero => intro s _ h; omega
    | succ m ih =>
      intro s hs hm
      obtain ⟨q, hq, hr⟩ := h s hs
      cases q with
      | inl s' =>
        obtain ⟨r, h1, h2⟩ := ih s' hr.1 (by have := hr.2; omega)
        exact ⟨r, by rw [iter_succ, hq]; exact h1, h2⟩
      | inr r => exact ⟨r, by rw [iter_succ, hq], hr⟩
  exact key _ s hs (by omega)

theorem loop_ix {α ρ : Type} {f : Int → Option (Int ⊕ ρ)} (l : List α) (step : Nat → α → Option ρ) (last : ρ) (hb : l.length < 9223372036854775807)
    (h1 : ∀ (i : Nat) x, l[i]? = some x → i < l.length → f i = some (match step i x with | none => .inl ((i : Int) + 1) | some r => .inr r)) (h2 : f l.length = some (.inr last)) :
    loopM f 0 = some ((l.zipIdx.findSome? fun q => step q.2 q.1).getD last) := by
  have key : ∀ (r : List α) (k : Nat), l.drop k = r → k ≤ l.length → ∃ n, n ≤ l.length - k ∧ (∀ i, i < n → f ((k + i : Nat) : Int) = some (.inl ((k + (i + 1) : Nat) : Int))) ∧ f ((k + n : Nat) : Int) = some (.inr (((r.zipIdx k).findSome? fun q => step q.2 q.1).getD last)) := by
    intro r
    induction r with
    | nil =>
      intro k hk hle
      have : k = l.length := by
        have := congrArg List.length hk
        simp at this; omega
      subst this
      exact ⟨0, by omega, fun i hi => by omega, by simpa using h2⟩
    | cons x r ih =>
      intro k hk hle
      have hx : l[k]? = some x := by
        have := congrArg (fun q => q[0]?) hk
        simpa using this
      have hlt : k < l.length := (List.getElem?_eq_some_iff.1 hx).1
      have hs := h1 k x hx hlt
      cases hst : step k x with
      | some q =>
        rw [hst] at hs
        exact ⟨0, by omega, fun i hi => by omega, by simpa [List.zipIdx_cons, hst] using hs⟩
      | none =>
        rw [hst] at hs
        obtain ⟨n, hn, ha, hb⟩ := ih (k + 1) (by rw [← List.drop_drop, hk]; rfl) (by omega)
        refine ⟨n + 1, by omega, fun i hi => ?_, ?_⟩
        · cases i with
          | zero => simpa using hs
          | succ i =>
            have := ha i (by omega)
            rw [show k + (i + 1) = k + 1 + i from by omega, show k + (i + 1 + 1) = k + 1 + (i + 1) from by omega]; exact this
        · rw [show k + (n + 1) = k + 1 + n from by omega, hb]
          simp [List.zipIdx_cons, hst]
  obtain ⟨n, hn, ha, hb'⟩ := key l 0 rfl (by omega)
  simp only [Nat.zero_add] at ha hb'
  exact loopM_trace (fun i => (i : Int)) n (by omega) ha hb'

theorem loop_all {α ρ : Type} {f : Int → Option (Int ⊕ ρ)} (l : List α) (P : Nat → α → Prop) {a b : ρ} (hb : l.length < 9223372036854775807)
    (h1 : ∀ (i : Nat) x, l[i]? = some x → i < l.length → f i = some (if P i x then .inl ((i : Int) + 1) else .inr a)) (h2 : f l.length = some (.inr b)) :
    loopM f 0 = some (if ∀ (i : Nat) x, l[i]? = some x → P i x then b else a) := by
  rw [loop_ix l (fun i x => if P i x then none else some a) b hb (fun i x hx hi => by rw [h1 i x hx hi]; split <;> rfl) h2]
  congr 1
  cases hf : l.zipIdx.findSome? (fun q => if P q.2 q.1 then none else some a) with
  | none =>
    rw [List.findSome?_eq_none_iff] at hf
    rw [if_pos]; · rfl
    intro i x hx
    have := hf (x, i) (by rw [List.mem_zipIdx_iff_getElem?]; simpa using hx)
    apply Classical.byContradiction
    intro hn
    simp [hn] at this
  | some r =>
    obtain ⟨q, hq, hr⟩ := List.exists_of_findSome?_eq_some hf
    rw [List.mem_zipIdx_iff_getElem?] at hq
    rw [if_neg]
    · split at hr
      · cases hr
      · simp only [Option.some.injEq] at hr; subst hr; rfl
    · intro hall
      have := hall q.2 q.1 (by simpa using hq)
      simp [this] at hr

abbrev Few {α : Type} (l : List α) : Prop := l.length ≤ 1000000
theorem few_of {α : Type} {l : List α} {k : Nat} (h : l.length ≤ k) (hk : k ≤ 1000000 := by decide) : Few l := by unfold Few; omega
def inL {α : Type} (l : List α) (i : Int) : Prop := 0 ≤ i ∧ i < l.length
theorem inL_iff {α : Type} {l : List α} {i : Int} : inL l i ↔ 0 ≤ i ∧ i < l.length := Iff.rfl
noncomputable def getI {α : Type} [Inhabited α] (l : List α) (i : Int) : α := (l[i.toNat]?).getD default
section
variable {α : Type} [Inhabited α] {l : List α} {i : Int}
theorem nth_getI (h : inL l i) : nth l i = some (getI l i) := by
  have h1 := h.1; have h2 := h.2
  have : i.toNat < l.length := by omega
  simp [nth, getI, h1, this]
theorem getI_nat {n : Nat} {x : α} (h : l[n]? = some x) : getI l n = x := by simp [getI, h]
theorem inL_nat {n : Nat} {x : α} (h : l[n]? = some x) : inL l n := ⟨by omega, by have := (List.getElem?_eq_some_iff.1 h).1; omega⟩
theorem getI_get? (h : inL l i) : l[i.toNat]? = some (getI l i) := (nth_out (nth_getI h)).2
theorem getI_mem (h : inL l i) : getI l i ∈ l := List.mem_of_getElem? (getI_get? h)
theorem mem_getI {x : α} (h : x ∈ l) : ∃ i, inL l i ∧ getI l i = x := by
  obtain ⟨i, hi⟩ := List.getElem?_of_mem h
  exact ⟨i, inL_nat hi, getI_nat hi⟩
end
def EachP {α : Type} [Inhabited α] (l : List α) (P : Int → α → Prop) : Prop := ∀ i, inL l i → P i (getI l i)
theorem eachP_nat {α : Type} [Inhabited α] {l : List α} {P : Int → α → Prop} : EachP l P ↔ ∀ (i : Nat) x, l[i]? = some x → P i x := by
  constructor
  · intro h i x hx
    have := h i (inL_nat hx)
    rwa [getI_nat hx] at this
  · intro h i hi
    have h1 := hi.1
    have := h i.toNat _ (getI_get? hi)
    rwa [show ((i.toNat : Nat) : Int) = i from by omega] at this
theorem loop_each {α ρ : Type} [Inhabited α] {f : Int → Option (Int ⊕ ρ)} (l : List α) (P : Int → α → Prop) (a b : ρ) (hb : Few l)
    (h1 : ∀ i : Int, 0 ≤ i → i < l.length → inL l i → f i = some (if P i (getI l i) then .inl (i + 1) else .inr a)) (h2 : f l.length = some (.inr b)) :
    loopM f 0 = if EachP l P then some b else some a := by
  rw [loop_all l (fun i x => P i x) (by unfold Few at hb; omega) (fun i x hx hi => by rw [h1 i (by omega) (by omega) (inL_nat hx), getI_nat hx]) h2]
  simp only [eachP_nat]
  split <;> rfl
theorem eachP_mem {α : Type} [Inhabited α] {l : List α} {P : α → Prop} : EachP l (fun _ x => P x) ↔ ∀ x ∈ l, P x := by
  rw [eachP_nat]
  constructor
  · intro h v hv
    obtain ⟨i, hi⟩ := List.getElem?_of_mem hv
    exact h i v hi
  · intro h i x hx
    exact h x (List.mem_of_getElem? hx)

/-! ### What is decided -/
section
variable {β γ : Type} {c p q : Prop}
theorem bind_ite [Decidable c] {x y : Option β} {k : β → Option γ} : (if c then x else y).bind k = if c then x.bind k else y.bind k := by split <;> rfl
theorem dif1 [Decidable c] [Decidable p] : (if c then some (decide p) else some false) = some (decide (c ∧ p)) := by by_cases c <;> simp [*]
theorem dif2 [Decidable c] [Decidable p] : (if c then some true else some (decide p)) = some (decide (c ∨ p)) := by by_cases c <;> simp [*]
theorem dif3 [Decidable c] [Decidable p] : (if c then some false else some (decide p)) = some (decide (¬ c ∧ p)) := by by_cases c <;> simp [*]
theorem dif4 [Decidable c] [Decidable p] : (if c then some (decide p) else some true) = some (decide (c → p)) := by by_cases c <;> simp [*]
theorem dif5 [Decidable c] [Decidable p] [Decidable q] : (if c then some (decide p) else some (decide q)) = some (decide ((c → p) ∧ (¬ c → q))) := by by_cases c <;> simp [*]
theorem dif6 [Decidable c] : (if c then some true else some false) = some (decide c) := by by_cases c <;> simp [*]
theorem dif7 [Decidable c] : (if c then some false else some true) = some (decide ¬ c) := by by_cases c <;> simp [*]
theorem dnot [Decidable p] : (!decide p) = decide (¬ p) := by simp
theorem ibeq {x y : Int} : (x == y) = decide (x = y) := by rw [Bool.eq_iff_iff]; simp
theorem ibne {x y : Int} : (x != y) = decide (x ≠ y) := by rw [Bool.eq_iff_iff]; simp
theorem sdec {_ : Decidable p} {_ : Decidable q} (h : p ↔ q) : some (decide p) = some (decide q) := by simp [h]
theorem if_not2 [Decidable p] [Decidable (¬ p)] {x y : β} : (if ¬ p then x else y) = if p then y else x := by by_cases p <;> simp [*]
theorem mrg1 [Decidable c] [Decidable p] {x y : β} : (if c then (if p then x else y) else y) = if c ∧ p then x else y := by by_cases c <;> simp [*]
theorem mrg2 [Decidable c] [Decidable p] {x y : β} : (if c then y else (if p then x else y)) = if ¬ c ∧ p then x else y := by by_cases c <;> simp [*]
theorem mrg3 [Decidable c] [Decidable p] {x y : β} : (if c then x else (if p then x else y)) = if c ∨ p then x else y := by by_cases c <;> simp [*]
theorem mrg4 [Decidable c] [Decidable p] {x y : β} : (if c then (if p then x else y) else x) = if c → p then x else y := by by_cases c <;> simp [*]
theorem mrg5 [Decidable c] {x : β} : (if c then x else x) = x := by simp
theorem mrg6 [Decidable c] [Decidable p] [Decidable q] {x y : β} : (if c then (if p then x else y) else (if q then x else y)) = if (c → p) ∧ (¬ c → q) then x else y := by by_cases c <;> simp [*]
theorem mrg7 [Decidable c] [Decidable p] [Decidable q] {x y : β} : (if c then (if p then x else y) else (if q then y else x)) = if (c → p) ∧ (¬ c → ¬ q) then x else y := by by_cases c <;> by_cases q <;> simp [*]
theorem fpos {_ : Decidable p} {_ : Decidable q} {x y : β} (h : q ↔ p) : (if q then some x else some y) = some (if p then x else y) := by by_cases p <;> simp [*]
theorem fneg {_ : Decidable p} {_ : Decidable q} {x y : β} (h : q ↔ ¬ p) : (if q then some y else some x) = some (if p then x else y) := by by_cases p <;> simp [*]
theorem ite_cg {α : Type} {l : List α} {i : Int} [Decidable (inL l i)] {x y u v : β} (h2 : inL l i → x = u) (h3 : ¬ inL l i → y = v) : (if inL l i then x else y) = (if inL l i then u else v) := ite_congr rfl h2 h3
end
def ixI : Option Nat → Int | some i => i | none => -1
theorem loop_findI {α : Type} [Inhabited α] {f : Int → Option (Int ⊕ (Int ⊕ Unit))} (l : List α) (p : α → Bool) (hb : Few l)
    (h1 : ∀ i : Int, 0 ≤ i → i < l.length → inL l i → f i = some (if p (getI l i) = true then .inr (.inl i) else .inl (i + 1))) (h2 : f l.length = some (.inr (.inr ()))) :
    loopM f 0 = match l.findIdx? p with | some i => some (.inl (i : Int)) | none => some (.inr ()) := by
  have h := loop_ix l (fun i x => if p x = true then some (.inl (i : Int)) else none) (.inr ()) (f := f) (by unfold Few at hb; omega) (fun i x hx hi => by rw [h1 i (by omega) (by omega) (inL_nat hx), getI_nat hx]; split <;> rfl) h2
  rw [h]
  have key : ∀ (l : List α) (k : Nat), ((l.zipIdx k).findSome? (fun q => if p q.1 = true then some (Sum.inl (q.2 : Int)) else none)).getD (Sum.inr ()) = (match l.findIdx? p with | some i => Sum.inl ((k + i : Nat) : Int) | none => Sum.inr () : Int ⊕ Unit) := by
    intro l
    induction l with
    | nil => intro k; rfl
    | cons x l ih =>
      intro k
      rw [List.zipIdx_cons, List.findSome?_cons, List.findIdx?_cons]
      by_cases hp : p x = true
      · simp [hp]
      · simp only [hp]
        have := ih (k + 1)
        simp only [Bool.false_eq_true, if_false] at this ⊢
        rw [this]
        cases List.findIdx? p l with
        | none => rfl
        | some i => simp; omega
  rw [key l 0]
  cases l.findIdx? p <;> simp
theorem loop_fold {α σ τ ρ : Type} {f : τ → Option (τ ⊕ ρ)} (l : List α) (st : σ → Int → τ) (g : Nat → α → σ → σ) (s0 : σ) {out : σ → ρ} (hb : l.length < 9223372036854775807) (I : Nat → σ → Prop) (h0 : I 0 s0)
    (h1 : ∀ (i : Nat) x s, l[i]? = some x → i < l.length → I i s → f (st s i) = some (.inl (st (g i x s) ((i : Int) + 1))) ∧ I (i + 1) (g i x s)) (h2 : ∀ s, I l.length s → f (st s l.length) = some (.inr (out s))) :
    loopM f (st s0 0) = some (out (l.zipIdx.foldl (fun s q => g q.2 q.1 s) s0)) := by
  let S : Nat → σ := fun i => (l.zipIdx.take i).foldl (fun s q => g q.2 q.1 s) s0
  have hS : ∀ i x, l[i]? = some x → S (i + 1) = g i x (S i) := by
    intro i x hx
    have hz : l.zipIdx[i]? = some (x, i) := by simp [hx]
    simp only [S]
    rw [List.take_add_one, hz]
    simp
  have hI : ∀ i, i ≤ l.length → I i (S i) := by
    intro i
    induction i with
    | zero => intro _; exact h0
    | succ i ih =>
      intro hi
      have hx : l[i]? = some l[i] := List.getElem?_eq_getElem (by omega)
      rw [hS i _ hx]
      exact (h1 i _ _ hx (by omega) (ih (by omega))).2
  have hend : S l.length = l.zipIdx.foldl (fun s q => g q.2 q.1 s) s0 := by
    simp only [S]
    rw [List.take_of_length_le (by simp)]
  have := loopM_trace (f := f) (fun i => st (S i) i) l.length (r := out (S l.length)) (by omega) (fun i hi => by
    have hx : l[i]? = some l[i] := List.getElem?_eq_getElem hi
    have := (h1 i _ (S i) hx hi (hI i (by omega))).1
    rw [← hS i _ hx] at this
    rw [this]; simp) (h2 _ (hI _ (Nat.le_refl _)))
  rw [hend] at this
  exact this

noncomputable def fstI {α : Type} (l : List α) (P : α → Prop) : Int := ixI (l.findIdx? fun x => decide (P x))
section
variable {α : Type} [Inhabited α] {l : List α} {P : α → Prop}
theorem fstI_cases : (fstI l P = -1 ∧ ∀ i, inL l i → ¬ P (getI l i)) ∨ (inL l (fstI l P) ∧ P (getI l (fstI l P)) ∧ ∀ j, inL l j → j < fstI l P → ¬ P (getI l j)) := by
  unfold fstI
  cases h : l.findIdx? fun x => decide (P x) with
  | none =>
    rw [List.findIdx?_eq_none_iff] at h
    refine .inl ⟨rfl, fun i hi => ?_⟩
    have := h _ (getI_mem hi)
    simpa using this
  | some n =>
    rw [List.findIdx?_eq_some_iff_getElem] at h
    obtain ⟨hn, h1, h2⟩ := h
    refine .inr ⟨⟨by simp [ixI], by simpa [ixI] using hn⟩, ?_, fun j hj hlt => ?_⟩
    · simp only [ixI]; rw [getI_nat (List.getElem?_eq_getElem hn)]; simpa using h1
    · simp only [ixI] at hlt
      have hj0 := hj.1
      have := h2 j.toNat (by omega)
      rw [show getI l j = l[j.toNat]'(by omega) from by
        have := getI_get? hj
        exact ((List.getElem?_eq_some_iff.1 this).2).symm]
      simpa using this
theorem fstI_ge : -1 ≤ fstI l P := by unfold fstI ixI; split <;> omega
theorem fstI_inL : 0 ≤ fstI l P ↔ inL l (fstI l P) := by
  rcases fstI_cases (l := l) (P := P) with h | h
  · rw [h.1]; simp [inL]
  · exact ⟨fun _ => h.1, fun h => h.1⟩
theorem fstI_is (h : 0 ≤ fstI l P) : P (getI l (fstI l P)) := by
  rcases fstI_cases (l := l) (P := P) with h1 | h1
  · omega
  · exact h1.2.1
theorem fstI_first {j : Int} (hj : inL l j) (hp : P (getI l j)) : 0 ≤ fstI l P ∧ fstI l P ≤ j := by
  rcases fstI_cases (l := l) (P := P) with h1 | h1
  · exact absurd hp (h1.2 j hj)
  · refine ⟨h1.1.1, ?_⟩
    apply Classical.byContradiction
    intro hn
    exact h1.2.2 j hj (by omega) hp
theorem fstI_none : fstI l P < 0 ↔ ∀ i, inL l i → ¬ P (getI l i) := by
  constructor
  · intro h i hi hp
    have := fstI_first hi hp; omega
  · intro h
    rcases fstI_cases (l := l) (P := P) with h1 | h1
    · omega
    · exact absurd h1.2.1 (h _ h1.1)
theorem fstI_none_mem : fstI l P < 0 ↔ ∀ x ∈ l, ¬ P x := by
  rw [fstI_none]
  constructor
  · intro h x hx
    obtain ⟨i, hi, rfl⟩ := mem_getI hx
    exact h i hi
  · exact fun h i hi => h _ (getI_mem hi)
theorem fstI_eq {i : Int} (hi : inL l i) : fstI l P = i ↔ P (getI l i) ∧ ∀ j, inL l j → j < i → ¬ P (getI l j) := by
  constructor
  · intro h
    subst h
    exact ⟨fstI_is hi.1, fun j hj hlt hp => by have := fstI_first hj hp; omega⟩
  · rintro ⟨h1, h2⟩
    have h3 := fstI_first hi h1
    have h4 := fstI_inL.1 h3.1
    have h5 := fstI_is h3.1
    by_cases h : fstI l P < i
    · exact absurd h5 (h2 _ h4 h)
    · omega
theorem loop_first {f : Int → Option (Int ⊕ (Int ⊕ Unit))} (l : List α) (P : α → Prop) (hb : Few l)
    (h1 : ∀ i : Int, 0 ≤ i → i < l.length → inL l i → f i = some (if P (getI l i) then .inr (.inl i) else .inl (i + 1))) (h2 : f l.length = some (.inr (.inr ()))) :
    loopM f 0 = if 0 ≤ fstI l P then some (.inl (fstI l P)) else some (.inr ()) := by
  rw [loop_findI l (fun x => decide (P x)) hb (fun i a b c => by rw [h1 i a b c]; by_cases h : P (getI l i) <;> simp [h]) h2]
  unfold fstI
  cases l.findIdx? fun x => decide (P x) <;> simp [ixI]
theorem fst_ret : (if 0 ≤ fstI l P then some (fstI l P) else some (-1)) = some (fstI l P) := by
  split
  · rfl
  · have := fstI_ge (l := l) (P := P)
    congr 1; omega
end

theorem roomy_few {α : Type} {l : List α} {b : Nat} (h : l.length ≤ 1000100) (hb : b ≤ 100000000 := by decide) : roomy b l = true := by
  unfold roomy
  have := Nat.mul_le_mul h hb
  exact decide_eq_true ⟨by omega, by omega⟩

noncomputable def gatherI {α β : Type} (l : List α) (P : Int → α → Prop) (e : Int → α → β) : List β := l.zipIdx.filterMap fun q => if P q.2 q.1 then some (e q.2 q.1) else none
section
variable {α β : Type} [Inhabited α] {l : List α} {P : Int → α → Prop} {e : Int → α → β}
theorem gatherI_len : (gatherI l P e).length ≤ l.length := by
  unfold gatherI
  refine Nat.le_trans (List.length_filterMap_le _ _) (by simp)
theorem mem_gatherI {y : β} : y ∈ gatherI l P e ↔ ∃ i, inL l i ∧ P i (getI l i) ∧ y = e i (getI l i) := by
  unfold gatherI
  rw [List.mem_filterMap]
  constructor
  · rintro ⟨⟨x, i⟩, hq, hy⟩
    rw [List.mem_zipIdx_iff_getElem?] at hq
    simp only at hq hy
    split at hy
    · rename_i hp
      refine ⟨i, inL_nat hq, ?_, ?_⟩
      · rw [getI_nat hq]; exact hp
      · rw [getI_nat hq]; simpa using hy.symm
    · cases hy
  · rintro ⟨i, hi, hp, rfl⟩
    have hi0 := hi.1
    refine ⟨(getI l i, i.toNat), ?_, ?_⟩
    · rw [List.mem_zipIdx_iff_getElem?]; exact getI_get? hi
    · simp only
      rw [show ((i.toNat : Nat) : Int) = i from by omega, if_pos hp]
end
theorem loop_gather {α β ρ : Type} [Inhabited α] {f : List β × Int → Option ((List β × Int) ⊕ ρ)} (l : List α) (P : Int → α → Prop) (e : Int → α → β) {out : List β → ρ} (hb : Few l)
    (h1 : ∀ (i : Int) (s : List β), 0 ≤ i → i < l.length → inL l i → s.length ≤ i → f (s, i) = some (.inl (if P i (getI l i) then s ++ [e i (getI l i)] else s, i + 1))) (h2 : ∀ s, f (s, l.length) = some (.inr (out s))) :
    loopM f ([], 0) = some (out (gatherI l P e)) := by
  have := loop_fold (f := f) l (fun s i => (s, i)) (fun i x s => if P i x then s ++ [e i x] else s) [] (out := out) (by unfold Few at hb; omega) (fun i s => s.length ≤ i) (by simp) (fun i x s hx hi hs => by
    have h := h1 i s (by omega) (by omega) (inL_nat hx) (by omega)
    rw [getI_nat hx] at h
    refine ⟨h, ?_⟩
    split
    · simp; omega
    · omega) (fun s _ => h2 s)
  have key : ∀ (q : List (α × Nat)) (s : List β), q.foldl (fun s q => if P q.2 q.1 then s ++ [e q.2 q.1] else s) s = s ++ q.filterMap fun q => if P q.2 q.1 then some (e q.2 q.1) else none := by
    intro q
    induction q with
    | nil => intro s; simp
    | cons a q ih =>
      intro s
      rw [List.foldl_cons, ih, List.filterMap_cons]
      by_cases h : P a.2 a.1 <;> simp [h]
  rw [this, key l.zipIdx []]
  rfl

theorem lin_dec {α : Type} {l : List α} {i : Int} : lin l i = decide (inL l i) := by unfold lin inL; exact decide_eq_decide.2 Iff.rfl
section
variable {α : Type} [Inhabited α] {l : List α}
theorem mem_take_getI {j : Int} {x : α} : x ∈ l.take j.toNat ↔ ∃ k, inL l k ∧ k < j ∧ getI l k = x := by
  rw [List.mem_take_iff_getElem]
  constructor
  · rintro ⟨i, hi, rfl⟩
    have h1 : i < l.length := by omega
    exact ⟨i, ⟨by omega, by omega⟩, by omega, getI_nat (List.getElem?_eq_getElem h1)⟩
  · rintro ⟨k, hk, hlt, rfl⟩
    have h0 := hk.1; have h1 := hk.2
    refine ⟨k.toNat, by omega, ?_⟩
    have := getI_get? hk
    exact (List.getElem?_eq_some_iff.1 this).2
end
theorem slok_dec {n : Nat} {a b : Int} : slok n a b = decide (0 ≤ a ∧ a ≤ b ∧ b ≤ n) := rfl
end Go.Eng

set_option linter.unusedVariables false
set_option linter.unusedSectionVars false
set_option linter.unusedSimpArgs false
namespace Go.Eng
open Go Classical
attribute [local congr] ite_cg

theorem place_Device_spec {l i} : names_place_Device l i = some (decide (inL l i)) := by simp only [names_place_Device, bind_ite, Option.bind_some, dif1, dif2, dif3, dif4, dif5, dif6, dif7, dnot, ibeq, ibne, decide_eq_true_eq, if_not2, ge_iff_le, gt_iff_lt, fst_ret, Bool.false_eq_true, decide_false]; exact sdec Iff.rfl
theorem place_Port_spec {l i} : names_place_Port l i = some (decide (inL l i)) := by simp only [names_place_Port, bind_ite, Option.bind_some, dif1, dif2, dif3, dif4, dif5, dif6, dif7, dnot, ibeq, ibne, decide_eq_true_eq, if_not2, ge_iff_le, gt_iff_lt, fst_ret, Bool.false_eq_true, decide_false]; exact sdec Iff.rfl
theorem place_Link_spec {l i} : names_place_Link l i = some (decide (inL l i)) := by simp only [names_place_Link, bind_ite, Option.bind_some, dif1, dif2, dif3, dif4, dif5, dif6, dif7, dnot, ibeq, ibne, decide_eq_true_eq, if_not2, ge_iff_le, gt_iff_lt, fst_ret, Bool.false_eq_true, decide_false]; exact sdec Iff.rfl
theorem place_Domain_spec {l i} : names_place_Domain l i = some (decide (inL l i)) := by simp only [names_place_Domain, bind_ite, Option.bind_some, dif1, dif2, dif3, dif4, dif5, dif6, dif7, dnot, ibeq, ibne, decide_eq_true_eq, if_not2, ge_iff_le, gt_iff_lt, fst_ret, Bool.false_eq_true, decide_false]; exact sdec Iff.rfl
theorem place_Irb_spec {l i} : names_place_Irb l i = some (decide (inL l i)) := by simp only [names_place_Irb, bind_ite, Option.bind_some, dif1, dif2, dif3, dif4, dif5, dif6, dif7, dnot, ibeq, ibne, decide_eq_true_eq, if_not2, ge_iff_le, gt_iff_lt, fst_ret, Bool.false_eq_true, decide_false]; exact sdec Iff.rfl
theorem place_Vrf_spec {l i} : names_place_Vrf l i = some (decide (inL l i)) := by simp only [names_place_Vrf, bind_ite, Option.bind_some, dif1, dif2, dif3, dif4, dif5, dif6, dif7, dnot, ibeq, ibne, decide_eq_true_eq, if_not2, ge_iff_le, gt_iff_lt, fst_ret, Bool.false_eq_true, decide_false]; exact sdec Iff.rfl

theorem Index_int_spec {l : List Int} {x : Int} (hl : Few l) : slices_Index_int l x = some (fstI l (fun y => x = y)) := by
  unfold slices_Index_int
  rw [loop_first l (fun y => x = y) hl (fun i h0 h1 h2 => by simp (disch := omega) only [slices_Index_int_L1, h1, nth_getI h2, wr64, bind_ite, Option.bind_some, dif1, dif2, dif3, dif4, dif5, dif6, dif7, dnot, ibeq, ibne, decide_eq_true_eq, if_not2, ge_iff_le, gt_iff_lt, fst_ret, Bool.false_eq_true, decide_false, decide_true, if_true]; split <;> rfl) (by simp [slices_Index_int_L1])]
  simp only [bind_ite, Option.bind_some, dif1, dif2, dif3, dif4, dif5, dif6, dif7, dnot, ibeq, ibne, decide_eq_true_eq, if_not2, ge_iff_le, gt_iff_lt, fst_ret, Bool.false_eq_true, decide_false]

theorem Contains_int_spec {l : List Int} {x : Int} (hl : Few l) : slices_Contains_int l x = some (decide (x ∈ l)) := by
  unfold slices_Contains_int
  rw [Index_int_spec hl]
  simp only [bind_ite, Option.bind_some, dif1, dif2, dif3, dif4, dif5, dif6, dif7, dnot, ibeq, ibne, decide_eq_true_eq, if_not2, ge_iff_le, gt_iff_lt, fst_ret, Bool.false_eq_true, decide_false]
  refine sdec ?_
  have := fstI_none_mem (l := l) (P := fun y => x = y)
  constructor
  · intro h
    apply Classical.byContradiction
    intro hn
    have := this.2 (fun y hy e => hn (e ▸ hy)); omega
  · intro h
    apply Classical.byContradiction
    intro hn
    exact this.1 (by omega) x h rfl

/-! ### The net -/
structure SmN (n : Api_Net) : Prop where
  devices : Few n.devices
  ports : Few n.ports
  links : Few n.links
  domains : Few n.domains
  statics : Few n.statics
  floods : Few n.floods
  vrfs : Few n.vrfs
  irbs : Few n.irbs
  tagged : ∀ p ∈ n.ports, Few p.tagged
  peers : ∀ d ∈ n.domains, Few d.peers
  addrs : ∀ f ∈ n.floods, Few f.addrs
  imports : ∀ v ∈ n.vrfs, Few v.imports
  exports : ∀ v ∈ n.vrfs, Few v.exports

noncomputable def domIx (l : List Api_Domain) (dev vlan : Int) : Int := fstI l fun d => d.dev = dev ∧ d.vlan = vlan

theorem IndexFunc_judge_domain_spec {l a b} (hl : Few l) : slices_IndexFunc_Domain_judge_domain_1 l a b = some (domIx l a b) := by
  unfold slices_IndexFunc_Domain_judge_domain_1
  rw [loop_first l (fun d => d.dev = a ∧ d.vlan = b) hl (fun i h0 h1 h2 => by simp (disch := omega) only [slices_IndexFunc_Domain_judge_domain_1_L1, names_judge_domain_1, h1, nth_getI h2, wr64, bind_ite, Option.bind_some, dif1, dif2, dif3, dif4, dif5, dif6, dif7, dnot, ibeq, ibne, decide_eq_true_eq, if_not2, ge_iff_le, gt_iff_lt, fst_ret, Bool.false_eq_true, decide_false, decide_true, if_true]; split <;> rfl) (by simp [slices_IndexFunc_Domain_judge_domain_1_L1])]
  simp only [bind_ite, Option.bind_some, dif1, dif2, dif3, dif4, dif5, dif6, dif7, dnot, ibeq, ibne, decide_eq_true_eq, if_not2, ge_iff_le, gt_iff_lt, fst_ret, Bool.false_eq_true, decide_false]
  rfl

theorem judge_domain_spec {j a b} (hl : Few j.n.domains) : names_judge_domain j a b = some (domIx j.n.domains a b) := by
  simp only [names_judge_domain, IndexFunc_judge_domain_spec hl, bind_ite, Option.bind_some, dif1, dif2, dif3, dif4, dif5, dif6, dif7, dnot, ibeq, ibne, decide_eq_true_eq, if_not2, ge_iff_le, gt_iff_lt, fst_ret, Bool.false_eq_true, decide_false]

def BareP (n : Api_Net) (i : Int) (d : Api_Domain) : Prop :=
  inL n.devices d.dev ∧ 1 ≤ d.vlan ∧ d.vlan ≤ 4094 ∧ 0 ≤ d.vni ∧ d.vni ≤ 16777215 ∧ (d.irb = -1 ∨ inL n.irbs d.irb ∧ (getI n.irbs d.irb).domain = i) ∧ domIx n.domains d.dev d.vlan = i

theorem judge_bare_spec {n : Api_Net} {i : Int} {d} (hl : Few n.domains) : names_judge_bare ⟨n⟩ i d = some (decide (BareP n i d)) := by
  simp +contextual only [names_judge_bare, place_Device_spec, place_Irb_spec, judge_domain_spec (j := ⟨n⟩) hl, nth_getI, bind_ite, Option.bind_some, dif1, dif2, dif3, dif4, dif5, dif6, dif7, dnot, ibeq, ibne, decide_eq_true_eq, if_not2, ge_iff_le, gt_iff_lt, fst_ret, Bool.false_eq_true, decide_false]
  refine sdec ?_
  unfold BareP
  grind

def vtepP (n : Api_Net) (dev : Int) : Prop := (getI n.devices dev).vtep ≠ 0
theorem judge_vtep_spec {n : Api_Net} {d : Api_Domain} (h : inL n.devices d.dev) : names_judge_vtep ⟨n⟩ d = some (decide (vtepP n d.dev)) := by
  simp only [names_judge_vtep, nth_getI h, bind_ite, Option.bind_some, dif1, dif2, dif3, dif4, dif5, dif6, dif7, dnot, ibeq, ibne, decide_eq_true_eq, if_not2, ge_iff_le, gt_iff_lt, fst_ret, Bool.false_eq_true, decide_false]; exact sdec Iff.rfl

def PeerP (n : Api_Net) (i : Int) (d : Api_Domain) (k : Int) : Prop :=
  inL n.domains k ∧ k ≠ i ∧ inL n.devices (getI n.domains k).dev ∧ (getI n.domains k).dev ≠ d.dev ∧ (getI n.domains k).vni = d.vni ∧ d.vni ≠ 0 ∧ vtepP n (getI n.domains k).dev ∧ vtepP n d.dev ∧ i ∈ (getI n.domains k).peers

theorem judge_peer_spec {n : Api_Net} (hs : SmN n) {i : Int} {d : Api_Domain} (hd : inL n.devices d.dev) {k : Int} : names_judge_peer ⟨n⟩ i d k = some (decide (PeerP n i d k)) := by
  have hp : inL n.domains k → Few (getI n.domains k).peers := fun h => hs.peers _ (getI_mem h)
  simp +contextual only [names_judge_peer, place_Domain_spec, place_Device_spec, judge_vtep_spec, hd, Contains_int_spec, hp, nth_getI, bind_ite, Option.bind_some, dif1, dif2, dif3, dif4, dif5, dif6, dif7, dnot, ibeq, ibne, decide_eq_true_eq, if_not2, ge_iff_le, gt_iff_lt, fst_ret, Bool.false_eq_true, decide_false]
  refine sdec ?_
  unfold PeerP
  grind

def PeersP (n : Api_Net) (i : Int) (d : Api_Domain) : Prop := EachP d.peers fun j k => PeerP n i d k ∧ fstI d.peers (fun y => k = y) = j

theorem judge_peers_spec {n : Api_Net} (hs : SmN n) {i : Int} {d : Api_Domain} (hd : inL n.devices d.dev) (hp : Few d.peers) : names_judge_peers ⟨n⟩ i d = some (decide (PeersP n i d)) := by
  unfold names_judge_peers names_all_int_judge_peers_1
  rw [loop_each d.peers (fun j k => PeerP n i d k ∧ fstI d.peers (fun y => k = y) = j) (.inl ()) (.inr ()) hp (fun j h0 h1 h2 => by
    simp (disch := omega) only [names_all_int_judge_peers_1_L1, names_judge_peers_1, h1, nth_getI h2, wr64, judge_peer_spec hs hd, Index_int_spec hp, bind_ite, Option.bind_some, dif1, dif2, dif3, dif4, dif5, dif6, dif7, dnot, ibeq, ibne, decide_eq_true_eq, if_not2, ge_iff_le, gt_iff_lt, fst_ret, Bool.false_eq_true, decide_false, decide_true, if_true]; split <;> rfl) (by simp [names_all_int_judge_peers_1_L1])]
  simp only [bind_ite, Option.bind_some, dif1, dif2, dif3, dif4, dif5, dif6, dif7, dnot, ibeq, ibne, decide_eq_true_eq, if_not2, ge_iff_le, gt_iff_lt, fst_ret, Bool.false_eq_true, decide_false]
  rfl

def RisingP (l : List Int) (a b : Int) : Prop := (EachP l fun i x => a ≤ x ∧ x ≤ b ∧ (0 < i → getI l (i - 1) < x)) ∧ 0 < l.length ∧ l.length ≤ 16

theorem num_Rising_spec {l : List Int} {a b : Int} (hl : Few l) : num_Rising l a b = some (decide (RisingP l a b)) := by
  unfold num_Rising
  rw [loop_each l (fun i x => a ≤ x ∧ x ≤ b ∧ (0 < i → getI l (i - 1) < x)) (.inl ()) (.inr ()) hl (fun i h0 h1 h2 => by
    by_cases hi : 0 < i
    · have h3 : inL l (i - 1) := ⟨by omega, by omega⟩
      simp (disch := omega) only [num_Rising_L1, h1, hi, nth_getI h2, wr64, nth_getI h3, bind_ite, Option.bind_some, dif1, dif2, dif3, dif4, dif5, dif6, dif7, dnot, ibeq, ibne, decide_eq_true_eq, if_not2, ge_iff_le, gt_iff_lt, fst_ret, Bool.false_eq_true, decide_false, decide_true, if_true]
      grind
    · simp (disch := omega) only [num_Rising_L1, h1, hi, nth_getI h2, wr64, bind_ite, Option.bind_some, dif1, dif2, dif3, dif4, dif5, dif6, dif7, dnot, ibeq, ibne, decide_eq_true_eq, if_not2, ge_iff_le, gt_iff_lt, fst_ret, Bool.false_eq_true, decide_false, decide_true, if_true]
      grind) (by simp [num_Rising_L1])]
  simp only [bind_ite, Option.bind_some, dif1, dif2, dif3, dif4, dif5, dif6, dif7, dnot, ibeq, ibne, decide_eq_true_eq, if_not2, ge_iff_le, gt_iff_lt, fst_ret, Bool.false_eq_true, decide_false]
  refine sdec (and_congr Iff.rfl ?_)
  omega

def RiseP (l : List Int) (b : Int) : Prop := l = [] ∨ RisingP l 1 b
theorem rising_spec {l : List Int} {b : Int} (hl : Few l) : names_rising l b = some (decide (RiseP l b)) := by
  simp only [names_rising, num_Rising_spec hl, bind_ite, Option.bind_some, dif1, dif2, dif3, dif4, dif5, dif6, dif7, dnot, ibeq, ibne, decide_eq_true_eq, if_not2, ge_iff_le, gt_iff_lt, fst_ret, Bool.false_eq_true, decide_false]
  refine sdec ?_
  unfold RiseP
  cases l <;> simp; omega

def PortP (n : Api_Net) (i : Int) (p : Api_Port) : Prop :=
  inL n.devices p.dev ∧ 0 ≤ p.native ∧ p.native ≤ 4094 ∧ RiseP p.tagged 4094 ∧ p.native ∉ p.tagged ∧ ¬ (p.native = 0 ∧ p.tagged = []) ∧ (∀ v ∈ p.tagged, 0 ≤ domIx n.domains p.dev v) ∧
  (0 < p.native → 0 ≤ domIx n.domains p.dev p.native) ∧ (p.link = -1 ∨ inL n.links p.link ∧ ((getI n.links p.link).a = i ∨ (getI n.links p.link).b = i))

theorem judge_port_spec {n : Api_Net} (hs : SmN n) {i : Int} {p : Api_Port} (hp : Few p.tagged) : names_judge_port ⟨n⟩ i p = some (decide (PortP n i p)) := by
  have hl : loopM (names_judge_port_L2 ⟨n⟩ i p) 0 = if ∀ v ∈ p.tagged, 0 ≤ domIx n.domains p.dev v then some (.inr ()) else some (.inl ()) := by
    rw [loop_each p.tagged (fun _ v => 0 ≤ domIx n.domains p.dev v) (.inl ()) (.inr ()) hp (fun j h0 h1 h2 => by
      simp (disch := omega) only [names_judge_port_L2, judge_domain_spec (j := ⟨n⟩) hs.domains, nth_getI h2, wr64, h1, bind_ite, Option.bind_some, dif1, dif2, dif3, dif4, dif5, dif6, dif7, dnot, ibeq, ibne, decide_eq_true_eq, if_not2, ge_iff_le, gt_iff_lt, fst_ret, Bool.false_eq_true, decide_false, mrg1, mrg2, mrg3, mrg4, mrg5, mrg6, mrg7, decide_true, if_true]
      exact fneg (by omega)) (by simp [names_judge_port_L2])]
    simp only [eachP_mem]
  have h3 : ((p.tagged.length : Int) = 0) ↔ p.tagged = [] := by simp
  by_cases c : inL n.links p.link <;>
    simp only [names_judge_port, names_judge_port_J1, names_judge_port_J3, place_Device_spec, place_Link_spec, rising_spec hp, Contains_int_spec hp, hl, judge_domain_spec (j := ⟨n⟩) hs.domains, nth_getI, c, h3, bind_ite, Option.bind_some, dif1, dif2, dif3, dif4, dif5, dif6, dif7, dnot, ibeq, ibne, decide_eq_true_eq, if_not2, ge_iff_le, gt_iff_lt, fst_ret, Bool.false_eq_true, decide_false, mrg1, mrg2, mrg3, mrg4, mrg5, mrg6, mrg7, decide_true, if_true, if_false, decide_false] <;>
    refine sdec ?_ <;> unfold PortP <;> simp only [c] <;> clear hl <;>
    generalize (∀ v ∈ p.tagged, 0 ≤ domIx n.domains p.dev v) = A <;>
    generalize domIx n.domains p.dev p.native = B <;>
    generalize RiseP p.tagged 4094 = C <;>
    generalize inL n.devices p.dev = E <;>
    generalize (p.native ∈ p.tagged) = G <;>
    generalize (p.tagged = []) = F <;> grind

def LinkP (n : Api_Net) (i : Int) (l : Api_Link) : Prop :=
  inL n.ports l.a ∧ inL n.ports l.b ∧ (getI n.ports l.a).dev ≠ (getI n.ports l.b).dev ∧ (getI n.ports l.a).link = i ∧ (getI n.ports l.b).link = i
theorem judge_link_spec {n : Api_Net} {i : Int} {l : Api_Link} : names_judge_link ⟨n⟩ i l = some (decide (LinkP n i l)) := by
  simp +contextual only [names_judge_link, place_Port_spec, nth_getI, bind_ite, Option.bind_some, dif1, dif2, dif3, dif4, dif5, dif6, dif7, dnot, ibeq, ibne, decide_eq_true_eq, if_not2, ge_iff_le, gt_iff_lt, fst_ret, Bool.false_eq_true, decide_false]
  exact sdec (by unfold LinkP; grind)

def MemP (p : Api_Port) (v : Int) : Prop := v ≠ 0 ∧ (v = p.native ∨ v ∈ p.tagged)
theorem Member_spec {p : Api_Port} {v : Int} (hp : Few p.tagged) : names_Member p v = some (decide (MemP p v)) := by
  simp +contextual only [names_Member, Contains_int_spec hp, bind_ite, Option.bind_some, dif1, dif2, dif3, dif4, dif5, dif6, dif7, dnot, ibeq, ibne, decide_eq_true_eq, if_not2, ge_iff_le, gt_iff_lt, fst_ret, Bool.false_eq_true, decide_false]
  exact sdec Iff.rfl

def StaticP (n : Api_Net) (s : Api_Static) : Prop :=
  inL n.domains s.domain ∧ inL n.ports s.port ∧ (getI n.ports s.port).dev = (getI n.domains s.domain).dev ∧ MemP (getI n.ports s.port) (getI n.domains s.domain).vlan
theorem judge_static_spec {n : Api_Net} (hs : SmN n) {i : Int} {s : Api_Static} : names_judge_static ⟨n⟩ i s = some (decide (StaticP n s)) := by
  have hp : inL n.ports s.port → Few (getI n.ports s.port).tagged := fun h => hs.tagged _ (getI_mem h)
  simp +contextual only [names_judge_static, place_Port_spec, place_Domain_spec, Member_spec, hp, nth_getI, bind_ite, Option.bind_some, dif1, dif2, dif3, dif4, dif5, dif6, dif7, dnot, ibeq, ibne, decide_eq_true_eq, if_not2, ge_iff_le, gt_iff_lt, fst_ret, Bool.false_eq_true, decide_false]
  exact sdec Iff.rfl

def FloodP (n : Api_Net) (f : Api_Flood) : Prop := inL n.devices f.dev ∧ f.addrs.length ≤ 16
theorem Right_1_spec {n : Api_Net} {i : Int} {f : Api_Flood} : names_Right_1 i f n = some (decide (FloodP n f)) := by
  simp +contextual only [names_Right_1, place_Device_spec, bind_ite, Option.bind_some, dif1, dif2, dif3, dif4, dif5, dif6, dif7, dnot, ibeq, ibne, decide_eq_true_eq, if_not2, ge_iff_le, gt_iff_lt, fst_ret, Bool.false_eq_true, decide_false]
  exact sdec (and_congr Iff.rfl (by omega))

def VrfP (n : Api_Net) (f : Api_Vrf) : Prop := inL n.devices f.dev ∧ RiseP f.imports 65535 ∧ RiseP f.exports 65535
theorem Right_2_spec {n : Api_Net} {i : Int} {f : Api_Vrf} (h1 : Few f.imports) (h2 : Few f.exports) : names_Right_2 i f n = some (decide (VrfP n f)) := by
  simp +contextual only [names_Right_2, place_Device_spec, rising_spec h1, rising_spec h2, bind_ite, Option.bind_some, dif1, dif2, dif3, dif4, dif5, dif6, dif7, dnot, ibeq, ibne, decide_eq_true_eq, if_not2, ge_iff_le, gt_iff_lt, fst_ret, Bool.false_eq_true, decide_false]
  exact sdec Iff.rfl

def IrbP (n : Api_Net) (i : Int) (x : Api_Irb) : Prop :=
  inL n.domains x.domain ∧ inL n.vrfs x.vrf ∧ (getI n.domains x.domain).dev = (getI n.vrfs x.vrf).dev ∧ (getI n.domains x.domain).irb = i ∧ 1 ≤ x.net.bits ∧ x.net.bits ≤ 30
theorem judge_irb_spec {n : Api_Net} {i : Int} {x : Api_Irb} : names_judge_irb ⟨n⟩ i x = some (decide (IrbP n i x)) := by
  simp +contextual only [names_judge_irb, place_Vrf_spec, place_Domain_spec, nth_getI, bind_ite, Option.bind_some, dif1, dif2, dif3, dif4, dif5, dif6, dif7, dnot, ibeq, ibne, decide_eq_true_eq, if_not2, ge_iff_le, gt_iff_lt, fst_ret, Bool.false_eq_true, decide_false]
  exact sdec Iff.rfl

def FewP (n : Api_Net) : Prop := n.devices.length ≤ 8 ∧ n.ports.length ≤ 40 ∧ n.links.length ≤ 20 ∧ n.domains.length ≤ 48 ∧ n.statics.length ≤ 64 ∧ n.floods.length ≤ 48 ∧ n.vrfs.length ≤ 16 ∧ n.irbs.length ≤ 48
theorem judge_few_spec {n : Api_Net} : names_judge_few ⟨n⟩ = some (decide (FewP n)) := by
  simp +contextual only [names_judge_few, bind_ite, Option.bind_some, dif1, dif2, dif3, dif4, dif5, dif6, dif7, dnot, ibeq, ibne, decide_eq_true_eq, if_not2, ge_iff_le, gt_iff_lt, fst_ret, Bool.false_eq_true, decide_false]
  exact sdec (by unfold FewP; omega)

structure RightP (n : Api_Net) : Prop where
  few : FewP n
  bare : EachP n.domains (BareP n)
  peers : EachP n.domains (PeersP n)
  ports : EachP n.ports (PortP n)
  links : EachP n.links (LinkP n)
  statics : EachP n.statics fun _ x => StaticP n x
  floods : EachP n.floods fun _ x => FloodP n x
  vrfs : EachP n.vrfs fun _ x => VrfP n x
  irbs : EachP n.irbs (IrbP n)
theorem rightP_iff {n : Api_Net} : RightP n ↔ FewP n ∧ EachP n.domains (BareP n) ∧ EachP n.domains (PeersP n) ∧ EachP n.ports (PortP n) ∧ EachP n.links (LinkP n) ∧ EachP n.statics (fun _ x => StaticP n x) ∧
    EachP n.floods (fun _ x => FloodP n x) ∧ EachP n.vrfs (fun _ x => VrfP n x) ∧ EachP n.irbs (IrbP n) :=
  ⟨fun ⟨a, b, c, d, e, f, g, h, i⟩ => ⟨a, b, c, d, e, f, g, h, i⟩, fun ⟨a, b, c, d, e, f, g, h, i⟩ => ⟨a, b, c, d, e, f, g, h, i⟩⟩

section
variable {n : Api_Net}
theorem all_bare_spec (hs : SmN n) : names_all_Domain_judge_bare n.domains ⟨n⟩ = some (decide (EachP n.domains (BareP n))) := by
  unfold names_all_Domain_judge_bare
  rw [loop_each n.domains (BareP n) (.inl ()) (.inr ()) hs.domains (fun i h0 h1 h2 => by
    have := hs.domains
    simp (disch := omega) only [names_all_Domain_judge_bare_L1, h1, nth_getI h2, wr64, judge_bare_spec (n := n) hs.domains, bind_ite, Option.bind_some, dif1, dif2, dif3, dif4, dif5, dif6, dif7, dnot, ibeq, ibne, decide_eq_true_eq, if_not2, ge_iff_le, gt_iff_lt, fst_ret, Bool.false_eq_true, decide_false, decide_true, if_true]; split <;> rfl) (by simp [names_all_Domain_judge_bare_L1])]
  simp only [bind_ite, Option.bind_some, dif1, dif2, dif3, dif4, dif5, dif6, dif7, dnot, ibeq, ibne, decide_eq_true_eq, if_not2, ge_iff_le, gt_iff_lt, fst_ret, Bool.false_eq_true, decide_false]
theorem all_peers_spec (hs : SmN n) (hb : EachP n.domains (BareP n)) : names_all_Domain_judge_peers n.domains ⟨n⟩ = some (decide (EachP n.domains (PeersP n))) := by
  unfold names_all_Domain_judge_peers
  rw [loop_each n.domains (PeersP n) (.inl ()) (.inr ()) hs.domains (fun i h0 h1 h2 => by
    have := hs.domains
    simp (disch := omega) only [names_all_Domain_judge_peers_L1, h1, nth_getI h2, wr64, judge_peers_spec (n := n) hs (hb i h2).1 (hs.peers _ (getI_mem h2)), bind_ite, Option.bind_some, dif1, dif2, dif3, dif4, dif5, dif6, dif7, dnot, ibeq, ibne, decide_eq_true_eq, if_not2, ge_iff_le, gt_iff_lt, fst_ret, Bool.false_eq_true, decide_false, decide_true, if_true]; split <;> rfl) (by simp [names_all_Domain_judge_peers_L1])]
  simp only [bind_ite, Option.bind_some, dif1, dif2, dif3, dif4, dif5, dif6, dif7, dnot, ibeq, ibne, decide_eq_true_eq, if_not2, ge_iff_le, gt_iff_lt, fst_ret, Bool.false_eq_true, decide_false]
theorem all_port_spec (hs : SmN n) : names_all_Port_judge_port n.ports ⟨n⟩ = some (decide (EachP n.ports (PortP n))) := by
  unfold names_all_Port_judge_port
  rw [loop_each n.ports (PortP n) (.inl ()) (.inr ()) hs.ports (fun i h0 h1 h2 => by
    have := hs.ports
    simp (disch := omega) only [names_all_Port_judge_port_L1, h1, nth_getI h2, wr64, judge_port_spec (n := n) hs (hs.tagged _ (getI_mem h2)), bind_ite, Option.bind_some, dif1, dif2, dif3, dif4, dif5, dif6, dif7, dnot, ibeq, ibne, decide_eq_true_eq, if_not2, ge_iff_le, gt_iff_lt, fst_ret, Bool.false_eq_true, decide_false, decide_true, if_true]; split <;> rfl) (by simp [names_all_Port_judge_port_L1])]
  simp only [bind_ite, Option.bind_some, dif1, dif2, dif3, dif4, dif5, dif6, dif7, dnot, ibeq, ibne, decide_eq_true_eq, if_not2, ge_iff_le, gt_iff_lt, fst_ret, Bool.false_eq_true, decide_false]
theorem all_link_spec (hs : SmN n) : names_all_Link_judge_link n.links ⟨n⟩ = some (decide (EachP n.links (LinkP n))) := by
  unfold names_all_Link_judge_link
  rw [loop_each n.links (LinkP n) (.inl ()) (.inr ()) hs.links (fun i h0 h1 h2 => by
    have := hs.links
    simp (disch := omega) only [names_all_Link_judge_link_L1, h1, nth_getI h2, wr64, judge_link_spec (n := n), bind_ite, Option.bind_some, dif1, dif2, dif3, dif4, dif5, dif6, dif7, dnot, ibeq, ibne, decide_eq_true_eq, if_not2, ge_iff_le, gt_iff_lt, fst_ret, Bool.false_eq_true, decide_false, decide_true, if_true]; split <;> rfl) (by simp [names_all_Link_judge_link_L1])]
  simp only [bind_ite, Option.bind_some, dif1, dif2, dif3, dif4, dif5, dif6, dif7, dnot, ibeq, ibne, decide_eq_true_eq, if_not2, ge_iff_le, gt_iff_lt, fst_ret, Bool.false_eq_true, decide_false]
theorem all_static_spec (hs : SmN n) : names_all_Static_judge_static n.statics ⟨n⟩ = some (decide (EachP n.statics fun _ x => StaticP n x)) := by
  unfold names_all_Static_judge_static
  rw [loop_each n.statics (fun _ x => StaticP n x) (.inl ()) (.inr ()) hs.statics (fun i h0 h1 h2 => by
    have := hs.statics
    simp (disch := omega) only [names_all_Static_judge_static_L1, h1, nth_getI h2, wr64, judge_static_spec (n := n) hs, bind_ite, Option.bind_some, dif1, dif2, dif3, dif4, dif5, dif6, dif7, dnot, ibeq, ibne, decide_eq_true_eq, if_not2, ge_iff_le, gt_iff_lt, fst_ret, Bool.false_eq_true, decide_false, decide_true, if_true]; split <;> rfl) (by simp [names_all_Static_judge_static_L1])]
  simp only [bind_ite, Option.bind_some, dif1, dif2, dif3, dif4, dif5, dif6, dif7, dnot, ibeq, ibne, decide_eq_true_eq, if_not2, ge_iff_le, gt_iff_lt, fst_ret, Bool.false_eq_true, decide_false]
theorem all_flood_spec (hs : SmN n) : names_all_Flood_Right_1 n.floods n = some (decide (EachP n.floods fun _ x => FloodP n x)) := by
  unfold names_all_Flood_Right_1
  rw [loop_each n.floods (fun _ x => FloodP n x) (.inl ()) (.inr ()) hs.floods (fun i h0 h1 h2 => by
    have := hs.floods
    simp (disch := omega) only [names_all_Flood_Right_1_L1, h1, nth_getI h2, wr64, Right_1_spec, bind_ite, Option.bind_some, dif1, dif2, dif3, dif4, dif5, dif6, dif7, dnot, ibeq, ibne, decide_eq_true_eq, if_not2, ge_iff_le, gt_iff_lt, fst_ret, Bool.false_eq_true, decide_false, decide_true, if_true]; split <;> rfl) (by simp [names_all_Flood_Right_1_L1])]
  simp only [bind_ite, Option.bind_some, dif1, dif2, dif3, dif4, dif5, dif6, dif7, dnot, ibeq, ibne, decide_eq_true_eq, if_not2, ge_iff_le, gt_iff_lt, fst_ret, Bool.false_eq_true, decide_false]
theorem all_vrf_spec (hs : SmN n) : names_all_Vrf_Right_2 n.vrfs n = some (decide (EachP n.vrfs fun _ x => VrfP n x)) := by
  unfold names_all_Vrf_Right_2
  rw [loop_each n.vrfs (fun _ x => VrfP n x) (.inl ()) (.inr ()) hs.vrfs (fun i h0 h1 h2 => by
    have := hs.vrfs
    simp (disch := omega) only [names_all_Vrf_Right_2_L1, h1, nth_getI h2, wr64, Right_2_spec (hs.imports _ (getI_mem h2)) (hs.exports _ (getI_mem h2)), bind_ite, Option.bind_some, dif1, dif2, dif3, dif4, dif5, dif6, dif7, dnot, ibeq, ibne, decide_eq_true_eq, if_not2, ge_iff_le, gt_iff_lt, fst_ret, Bool.false_eq_true, decide_false, decide_true, if_true]; split <;> rfl) (by simp [names_all_Vrf_Right_2_L1])]
  simp only [bind_ite, Option.bind_some, dif1, dif2, dif3, dif4, dif5, dif6, dif7, dnot, ibeq, ibne, decide_eq_true_eq, if_not2, ge_iff_le, gt_iff_lt, fst_ret, Bool.false_eq_true, decide_false]
theorem all_irb_spec (hs : SmN n) : names_all_Irb_judge_irb n.irbs ⟨n⟩ = some (decide (EachP n.irbs (IrbP n))) := by
  unfold names_all_Irb_judge_irb
  rw [loop_each n.irbs (IrbP n) (.inl ()) (.inr ()) hs.irbs (fun i h0 h1 h2 => by
    have := hs.irbs
    simp (disch := omega) only [names_all_Irb_judge_irb_L1, h1, nth_getI h2, wr64, judge_irb_spec (n := n), bind_ite, Option.bind_some, dif1, dif2, dif3, dif4, dif5, dif6, dif7, dnot, ibeq, ibne, decide_eq_true_eq, if_not2, ge_iff_le, gt_iff_lt, fst_ret, Bool.false_eq_true, decide_false, decide_true, if_true]; split <;> rfl) (by simp [names_all_Irb_judge_irb_L1])]
  simp only [bind_ite, Option.bind_some, dif1, dif2, dif3, dif4, dif5, dif6, dif7, dnot, ibeq, ibne, decide_eq_true_eq, if_not2, ge_iff_le, gt_iff_lt, fst_ret, Bool.false_eq_true, decide_false]

theorem names_Right_spec (hs : SmN n) : names_Right n = some (decide (RightP n)) := by
  by_cases hb : EachP n.domains (BareP n)
  · simp only [names_Right, judge_few_spec, all_bare_spec hs, all_peers_spec hs hb, all_port_spec hs, all_link_spec hs, all_static_spec hs, all_flood_spec hs, all_vrf_spec hs, all_irb_spec hs, bind_ite, Option.bind_some, dif1, dif2, dif3, dif4, dif5, dif6, dif7, dnot, ibeq, ibne, decide_eq_true_eq, if_not2, ge_iff_le, gt_iff_lt, fst_ret, Bool.false_eq_true, decide_false]
    exact sdec rightP_iff.symm
  · have : ¬ RightP n := fun h => hb h.bare
    simp only [names_Right, judge_few_spec, all_bare_spec hs, hb, this, bind_ite, Option.bind_some, dif1, dif2, dif3, dif4, dif5, dif6, dif7, dnot, ibeq, ibne, decide_eq_true_eq, if_not2, ge_iff_le, gt_iff_lt, fst_ret, Bool.false_eq_true, decide_false, decide_false, if_false, Bool.false_eq_true]
    simp

structure BndN (n : Api_Net) (a b : Nat) : Prop where
  devices : n.devices.length ≤ a
  ports : n.ports.length ≤ a
  links : n.links.length ≤ a
  domains : n.domains.length ≤ a
  statics : n.statics.length ≤ a
  floods : n.floods.length ≤ a
  vrfs : n.vrfs.length ≤ a
  irbs : n.irbs.length ≤ a
  tagged : ∀ p ∈ n.ports, p.tagged.length ≤ b
  peers : ∀ d ∈ n.domains, d.peers.length ≤ b
  addrs : ∀ f ∈ n.floods, f.addrs.length ≤ b
  imports : ∀ v ∈ n.vrfs, v.imports.length ≤ b
  exports : ∀ v ∈ n.vrfs, v.exports.length ≤ b
theorem BndN.sm {a b : Nat} (h : BndN n a b) (ha : a ≤ 1000000 := by decide) (hb : b ≤ 1000000 := by decide) : SmN n :=
  ⟨few_of h.devices ha, few_of h.ports ha, few_of h.links ha, few_of h.domains ha, few_of h.statics ha, few_of h.floods ha, few_of h.vrfs ha, few_of h.irbs ha,
    fun p q => few_of (h.tagged p q) hb, fun p q => few_of (h.peers p q) hb, fun p q => few_of (h.addrs p q) hb, fun p q => few_of (h.imports p q) hb, fun p q => few_of (h.exports p q) hb⟩
theorem Great_spec : palinglaw15_Great n = some (decide (¬ BndN n 200 100)) := by
  unfold palinglaw15_Great
  simp only [bind_ite, Option.bind_some, dif1, dif2, dif3, dif4, dif5, dif6, dif7, dnot, ibeq, ibne, decide_eq_true_eq, if_not2, ge_iff_le, gt_iff_lt, fst_ret, Bool.false_eq_true, decide_false]
  by_cases h1 : (200 : Int) < n.devices.length
  · have : ¬ BndN n 200 100 := fun h => by have := h.devices; omega
    simp [h1, this]
  by_cases h2 : (200 : Int) < n.ports.length
  · have : ¬ BndN n 200 100 := fun h => by have := h.ports; omega
    simp [h1, h2, this]
  by_cases h3 : (200 : Int) < n.links.length
  · have : ¬ BndN n 200 100 := fun h => by have := h.links; omega
    simp [h1, h2, h3, this]
  by_cases h4 : (200 : Int) < n.domains.length
  · have : ¬ BndN n 200 100 := fun h => by have := h.domains; omega
    simp [h1, h2, h3, h4, this]
  by_cases h5 : (200 : Int) < n.statics.length
  · have : ¬ BndN n 200 100 := fun h => by have := h.statics; omega
    simp [h1, h2, h3, h4, h5, this]
  by_cases h6 : (200 : Int) < n.floods.length
  · have : ¬ BndN n 200 100 := fun h => by have := h.floods; omega
    simp [h1, h2, h3, h4, h5, h6, this]
  by_cases h7 : (200 : Int) < n.vrfs.length
  · have : ¬ BndN n 200 100 := fun h => by have := h.vrfs; omega
    simp [h1, h2, h3, h4, h5, h6, h7, this]
  by_cases h8 : (200 : Int) < n.irbs.length
  · have : ¬ BndN n 200 100 := fun h => by have := h.irbs; omega
    simp [h1, h2, h3, h4, h5, h6, h7, h8, this]
  simp only [h1, h2, h3, h4, h5, h6, h7, h8, if_false]
  rw [loop_each n.ports (fun _ p => ¬ 100 < (p.tagged.length : Int)) (.inl ()) (.inr ()) (by omega) (fun i g0 g1 g2 => by
    simp (disch := omega) only [palinglaw15_Great_L1, g1, nth_getI g2, wr64, bind_ite, Option.bind_some, dif1, dif2, dif3, dif4, dif5, dif6, dif7, dnot, ibeq, ibne, decide_eq_true_eq, if_not2, ge_iff_le, gt_iff_lt, fst_ret, Bool.false_eq_true, decide_false, decide_true, if_true]; split <;> rfl) (by simp [palinglaw15_Great_L1]),
   loop_each n.domains (fun _ p => ¬ 100 < (p.peers.length : Int)) (.inl ()) (.inr ()) (by omega) (fun i g0 g1 g2 => by
    simp (disch := omega) only [palinglaw15_Great_L2, g1, nth_getI g2, wr64, bind_ite, Option.bind_some, dif1, dif2, dif3, dif4, dif5, dif6, dif7, dnot, ibeq, ibne, decide_eq_true_eq, if_not2, ge_iff_le, gt_iff_lt, fst_ret, Bool.false_eq_true, decide_false, decide_true, if_true]; split <;> rfl) (by simp [palinglaw15_Great_L2]),
   loop_each n.floods (fun _ p => ¬ 100 < (p.addrs.length : Int)) (.inl ()) (.inr ()) (by omega) (fun i g0 g1 g2 => by
    simp (disch := omega) only [palinglaw15_Great_L3, g1, nth_getI g2, wr64, bind_ite, Option.bind_some, dif1, dif2, dif3, dif4, dif5, dif6, dif7, dnot, ibeq, ibne, decide_eq_true_eq, if_not2, ge_iff_le, gt_iff_lt, fst_ret, Bool.false_eq_true, decide_false, decide_true, if_true]; split <;> rfl) (by simp [palinglaw15_Great_L3]),
   loop_each n.vrfs (fun _ p => ¬ 100 < (p.imports.length : Int) ∧ ¬ 100 < (p.exports.length : Int)) (.inl ()) (.inr ()) (by omega) (fun i g0 g1 g2 => by
    simp (disch := omega) only [palinglaw15_Great_L4, g1, nth_getI g2, wr64, bind_ite, Option.bind_some, dif1, dif2, dif3, dif4, dif5, dif6, dif7, dnot, ibeq, ibne, decide_eq_true_eq, if_not2, ge_iff_le, gt_iff_lt, fst_ret, Bool.false_eq_true, decide_false, decide_true, if_true]; grind) (by simp [palinglaw15_Great_L4])]
  simp only [bind_ite, Option.bind_some, dif1, dif2, dif3, dif4, dif5, dif6, dif7, dnot, ibeq, ibne, decide_eq_true_eq, if_not2, ge_iff_le, gt_iff_lt, fst_ret, Bool.false_eq_true, decide_false, eachP_mem]
  refine sdec ?_
  constructor
  · intro h hb
    have := hb.tagged; have := hb.peers; have := hb.addrs; have := hb.imports; have := hb.exports
    grind
  · intro h
    apply Classical.byContradiction
    intro hn
    refine h ⟨by omega, by omega, by omega, by omega, by omega, by omega, by omega, by omega, ?_, ?_, ?_, ?_, ?_⟩ <;> grind
end

end Go.Eng

set_option linter.unusedVariables false
set_option linter.unusedSectionVars false
set_option linter.unusedSimpArgs false
namespace Go.Eng
open Go Classical

section
variable {α : Type} [Inhabited α] {l r : List α} {x : α} {i k : Int}
theorem inL_app (h : inL l i) : inL (l ++ r) i := ⟨h.1, by have := h.2; simp; omega⟩
theorem getI_app (h : inL l i) : getI (l ++ r) i = getI l i := by
  have h0 := h.1; have h1 := h.2
  unfold getI
  rw [List.getElem?_append_left (by omega)]
theorem inL_app1 : inL (l ++ [x]) i ↔ inL l i ∨ i = l.length := by
  unfold inL
  simp
  omega
theorem getI_last : getI (l ++ [x]) (l.length : Int) = x := by
  unfold getI
  simp
theorem inL_setI : inL (l.set k.toNat x) i ↔ inL l i := by simp [inL]
theorem getI_setI (hk : inL l k) (hi : inL l i) : getI (l.set k.toNat x) i = if i = k then x else getI l i := by
  have h1 := hk.1; have h2 := hi.1; have h3 := hk.2; have h4 := hi.2
  unfold getI
  by_cases h : i = k
  · subst h
    rw [List.getElem?_set_self (by omega)]; simp
  · rw [List.getElem?_set_ne (by omega)]; simp [h]
end
section
variable {n : Api_Net}
end
end Go.Eng

set_option linter.unusedVariables false
set_option linter.unusedSectionVars false
set_option linter.unusedSimpArgs false
namespace Go.Eng
open Go Classical

inductive Conn (E : Int → Int → Prop) : Int → Int → Prop
  | refl (x : Int) : Conn E x x
  | edge {x y : Int} (h : E x y) : Conn E x y
  | symm {x y : Int} (h : Conn E x y) : Conn E y x
  | trans {x y z : Int} (h : Conn E x y) (g : Conn E y z) : Conn E x z

section
variable {E F : Int → Int → Prop}
theorem Conn.mono (h : ∀ x y, E x y → F x y) {x y : Int} (c : Conn E x y) : Conn F x y := by
  induction c with
  | refl x => exact .refl x
  | edge e => exact .edge (h _ _ e)
  | symm _ ih => exact ih.symm
  | trans _ _ i1 i2 => exact i1.trans i2
theorem Conn.congr (h : ∀ x y, E x y ↔ F x y) {x y : Int} : Conn E x y ↔ Conn F x y := ⟨Conn.mono fun x y => (h x y).1, Conn.mono fun x y => (h x y).2⟩
theorem Conn.sub (h : ∀ x y, E x y → Conn F x y) {x y : Int} (c : Conn E x y) : Conn F x y := by
  induction c with
  | refl x => exact .refl x
  | edge e => exact h _ _ e
  | symm _ ih => exact ih.symm
  | trans _ _ i1 i2 => exact i1.trans i2
theorem Conn.inv {β : Type} {T : Int → β} (h : ∀ x y, E x y → T x = T y) {x y : Int} (c : Conn E x y) : T x = T y := by
  induction c with
  | refl x => rfl
  | edge e => exact h _ _ e
  | symm _ ih => exact ih.symm
  | trans _ _ i1 i2 => exact i1.trans i2
theorem Conn.set {P : Int → Prop} (h : ∀ x y, E x y → (P x ↔ P y)) {x y : Int} (c : Conn E x y) : P x ↔ P y := by
  induction c with
  | refl x => exact Iff.rfl
  | edge e => exact h _ _ e
  | symm _ ih => exact ih.symm
  | trans _ _ i1 i2 => exact i1.trans i2
end

structure LeastT (E : Int → Int → Prop) (T : Int → Int) (N : Int) : Prop where
  lo : ∀ x, 0 ≤ x → x < N → 0 ≤ T x
  le : ∀ x, 0 ≤ x → x < N → T x ≤ x
  conn : ∀ x, 0 ≤ x → x < N → Conn E x (T x)
  same : ∀ x y, 0 ≤ x → x < N → 0 ≤ y → y < N → Conn E x y → T x = T y
theorem LeastT.uniq {E F : Int → Int → Prop} {T U : Int → Int} {N : Int} (h : LeastT E T N) (g : LeastT F U N) (e : ∀ x y, Conn E x y ↔ Conn F x y) {x : Int} (h0 : 0 ≤ x) (h1 : x < N) : T x = U x := by
  have a1 := h.lo x h0 h1
  have a2 := h.le x h0 h1
  have b1 := g.lo x h0 h1
  have b2 := g.le x h0 h1
  have c1 := g.same x (T x) h0 h1 a1 (by omega) ((e _ _).1 (h.conn x h0 h1))
  have c2 := h.same x (U x) h0 h1 b1 (by omega) ((e _ _).2 (g.conn x h0 h1))
  have d1 := g.le (T x) a1 (by omega)
  have d2 := h.le (U x) b1 (by omega)
  omega
theorem LeastT.top {E : Int → Int → Prop} {T : Int → Int} {N : Int} (h : LeastT E T N) {x : Int} (h0 : 0 ≤ x) (h1 : x < N) : T (T x) = T x :=
  (h.same x (T x) h0 h1 (h.lo x h0 h1) (by have := h.le x h0 h1; omega) (h.conn x h0 h1)).symm

structure Lab (f : List Int) (T : Int → Int) : Prop where
  lo : ∀ i, inL f i → 0 ≤ getI f i
  le : ∀ i, inL f i → getI f i ≤ i
  tlo : ∀ i, inL f i → 0 ≤ T i
  tle : ∀ i, inL f i → T i ≤ i
  root : ∀ i, inL f i → getI f (T i) = T i
  step : ∀ i, inL f i → T (getI f i) = T i
  self : ∀ i, inL f i → getI f i = i → T i = i

theorem inL_set {α : Type} {l : List α} {k : Nat} {x : α} {i : Int} : inL (l.set k x) i ↔ inL l i := by simp [inL]
theorem getI_set {α : Type} [Inhabited α] {l : List α} {k i : Int} {x : α} (hk : inL l k) (hi : inL l i) : getI (l.set k.toNat x) i = if i = k then x else getI l i := by
  unfold getI
  have h1 := hk.1; have h2 := hi.1; have h3 := hk.2; have h4 := hi.2
  by_cases h : i = k
  · subst h
    rw [List.getElem?_set_self (by omega)]; simp
  · rw [List.getElem?_set_ne (by omega)]; simp [h]
section
variable {f : List Int} {T : Int → Int}
theorem Lab.tin (h : Lab f T) {i : Int} (hi : inL f i) : inL f (T i) := ⟨h.tlo i hi, by have := h.tle i hi; have := hi.2; omega⟩
theorem Lab.fin (h : Lab f T) {i : Int} (hi : inL f i) : inL f (getI f i) := ⟨h.lo i hi, by have := h.le i hi; have := hi.2; omega⟩
theorem Lab.top (h : Lab f T) {i : Int} (hi : inL f i) : T (T i) = T i := h.self _ (h.tin hi) (h.root i hi)
end
/-! ### Chains of sets -/
end Go.Eng

set_option linter.unusedVariables false
set_option linter.unusedSectionVars false
set_option linter.unusedSimpArgs false
namespace Go.Eng
open Go Classical

theorem LeastT.congr {E F : Int → Int → Prop} {T : Int → Int} {N : Int} (h : LeastT E T N) (e : ∀ x y, Conn E x y ↔ Conn F x y) : LeastT F T N :=
  ⟨h.lo, h.le, fun x a b => (e _ _).1 (h.conn x a b), fun x y a b c d g => h.same x y a b c d ((e _ _).2 g)⟩
theorem LeastT.congrE {E F : Int → Int → Prop} {T : Int → Int} {N : Int} (h : LeastT E T N) (e : ∀ x y, E x y ↔ F x y) : LeastT F T N := h.congr fun _ _ => Conn.congr e
def mkL (N : Nat) (T : Int → Int) : List Int := (List.range N).map fun (i : Nat) => T (i : Int)
theorem mkL_len {N : Nat} {T : Int → Int} : (mkL N T).length = N := by simp [mkL]
theorem mkL_get {N : Nat} {T : Int → Int} {i : Int} (h : inL (mkL N T) i) : getI (mkL N T) i = T i := by
  have h0 := h.1; have h1 := h.2
  rw [mkL_len] at h1
  have : i.toNat < N := by omega
  unfold getI mkL
  simp [this]
  rw [show max i 0 = i from by omega]
theorem mkL_inL {N : Nat} {T : Int → Int} {i : Int} : inL (mkL N T) i ↔ 0 ≤ i ∧ i < N := by rw [inL_iff, mkL_len]
theorem eq_mkL {N : Nat} {T : Int → Int} {l : List Int} (hl : l.length = N) (h : ∀ i, inL l i → getI l i = T i) : l = mkL N T := by
  apply List.ext_getElem?
  intro i
  by_cases hi : i < l.length
  · have hii : inL l (i : Int) := ⟨by omega, by omega⟩
    have h1 := getI_get? hii
    have h2 := getI_get? ((mkL_inL (T := T)).2 ⟨hii.1, by have := hii.2; omega⟩ : inL (mkL N T) (i : Int))
    rw [show ((i : Int)).toNat = i from by omega] at h1 h2
    rw [h1, h2, h _ hii, mkL_get ((mkL_inL (T := T)).2 ⟨hii.1, by have := hii.2; omega⟩)]
  · rw [List.getElem?_eq_none (by omega), List.getElem?_eq_none (by rw [mkL_len]; omega)]
structure FOK (E : Int → Int → Prop) (N : Nat) (f : List Int) : Prop where
  len : f.length = N
  lab : ∃ T, Lab f T ∧ LeastT E T N
  rng : ∀ x y, E x y → (0 ≤ x ∧ x < (N : Int)) ∧ 0 ≤ y ∧ y < (N : Int)
theorem FOK.congr {E F : Int → Int → Prop} {N : Nat} {f : List Int} (h : FOK E N f) (e : ∀ x y, E x y ↔ F x y) : FOK F N f := by
  obtain ⟨T, a, b⟩ := h.lab
  exact ⟨h.len, ⟨T, a, b.congrE e⟩, fun x y g => h.rng x y ((e x y).2 g)⟩
end Go.Eng

set_option linter.unusedVariables false
set_option linter.unusedSectionVars false
set_option linter.unusedSimpArgs false
namespace Go.Eng
open Go Classical

section
variable {α : Type} [Inhabited α] (dom : α → Int) (H : Int → List α) (N : Nat) (root : α)
def endD (w : List α) : Int := dom (w.getLast?.getD default)
theorem endD_app {w : List α} {h : α} : endD dom (w ++ [h]) = dom h := by simp [endD]
theorem endD_one {h : α} : endD dom [h] = dom h := by simp [endD]
noncomputable def addW (w : List α) (ws : List (List α)) (h : α) : List (List α) := if dom h ∈ ws.map (endD dom) then ws else ws ++ [w ++ [h]]
structure Good (ws : List (List α)) (i : Int) : Prop where
  pos : 0 < ws.length
  i0 : 0 ≤ i
  il : i ≤ ws.length
  root : getI ws 0 = [root]
  nd : ∀ j k, inL ws j → inL ws k → endD dom (getI ws j) = endD dom (getI ws k) → j = k
  rng : ∀ j, inL ws j → 0 ≤ endD dom (getI ws j) ∧ endD dom (getI ws j) < N
  par : ∀ j, inL ws j → 0 < j → ∃ k h, 0 ≤ k ∧ k < j ∧ h ∈ H (endD dom (getI ws k)) ∧ getI ws j = getI ws k ++ [h]
  closed : ∀ k, inL ws k → k < i → ∀ h ∈ H (endD dom (getI ws k)), ∃ m, inL ws m ∧ endD dom (getI ws m) = dom h ∧ (getI ws m).length ≤ (getI ws k).length + 1
  mono : ∀ j k, inL ws j → inL ws k → j ≤ k → (getI ws j).length ≤ (getI ws k).length
  top : ∀ j k, inL ws j → inL ws k → i ≤ k → (getI ws j).length ≤ (getI ws k).length + 1
variable {dom H N root}
theorem mem_ends {ws : List (List α)} {d : Int} : d ∈ ws.map (endD dom) ↔ ∃ j, inL ws j ∧ endD dom (getI ws j) = d := by
  rw [List.mem_map]
  constructor
  · rintro ⟨w, hw, e⟩
    obtain ⟨j, hj, ej⟩ := mem_getI hw
    exact ⟨j, hj, by rw [ej]; exact e⟩
  · rintro ⟨j, hj, e⟩
    exact ⟨_, getI_mem hj, e⟩
theorem addW_pre {w : List α} {ws : List (List α)} {h : α} : ws <+: addW dom w ws h := by
  unfold addW; split
  · exact List.prefix_refl _
  · exact List.prefix_append _ _
theorem pre_in {ws vs : List (List α)} (hp : ws <+: vs) {j : Int} (hj : inL ws j) : inL vs j := ⟨hj.1, by have := hj.2; have := hp.length_le; omega⟩
theorem pre_get {ws vs : List (List α)} (hp : ws <+: vs) {j : Int} (hj : inL ws j) : getI vs j = getI ws j := by
  obtain ⟨t, rfl⟩ := hp; exact getI_app hj
theorem good_add {ws : List (List α)} {i : Int} (g : Good dom H N root ws i) (hi : i < ws.length) {h : α} (hh : h ∈ H (endD dom (getI ws i))) (hN : 0 ≤ dom h ∧ dom h < N) :
    Good dom H N root (addW dom (getI ws i) ws h) i ∧ ∃ m, inL (addW dom (getI ws i) ws h) m ∧ endD dom (getI (addW dom (getI ws i) ws h) m) = dom h ∧ (getI (addW dom (getI ws i) ws h) m).length ≤ (getI ws i).length + 1 := by
  have ii : inL ws i := ⟨g.i0, hi⟩
  unfold addW
  by_cases hm : dom h ∈ ws.map (endD dom)
  · rw [if_pos hm]
    obtain ⟨m, hm1, hm2⟩ := mem_ends.1 hm
    exact ⟨g, m, hm1, hm2, g.top m i hm1 ii (by omega)⟩
  rw [if_neg hm]
  have hno : ∀ j, inL ws j → endD dom (getI ws j) ≠ dom h := fun j hj e => hm (mem_ends.2 ⟨j, hj, e⟩)
  have gL : getI (ws ++ [getI ws i ++ [h]]) (ws.length : Int) = getI ws i ++ [h] := getI_last
  have gA : ∀ j, inL ws j → getI (ws ++ [getI ws i ++ [h]]) j = getI ws j := fun j hj => getI_app hj
  have iL : inL (ws ++ [getI ws i ++ [h]]) (ws.length : Int) := inL_app1.2 (.inr rfl)
  have hp := g.pos
  have hi0 := g.i0
  have hmx : ∀ j, inL ws j → (getI ws j).length ≤ (getI ws i).length + 1 := fun j hj => g.top j i hj ii (by omega)
  refine ⟨⟨by simp, g.i0, by simp; omega, ?_, ?_, ?_, ?_, ?_, ?_, ?_⟩, ws.length, iL, by rw [gL, endD_app], by rw [gL]; simp⟩
  · rw [gA 0 ⟨by omega, by omega⟩]; exact g.root
  · intro j k hj hk
    rcases inL_app1.1 hj with hj | rfl <;> rcases inL_app1.1 hk with hk | rfl
    · rw [gA j hj, gA k hk]; exact g.nd j k hj hk
    · rw [gA j hj, gL, endD_app]; intro e; exact absurd e (hno j hj)
    · rw [gA k hk, gL, endD_app]; intro e; exact absurd e.symm (hno k hk)
    · intro _; rfl
  · intro j hj
    rcases inL_app1.1 hj with hj | rfl
    · rw [gA j hj]; exact g.rng j hj
    · rw [gL, endD_app]; exact hN
  · intro j hj h0
    rcases inL_app1.1 hj with hj | rfl
    · obtain ⟨k, h', k0, kj, e1, e2⟩ := g.par j hj h0
      have hk : inL ws k := ⟨k0, by have := hj.2; omega⟩
      exact ⟨k, h', k0, kj, by rw [gA k hk]; exact e1, by rw [gA j hj, gA k hk]; exact e2⟩
    · exact ⟨i, h, hi0, hi, by rw [gA i ii]; exact hh, by rw [gL, gA i ii]⟩
  · intro k hk hki h' hh'
    have hk' : inL ws k := ⟨hk.1, by omega⟩
    rw [gA k hk'] at hh' ⊢
    obtain ⟨m, m1, m2, m3⟩ := g.closed k hk' hki h' hh'
    exact ⟨m, inL_app m1, by rw [gA m m1]; exact m2, by rw [gA m m1]; exact m3⟩
  · intro j k hj hk hjk
    rcases inL_app1.1 hj with hj | rfl <;> rcases inL_app1.1 hk with hk | rfl
    · rw [gA j hj, gA k hk]; exact g.mono j k hj hk hjk
    · rw [gA j hj, gL]; simpa using hmx j hj
    · exact absurd hk.2 (by omega)
    · exact Nat.le_refl _
  · intro j k hj hk hik
    rcases inL_app1.1 hj with hj | rfl <;> rcases inL_app1.1 hk with hk | rfl
    · rw [gA j hj, gA k hk]; exact g.top j k hj hk hik
    · rw [gA j hj, gL]; have := hmx j hj; simp; omega
    · rw [gA k hk, gL]; have := g.mono i k ii hk hik; simp; omega
    · exact Nat.le_succ _
theorem fold_pre {w : List α} : ∀ (hs : List α) (ws : List (List α)), ws <+: hs.foldl (addW dom w) ws
  | [], ws => List.prefix_refl _
  | h :: hs, ws => List.IsPrefix.trans addW_pre (fold_pre hs _)
theorem good_fold {i : Int} {w : List α} : ∀ (hs : List α) (ws : List (List α)), Good dom H N root ws i → i < ws.length → getI ws i = w → (∀ h ∈ hs, h ∈ H (endD dom w) ∧ 0 ≤ dom h ∧ dom h < N) →
    Good dom H N root (hs.foldl (addW dom w) ws) i ∧ ∀ h ∈ hs, ∃ m, inL (hs.foldl (addW dom w) ws) m ∧ endD dom (getI (hs.foldl (addW dom w) ws) m) = dom h ∧ (getI (hs.foldl (addW dom w) ws) m).length ≤ w.length + 1
  | [], ws, g, _, _, _ => ⟨g, fun h hh => absurd hh (by simp)⟩
  | h :: hs, ws, g, hi, hw, hH => by
    have hh := hH h (by simp)
    subst hw
    obtain ⟨g1, m, m1, m2, m3⟩ := good_add g hi hh.1 hh.2
    have hpre : ws <+: addW dom (getI ws i) ws h := addW_pre
    have hi' : i < (addW dom (getI ws i) ws h).length := by have := hpre.length_le; omega
    have ge : getI (addW dom (getI ws i) ws h) i = getI ws i := pre_get hpre ⟨g.i0, hi⟩
    obtain ⟨g2, h2⟩ := good_fold hs _ g1 hi' ge (fun x hx => hH x (by simp [hx]))
    refine ⟨g2, fun x hx => ?_⟩
    rcases List.mem_cons.1 hx with rfl | hx
    · have hp2 := fold_pre (dom := dom) (w := getI ws i) hs (addW dom (getI ws i) ws x)
      exact ⟨m, pre_in hp2 m1, by rw [List.foldl_cons, pre_get hp2 m1]; exact m2, by rw [List.foldl_cons, pre_get hp2 m1]; exact m3⟩
    · exact h2 x hx

variable (dom H root) in
noncomputable def runW : Nat → List (List α)
  | 0 => [[root]]
  | k + 1 => if k < (runW k).length then (H (endD dom (getI (runW k) (k : Int)))).foldl (addW dom (getI (runW k) (k : Int))) (runW k) else runW k
theorem runW_pre {k : Nat} : runW dom H root k <+: runW dom H root (k + 1) := by
  rw [runW]; split
  · exact fold_pre _ _
  · exact List.prefix_refl _
theorem runW_pre2 {k m : Nat} (h : k ≤ m) : runW dom H root k <+: runW dom H root m := by
  obtain ⟨t, rfl⟩ : ∃ t, m = k + t := ⟨m - k, by omega⟩
  clear h
  induction t with
  | zero => exact List.prefix_refl _
  | succ t ih => exact List.IsPrefix.trans ih runW_pre
def HIn (dom : α → Int) (H : Int → List α) (N : Nat) : Prop := ∀ d, 0 ≤ d → d < (N : Int) → ∀ h ∈ H d, 0 ≤ dom h ∧ dom h < (N : Int)
section
variable (hH : HIn dom H N) (hr : 0 ≤ dom root ∧ dom root < (N : Int))
include hH hr
theorem good_run : ∀ k : Nat, Good dom H N root (runW dom H root k) (min (k : Int) (runW dom H root k).length)
  | 0 => by
    have e : ∀ j, inL [[root]] j → j = 0 := fun j hj => by have := hj.1; have := hj.2; simp at this; omega
    have g0 : getI [[root]] 0 = [root] := rfl
    refine ⟨by simp [runW], by simp only [runW, List.length_singleton]; omega, by simp only [runW, List.length_singleton]; omega, g0, ?_, ?_, ?_, ?_, ?_, ?_⟩
    · intro j k hj hk _; rw [e j hj, e k hk]
    · intro j hj; rw [runW, e j hj, g0, endD_one]; exact hr
    · intro j hj h0; have := e j hj; omega
    · intro k hk hk2; have := e k hk; simp [runW] at hk2; omega
    · intro j k hj hk _; rw [e j hj, e k hk]; exact Nat.le_refl _
    · intro j k hj hk _; rw [e j hj, e k hk]; exact Nat.le_succ _
  | k + 1 => by
    have g := good_run k
    rw [runW]
    by_cases hk : k < (runW dom H root k).length
    · rw [if_pos hk]
      have ik : inL (runW dom H root k) (k : Int) := ⟨by omega, by omega⟩
      rw [Int.min_eq_left (by omega)] at g
      have hpre : runW dom H root k <+: _ := fold_pre (dom := dom) (w := getI (runW dom H root k) (k : Int)) (H (endD dom (getI (runW dom H root k) (k : Int)))) (runW dom H root k)
      have hle := hpre.length_le
      obtain ⟨g2, h2⟩ := good_fold (dom := dom) (H := H) (N := N) (root := root) (H (endD dom (getI (runW dom H root k) (k : Int)))) (runW dom H root k) g (by omega) rfl (fun h hh => ⟨hh, hH _ (g.rng _ ik).1 (g.rng _ ik).2 h hh⟩)
      generalize List.foldl (addW dom (getI (runW dom H root k) (k : Int))) (runW dom H root k) (H (endD dom (getI (runW dom H root k) (k : Int)))) = vs at *
      rw [Int.min_eq_left (by omega)]
      refine ⟨g2.pos, by omega, by omega, g2.root, g2.nd, g2.rng, g2.par, ?_, g2.mono, ?_⟩
      · intro j hj hjk h hh
        by_cases e : j < (k : Int)
        · exact g2.closed j hj e h hh
        · have e : j = (k : Int) := by omega
          subst e
          rw [pre_get hpre ik] at hh ⊢
          exact h2 h hh
      · intro j m hj hm hkm
        exact g2.top j m hj hm (by omega)
    · rw [if_neg hk]
      rw [Int.min_eq_right (by omega)] at g ⊢
      exact g
end
theorem few_below : ∀ (N : Nat) (l : List Int), l.Nodup → (∀ x ∈ l, 0 ≤ x ∧ x < (N : Int)) → l.length ≤ N
  | 0, l, _, h => by
    cases l with
    | nil => simp
    | cons a l => have := h a (by simp); omega
  | N + 1, l, hn, h => by
    by_cases hm : (N : Int) ∈ l
    · have h1 := few_below N (l.erase (N : Int)) (hn.erase _) (fun x hx => by
        rw [hn.mem_erase_iff] at hx
        have := h x hx.2
        have := hx.1
        omega)
      rw [List.length_erase_of_mem hm] at h1
      omega
    · have h1 := few_below N l hn (fun x hx => by
        have := h x hx
        have : x ≠ (N : Int) := fun e => hm (e ▸ hx)
        omega)
      omega
theorem Good.len {ws : List (List α)} {i : Int} (g : Good dom H N root ws i) : ws.length ≤ N := by
  have hn : (ws.map (endD dom)).Nodup := by
    rw [List.nodup_iff_pairwise_ne, List.pairwise_iff_getElem]
    intro a b ha hb hab e
    rw [List.length_map] at ha hb
    rw [List.getElem_map, List.getElem_map] at e
    have ea : getI ws (a : Int) = ws[a] := getI_nat (List.getElem?_eq_getElem ha)
    have eb : getI ws (b : Int) = ws[b] := getI_nat (List.getElem?_eq_getElem hb)
    have := g.nd a b ⟨by omega, by omega⟩ ⟨by omega, by omega⟩ (by rw [ea, eb]; exact e)
    omega
  have := few_below N _ hn (fun x hx => by
    obtain ⟨j, hj, rfl⟩ := mem_ends.1 hx
    exact g.rng j hj)
  simpa using this
theorem runW_end {k : Nat} (h : (runW dom H root k).length ≤ k) : ∀ m, k ≤ m → runW dom H root m = runW dom H root k := by
  intro m hm
  obtain ⟨t, rfl⟩ : ∃ t, m = k + t := ⟨m - k, by omega⟩
  clear hm
  induction t with
  | zero => rfl
  | succ t ih =>
    rw [show k + (t + 1) = (k + t) + 1 from rfl, runW, if_neg (by rw [ih]; omega)]
    exact ih
theorem Good.len1 {ws : List (List α)} {i : Int} (g : Good dom H N root ws i) : ∀ (m : Nat) (j : Int), j < m → inL ws j → 1 ≤ (getI ws j).length ∧ ((getI ws j).length : Int) ≤ j + 1
  | 0, j, h, hj => by have := hj.1; omega
  | m + 1, j, h, hj => by
    have := hj.1
    by_cases h0 : j = 0
    · rw [h0, g.root]; simp
    · obtain ⟨k, h', k0, kj, _, e⟩ := g.par j hj (by omega)
      have := g.len1 m k (by omega) ⟨k0, by have := hj.2; omega⟩
      rw [e]; simp; omega
theorem Good.lens {ws : List (List α)} {i : Int} (g : Good dom H N root ws i) {j : Int} (hj : inL ws j) : 1 ≤ (getI ws j).length ∧ ((getI ws j).length : Int) ≤ j + 1 := g.len1 ws.length j hj.2 hj
variable (dom) in
noncomputable def DW (ws : List (List α)) (d : Int) : Int := if 0 ≤ fstI ws (fun w => endD dom w = d) then ((getI ws (fstI ws fun w => endD dom w = d)).length : Int) - 1 else -1
theorem Good.fst {ws : List (List α)} {i : Int} (g : Good dom H N root ws i) {j : Int} (hj : inL ws j) : fstI ws (fun w => endD dom w = endD dom (getI ws j)) = j := by
  rw [fstI_eq hj]
  refine ⟨rfl, fun k hk hkj e => ?_⟩
  have := g.nd k j hk hj e
  omega
theorem Good.DW_at {ws : List (List α)} {i : Int} (g : Good dom H N root ws i) {j : Int} (hj : inL ws j) : DW dom ws (endD dom (getI ws j)) = ((getI ws j).length : Int) - 1 := by
  unfold DW; rw [g.fst hj, if_pos hj.1]
theorem DW_no {ws : List (List α)} {d : Int} (h : d ∉ ws.map (endD dom)) : DW dom ws d = -1 := by
  unfold DW; rw [if_neg]
  intro h0
  exact h (mem_ends.2 ⟨_, fstI_inL.1 h0, fstI_is h0⟩)
theorem Good.DW_pos {ws : List (List α)} {i : Int} (g : Good dom H N root ws i) {d : Int} : 0 ≤ DW dom ws d ↔ d ∈ ws.map (endD dom) := by
  constructor
  · intro h
    apply Classical.byContradiction
    intro hn
    rw [DW_no hn] at h; omega
  · intro h
    obtain ⟨j, hj, rfl⟩ := mem_ends.1 h
    rw [g.DW_at hj]; have := g.lens hj; omega
structure Dist (dom : α → Int) (H : Int → List α) (N : Nat) (a : Int) (D : Int → Int) : Prop where
  zero : D a = 0
  only : ∀ d, D d = 0 → d = a
  ge : ∀ d, -1 ≤ D d
  lt : ∀ d, D d < N
  rng : ∀ d, 0 ≤ D d → 0 ≤ d ∧ d < N
  edge : ∀ i, 0 ≤ D i → ∀ h ∈ H i, 0 ≤ D (dom h) ∧ D (dom h) ≤ D i + 1
  pre : ∀ d, 0 < D d → ∃ i h, D i = D d - 1 ∧ h ∈ H i ∧ dom h = d
theorem Dist.back {a b : Int} {D E : Int → Int} (hD : Dist dom H N a D) (hE : Dist dom H N b E) (hs : ∀ i h, 0 ≤ i → i < (N : Int) → h ∈ H i → ∃ h' ∈ H (dom h), dom h' = i) :
    ∀ (n : Nat) (d : Int), D d = n → 0 ≤ E d → 0 ≤ E a ∧ E a ≤ E d + n
  | 0, d, h, h2 => by
    have := hD.only d h
    subst this; exact ⟨h2, by omega⟩
  | n + 1, d, h, h2 => by
    obtain ⟨i, x, e1, e2, e3⟩ := hD.pre d (by omega)
    have hi := hD.rng i (by omega)
    obtain ⟨y, y1, y2⟩ := hs i x hi.1 hi.2 e2
    rw [e3] at y1
    have h3 := hE.edge d h2 y y1
    rw [y2] at h3
    have := Dist.back hD hE hs n i (by omega) h3.1
    exact ⟨this.1, by omega⟩
theorem Dist.both {a b : Int} {D E : Int → Int} (hD : Dist dom H N a D) (hE : Dist dom H N b E) (hs : ∀ i h, 0 ≤ i → i < (N : Int) → h ∈ H i → ∃ h' ∈ H (dom h), dom h' = i) : D b = E a := by
  have k1 : 0 ≤ D b → 0 ≤ E a ∧ E a ≤ D b := fun h => by
    have := Dist.back hD hE hs (D b).toNat b (by omega) (by rw [hE.zero]; omega)
    rw [hE.zero] at this; omega
  have k2 : 0 ≤ E a → 0 ≤ D b ∧ D b ≤ E a := fun h => by
    have := Dist.back hE hD hs (E a).toNat a (by omega) (by rw [hD.zero]; omega)
    rw [hD.zero] at this; omega
  have := hD.ge b
  have := hE.ge a
  by_cases h : 0 ≤ D b
  · have := k1 h; have := k2 this.1; omega
  · by_cases h' : 0 ≤ E a
    · have := k2 h'; omega
    · omega
theorem Dist.conn {E : Int → Int → Prop} {a : Int} {D : Int → Int} (hD : Dist dom H N a D) (hE : ∀ i j, (∃ h ∈ H i, dom h = j) → 0 ≤ i → i < (N : Int) → E i j) : ∀ (n : Nat) (d : Int), D d = n → Conn E a d
  | 0, d, h => by have := hD.only d h; subst this; exact .refl _
  | n + 1, d, h => by
    obtain ⟨i, x, e1, e2, e3⟩ := hD.pre d (by omega)
    have hi := hD.rng i (by omega)
    exact .trans (Dist.conn hD hE n i (by omega)) (.edge (hE i d ⟨x, e2, e3⟩ hi.1 hi.2))
end
end Go.Eng

set_option linter.unusedVariables false
set_option linter.unusedSectionVars false
set_option linter.unusedSimpArgs false
namespace Go.Eng
open Go Classical
attribute [local congr] ite_cg
end Go.Eng

set_option linter.unusedVariables false
set_option linter.unusedSectionVars false
set_option linter.unusedSimpArgs false
namespace Go.Eng
open Go Classical
attribute [local congr] ite_cg
section
variable {n : Api_Net}
theorem Domain_1_spec {d : Api_Domain} {a b : Int} : names_Domain_1 d a b = some (decide (d.dev = a ∧ d.vlan = b)) := by
  simp only [names_Domain_1, bind_ite, Option.bind_some, dif1, dif2, dif3, dif4, dif5, dif6, dif7, dnot, ibeq, ibne, decide_eq_true_eq, if_not2, ge_iff_le, gt_iff_lt, fst_ret, Bool.false_eq_true, decide_false]
theorem names_Domain_spec (hs : SmN n) {a b : Int} : names_Domain n a b = some (if RightP n then domIx n.domains a b else -1) := by
  simp only [names_Domain, names_find_Domain_Domain_1, names_Right_spec hs, slices_IndexFunc_Domain_Domain_1]
  rw [loop_first n.domains (fun d => d.dev = a ∧ d.vlan = b) hs.domains (fun i h0 h1 h2 => by
    have := hs.domains
    simp (disch := omega) only [slices_IndexFunc_Domain_Domain_1_L1, Domain_1_spec, h1, nth_getI h2, wr64, bind_ite, Option.bind_some, dif1, dif2, dif3, dif4, dif5, dif6, dif7, dnot, ibeq, ibne, decide_eq_true_eq, if_not2, ge_iff_le, gt_iff_lt, fst_ret, Bool.false_eq_true, decide_false, decide_true, if_true]; split <;> rfl) (by simp [slices_IndexFunc_Domain_Domain_1_L1])]
  simp only [bind_ite, Option.bind_some, dif1, dif2, dif3, dif4, dif5, dif6, dif7, dnot, ibeq, ibne, decide_eq_true_eq, if_not2, ge_iff_le, gt_iff_lt, fst_ret, Bool.false_eq_true, decide_false]
  split <;> rfl

end
end Go.Eng

set_option linter.unusedVariables false
set_option linter.unusedSectionVars false
set_option linter.unusedSimpArgs false
namespace Go.Eng
open Go Classical
attribute [local congr] ite_cg
variable {n : Api_Net}

noncomputable def othI (n : Api_Net) (p : Int) : Int :=
  if RightP n ∧ inL n.ports p ∧ 0 ≤ (getI n.ports p).link then
    (if (getI n.links (getI n.ports p).link).a = p then (getI n.links (getI n.ports p).link).b else (getI n.links (getI n.ports p).link).a)
  else -1

theorem RightP.link (h : RightP n) {p : Int} (hp : inL n.ports p) (hl : 0 ≤ (getI n.ports p).link) :
    inL n.links (getI n.ports p).link ∧ ((getI n.links (getI n.ports p).link).a = p ∨ (getI n.links (getI n.ports p).link).b = p) := by
  have := (h.ports p hp).2.2.2.2.2.2.2.2
  rcases this with h1 | h1
  · omega
  · exact h1

theorem links_Other_spec (hs : SmN n) {p : Int} : links_Other n p = some (othI n p) := by
  unfold links_Other othI
  by_cases hr : RightP n
  case neg =>
    by_cases h1 : p < 0
    · simp [h1, hr]
    by_cases h2 : (n.ports.length : Int) ≤ p
    · simp [h1, h2, hr]
    have hp : inL n.ports p := ⟨by omega, by omega⟩
    simp only [names_Right_spec hs, hr, nth_getI hp, bind_ite, Option.bind_some, dif1, dif2, dif3, dif4, dif5, dif6, dif7, dnot, ibeq, ibne, decide_eq_true_eq, if_not2, ge_iff_le, gt_iff_lt, fst_ret, Bool.false_eq_true, decide_false]
    simp
  by_cases hp : inL n.ports p
  case neg =>
    have : p < 0 ∨ (n.ports.length : Int) ≤ p := by unfold inL at hp; omega
    simp only [hp, bind_ite, Option.bind_some, dif1, dif2, dif3, dif4, dif5, dif6, dif7, dnot, ibeq, ibne, decide_eq_true_eq, if_not2, ge_iff_le, gt_iff_lt, fst_ret, Bool.false_eq_true, decide_false]
    rcases this with h | h <;> simp [h]
  have h1 : ¬ p < 0 := by have := hp.1; omega
  have h2 : ¬ (n.ports.length : Int) ≤ p := by have := hp.2; omega
  by_cases hl : 0 ≤ (getI n.ports p).link
  · have hk := hr.link hp hl
    have h3 : ¬ (getI n.ports p).link < 0 := by omega
    simp only [names_Right_spec hs, hr, nth_getI hp, nth_getI hk.1, hp, hl, h1, h2, h3, bind_ite, Option.bind_some, dif1, dif2, dif3, dif4, dif5, dif6, dif7, dnot, ibeq, ibne, decide_eq_true_eq, if_not2, ge_iff_le, gt_iff_lt, fst_ret, Bool.false_eq_true, decide_false, if_false, if_true, and_self]
    split <;> rfl
  · have h3 : (getI n.ports p).link < 0 := by omega
    simp only [nth_getI hp, hl, h1, h2, h3, bind_ite, Option.bind_some, dif1, dif2, dif3, dif4, dif5, dif6, dif7, dnot, ibeq, ibne, decide_eq_true_eq, if_not2, ge_iff_le, gt_iff_lt, fst_ret, Bool.false_eq_true, decide_false, if_false, if_true, and_false]

theorem othI_right {p : Int} (h : 0 ≤ othI n p) : RightP n ∧ inL n.ports p ∧ 0 ≤ (getI n.ports p).link := by
  unfold othI at h
  split at h
  · assumption
  · omega

structure OthP (n : Api_Net) (p q : Int) : Prop where
  ip : inL n.ports p
  iq : inL n.ports q
  ik : inL n.links (getI n.ports p).link
  link : (getI n.ports q).link = (getI n.ports p).link
  dev : (getI n.ports q).dev ≠ (getI n.ports p).dev
  ends : (p = (getI n.links (getI n.ports p).link).a ∧ q = (getI n.links (getI n.ports p).link).b) ∨ (p = (getI n.links (getI n.ports p).link).b ∧ q = (getI n.links (getI n.ports p).link).a)

theorem othI_othP {p : Int} (h : 0 ≤ othI n p) : OthP n p (othI n p) := by
  have hh := othI_right h
  obtain ⟨hr, hp, hl⟩ := hh
  obtain ⟨hk, he⟩ := hr.link hp hl
  have hL := hr.links _ hk
  obtain ⟨ha, hb, hd, la, lb⟩ := hL
  have heq : othI n p = if (getI n.links (getI n.ports p).link).a = p then (getI n.links (getI n.ports p).link).b else (getI n.links (getI n.ports p).link).a := by
    unfold othI; rw [if_pos ⟨hr, hp, hl⟩]
  have hne : (getI n.links (getI n.ports p).link).a ≠ (getI n.links (getI n.ports p).link).b := fun e => hd (by rw [e])
  by_cases h1 : (getI n.links (getI n.ports p).link).a = p
  · rw [if_pos h1] at heq
    rw [heq]
    exact ⟨hp, hb, hk, by rw [lb], by rw [h1] at hd; exact fun e => hd e.symm, .inl ⟨h1.symm, rfl⟩⟩
  · rw [if_neg h1] at heq
    have h2 : (getI n.links (getI n.ports p).link).b = p := he.resolve_left h1
    rw [heq]
    exact ⟨hp, ha, hk, by rw [la], by rw [h2] at hd; exact hd, .inr ⟨h2.symm, rfl⟩⟩

theorem OthP.back (hr : RightP n) {p q : Int} (h : OthP n p q) : othI n q = p := by
  unfold othI
  have h0 := h.ik.1
  rw [if_pos ⟨hr, h.iq, by rw [h.link]; exact h0⟩, h.link]
  have hd := h.dev
  rcases h.ends with ⟨e1, e2⟩ | ⟨e1, e2⟩
  · rw [if_neg, ← e1]
    intro e
    rw [← e1] at e
    exact hd (by rw [e])
  · rw [if_pos e2.symm, ← e1]

noncomputable def toI (n : Api_Net) (p q v : Int) : Int := if v = (getI n.ports p).native then (getI n.ports q).native else if v ∈ (getI n.ports q).tagged then v else 0
noncomputable def crossI (n : Api_Net) (p v : Int) : Int × Int × Bool :=
  if 0 ≤ othI n p ∧ MemP (getI n.ports p) v ∧ toI n p (othI n p) v ≠ 0 then (othI n p, toI n p (othI n p) v, true) else (0, 0, false)

theorem links_Cross_spec (hs : SmN n) {p v : Int} : links_Cross n p v = some (crossI n p v) := by
  unfold links_Cross crossI
  simp only [links_Other_spec hs, bind_ite, Option.bind_some, dif1, dif2, dif3, dif4, dif5, dif6, dif7, dnot, ibeq, ibne, decide_eq_true_eq, if_not2, ge_iff_le, gt_iff_lt, fst_ret, Bool.false_eq_true, decide_false]
  by_cases h : 0 ≤ othI n p
  case neg =>
    have : othI n p < 0 := by omega
    simp [h, this]
  have hO := othI_othP h
  have h1 : ¬ othI n p < 0 := by omega
  have f1 : Few (getI n.ports p).tagged := hs.tagged _ (getI_mem hO.ip)
  have f2 : Few (getI n.ports (othI n p)).tagged := hs.tagged _ (getI_mem hO.iq)
  simp only [h1, h, nth_getI hO.ip, nth_getI hO.iq, Member_spec f1, Contains_int_spec f2, bind_ite, Option.bind_some, dif1, dif2, dif3, dif4, dif5, dif6, dif7, dnot, ibeq, ibne, decide_eq_true_eq, if_not2, ge_iff_le, gt_iff_lt, fst_ret, Bool.false_eq_true, decide_false, if_false, true_and]
  by_cases hm : MemP (getI n.ports p) v
  case neg => simp [hm]
  simp only [hm, if_true, true_and]
  unfold toI
  by_cases h2 : v = (getI n.ports p).native
  · simp only [h2, if_true]
    split <;> simp_all
  · simp only [h2, if_false]
    by_cases h3 : v ∈ (getI n.ports (othI n p)).tagged
    · simp only [h3, if_true]
      split <;> simp_all
    · simp [h3]

end Go.Eng

set_option linter.unusedVariables false
set_option linter.unusedSectionVars false
set_option linter.unusedSimpArgs false
namespace Go.Eng
open Go Classical
attribute [local congr] ite_cg

theorem rPlace_spec {α : Type} {l : List α} {i : Int} : palingref15_Place i (l.length : Int) = some (decide (inL l i)) := by
  simp only [palingref15_Place, bind_ite, Option.bind_some, dif1, dif2, dif3, dif4, dif5, dif6, dif7, dnot, ibeq, ibne, decide_eq_true_eq, if_not2, ge_iff_le, gt_iff_lt, fst_ret, Bool.false_eq_true, decide_false]; exact sdec Iff.rfl

theorem rIn_spec {l : List Int} {x : Int} (hl : Few l) : palingref15_In l x = some (decide (x ∈ l)) := by
  unfold palingref15_In
  rw [loop_each l (fun _ y => ¬ y = x) (.inl ()) (.inr ()) hl (fun i h0 h1 h2 => by
    simp (disch := omega) only [palingref15_In_L1, h1, nth_getI h2, wr64, bind_ite, Option.bind_some, dif1, dif2, dif3, dif4, dif5, dif6, dif7, dnot, ibeq, ibne, decide_eq_true_eq, if_not2, ge_iff_le, gt_iff_lt, fst_ret, Bool.false_eq_true, decide_false, mrg1, mrg2, mrg3, mrg4, mrg5, mrg6, mrg7, decide_true, if_true]; exact fpos Iff.rfl) (by simp [palingref15_In_L1])]
  simp only [bind_ite, Option.bind_some, dif1, dif2, dif3, dif4, dif5, dif6, dif7, dnot, ibeq, ibne, decide_eq_true_eq, if_not2, ge_iff_le, gt_iff_lt, fst_ret, Bool.false_eq_true, decide_false, eachP_mem]
  refine sdec ?_
  constructor
  · intro h
    apply Classical.byContradiction
    intro hn
    exact h fun y hy e => hn (e ▸ hy)
  · intro h hn
    exact hn x h rfl

section
variable {n : Api_Net}
end
end Go.Eng

set_option linter.unusedVariables false
set_option linter.unusedSectionVars false
set_option linter.unusedSimpArgs false
namespace Go.Eng
open Go Classical
attribute [local congr] ite_cg
variable {n : Api_Net}

theorem links_Domain_spec (hs : SmN n) (hr : RightP n) {p v : Int} : links_Domain n p v = some (if (crossI n p v).2.2 = true then (domIx n.domains (getI n.ports (othI n p)).dev (toI n p (othI n p) v), true) else (0, false)) := by
  simp only [links_Domain, links_Cross_spec hs, Option.bind_some]
  unfold crossI
  by_cases h : 0 ≤ othI n p ∧ MemP (getI n.ports p) v ∧ toI n p (othI n p) v ≠ 0
  · have hO := othI_othP h.1
    simp only [if_pos h, Bool.not_true, Bool.false_eq_true, if_false, if_true, nth_getI hO.iq, Option.bind_some, names_Domain_spec hs, if_pos hr]
  · simp only [if_neg h, Bool.not_false, Bool.false_eq_true, if_false, if_true]

end Go.Eng

set_option linter.unusedVariables false
set_option linter.unusedSectionVars false
set_option linter.unusedSimpArgs false
namespace Go.Eng
open Go Classical
attribute [local congr] ite_cg
section
variable {n : Api_Net}
def InDom (n : Api_Net) (k : Int) (p : Api_Port) : Prop := p.dev = (getI n.domains k).dev ∧ MemP p (getI n.domains k).vlan
noncomputable def membersL (n : Api_Net) (k : Int) : List Int := gatherI n.ports (fun _ p => InDom n k p) (fun i _ => i)
end
end Go.Eng

set_option linter.unusedVariables false
set_option linter.unusedSectionVars false
set_option linter.unusedSimpArgs false
namespace Go.Eng
open Go Classical
attribute [local congr] ite_cg
section
variable {n : Api_Net}
theorem membersL_in {k p : Int} (h : p ∈ membersL n k) : inL n.ports p := by
  obtain ⟨i, hi, _, rfl⟩ := mem_gatherI.1 h
  exact hi
theorem membersL_len {k : Int} : (membersL n k).length ≤ n.ports.length := gatherI_len
end
end Go.Eng

set_option linter.unusedVariables false
set_option linter.unusedSectionVars false
set_option linter.unusedSimpArgs false
namespace Go.Eng
open Go Classical

def LeL (l' l : List Int) : Prop := l'.length = l.length ∧ ∀ x, inL l x → getI l' x ≤ getI l x
theorem LeL.refl (l : List Int) : LeL l l := ⟨rfl, fun _ _ => Int.le_refl _⟩
theorem LeL.trans {a b c : List Int} (h : LeL a b) (g : LeL b c) : LeL a c :=
  ⟨h.1.trans g.1, fun x hx => Int.le_trans (h.2 x (by unfold inL at *; rw [g.1]; exact hx)) (g.2 x hx)⟩
theorem LeL.inL {a b : List Int} (h : LeL a b) {x : Int} : inL a x ↔ inL b x := by unfold Go.Eng.inL; rw [h.1]

section
variable {E : Int → Int → Prop} {N : Nat} {next : Int → List Int}
end
end Go.Eng

set_option linter.unusedVariables false
set_option linter.unusedSectionVars false
set_option linter.unusedSimpArgs false
namespace Go.Eng
open Go Classical
attribute [local congr] ite_cg
section
variable {n : Api_Net}
noncomputable def toDom (n : Api_Net) (p v : Int) : Int := domIx n.domains (getI n.ports (othI n p)).dev (toI n p (othI n p) v)
def OkX (n : Api_Net) (p v : Int) : Prop := 0 ≤ othI n p ∧ MemP (getI n.ports p) v ∧ toI n p (othI n p) v ≠ 0
theorem crossI_ok {p v : Int} : (crossI n p v).2.2 = true ↔ OkX n p v := by
  unfold crossI OkX
  by_cases h : 0 ≤ othI n p ∧ MemP (getI n.ports p) v ∧ toI n p (othI n p) v ≠ 0
  · rw [if_pos h]; simp [h]
  · rw [if_neg h]; simp [h]
theorem dom_of_mem (hr : RightP n) {p v : Int} (hp : inL n.ports p) (hm : MemP (getI n.ports p) v) :
    inL n.domains (domIx n.domains (getI n.ports p).dev v) ∧ (getI n.domains (domIx n.domains (getI n.ports p).dev v)).dev = (getI n.ports p).dev ∧ (getI n.domains (domIx n.domains (getI n.ports p).dev v)).vlan = v := by
  have hP := hr.ports p hp
  have h0 : 0 ≤ domIx n.domains (getI n.ports p).dev v := by
    obtain ⟨hv, h | h⟩ := hm
    · subst h
      exact hP.2.2.2.2.2.2.2.1 (by have := hP.2.1; omega)
    · exact hP.2.2.2.2.2.2.1 v h
  have h1 := fstI_is (l := n.domains) (P := fun d => d.dev = (getI n.ports p).dev ∧ d.vlan = v) h0
  exact ⟨fstI_inL.1 h0, h1.1, h1.2⟩
theorem to_mem {p v : Int} (h : OkX n p v) : MemP (getI n.ports (othI n p)) (toI n p (othI n p) v) := by
  obtain ⟨_, hm, hz⟩ := h
  unfold toI at hz ⊢
  split at hz
  · rename_i h1; rw [if_pos h1]; exact ⟨hz, .inl rfl⟩
  · rename_i h1; rw [if_neg h1]
    split at hz
    · rename_i h2; rw [if_pos h2]; exact ⟨hm.1, .inr h2⟩
    · exact absurd rfl hz
theorem toDom_in (hr : RightP n) {p v : Int} (h : OkX n p v) : inL n.domains (toDom n p v) := (dom_of_mem hr (othI_othP h.1).iq (to_mem h)).1

end
end Go.Eng

set_option linter.unusedVariables false
set_option linter.unusedSectionVars false
set_option linter.unusedSimpArgs false
namespace Go.Eng
open Go Classical
attribute [local congr] ite_cg

end Go.Eng

set_option linter.unusedVariables false
set_option linter.unusedSectionVars false
set_option linter.unusedSimpArgs false
namespace Go.Eng
open Go Classical
attribute [local congr] ite_cg
section
variable {n : Api_Net}
theorem links_Domain_ok (hs : SmN n) (hr : RightP n) {p v : Int} : links_Domain n p v = some (if OkX n p v then (toDom n p v, true) else (0, false)) := by
  rw [links_Domain_spec hs hr]
  congr 1
  by_cases h : OkX n p v
  · rw [if_pos h, if_pos (crossI_ok.2 h)]; rfl
  · rw [if_neg h, if_neg (fun g => h (crossI_ok.1 g))]
theorem peer_sym (hr : RightP n) {i k : Int} (hi : inL n.domains i) (hk : k ∈ (getI n.domains i).peers) : inL n.domains k ∧ k ≠ i ∧ i ∈ (getI n.domains k).peers := by
  obtain ⟨j, hj, rfl⟩ := mem_getI hk
  have := (hr.peers i hi j hj).1
  exact ⟨this.1, this.2.1, this.2.2.2.2.2.2.2.2⟩
end
end Go.Eng

set_option linter.unusedVariables false
set_option linter.unusedSectionVars false
set_option linter.unusedSimpArgs false
namespace Go.Eng
open Go Classical
attribute [local congr] ite_cg
section
variable {n : Api_Net}
theorem names_Members_spec (hs : SmN n) {k : Int} : names_Members n k = some (if RightP n ∧ inL n.domains k then membersL n k else []) := by
  by_cases hr : RightP n
  case neg => simp [names_Members, names_Right_spec hs, hr]
  by_cases hk : inL n.domains k
  case neg => simp [names_Members, names_Right_spec hs, place_Domain_spec, hr, hk]
  simp only [names_Members, names_Right_spec hs, place_Domain_spec, hr, hk, decide_true, and_self, if_true, Option.bind_some]
  rw [loop_gather n.ports (fun _ p => InDom n k p) (fun i _ => i) (out := id) hs.ports (fun i s h0 h1 h2 h3 => by
    have h4 := hs.ports
    have h5 : roomy 8 (s ++ [i]) = true := roomy_few (by simp; omega)
    simp (disch := omega) only [names_Members_L1, h1, nth_getI h2, nth_getI hk, Member_spec (hs.tagged _ (getI_mem h2)), wr64, h5, bind_ite, Option.bind_some, dif1, dif2, dif3, dif4, dif5, dif6, dif7, dnot, ibeq, ibne, decide_eq_true_eq, if_not2, ge_iff_le, gt_iff_lt, fst_ret, Bool.false_eq_true, decide_false, decide_true, if_true, InDom]
    grind) (fun s => by simp [names_Members_L1])]
  rfl

end
end Go.Eng

set_option linter.unusedVariables false
set_option linter.unusedSectionVars false
set_option linter.unusedSimpArgs false
namespace Go.Eng
open Go Classical
attribute [local congr] ite_cg

theorem linT {α : Type} {l : List α} {i : Int} (h : inL l i) : lin l i = true := by rw [lin_dec]; exact decide_eq_true h
theorem loop_map {α β ρ : Type} [Inhabited α] {f : List β × Int → Option ((List β × Int) ⊕ ρ)} (l : List α) (e : α → β) (s0 : List β) {out : List β → ρ} (hb : Few l)
    (h1 : ∀ (i : Int) (s : List β), inL l i → (s.length : Int) = s0.length + i → f (s, i) = some (.inl (s ++ [e (getI l i)], i + 1))) (h2 : ∀ s, f (s, l.length) = some (.inr (out s))) :
    loopM f (s0, 0) = some (out (s0 ++ l.map e)) := by
  have := loopM_trace (f := f) (r := out (s0 ++ l.map e)) (fun i => (s0 ++ (l.take i).map e, (i : Int))) l.length (by unfold Few at hb; omega) (fun i hi => by
    have hx : l[i]? = some l[i] := List.getElem?_eq_getElem hi
    have hl : (l.take i).length = i := by simp; omega
    have h := h1 (i : Int) (s0 ++ (l.take i).map e) (inL_nat hx) (by simp; omega)
    rw [getI_nat hx] at h
    rw [h, List.take_add_one, hx]
    simp only [List.map_append, Option.toList_some, List.map_cons, List.map_nil, List.append_assoc, Int.natCast_add, Int.natCast_one]) (by simp only [List.take_length]; exact h2 _)
  simpa using this

section
variable {n : Api_Net}
noncomputable def hopsI (n : Api_Net) (d : Int) : List Reach_Hop :=
  gatherI (membersL n d) (fun _ p => OkX n p (getI n.domains d).vlan) (fun _ p => ⟨1, p, toDom n p (getI n.domains d).vlan, 0⟩) ++ (getI n.domains d).peers.map (fun k => ⟨2, 0, k, 0⟩)
theorem hopsI_len (hg : BndN n 200 100) {d : Int} (hd : inL n.domains d) : (hopsI n d).length ≤ 300 := by
  unfold hopsI
  have h1 : (gatherI (membersL n d) (fun _ p => OkX n p (getI n.domains d).vlan) (fun _ p => (⟨1, p, toDom n p (getI n.domains d).vlan, 0⟩ : Reach_Hop))).length ≤ n.ports.length := Nat.le_trans gatherI_len membersL_len
  have h2 := hg.ports
  have h3 := hg.peers _ (getI_mem hd)
  simp; omega
theorem place_spec (hs : SmN n) {d : Int} : reach_place n d = some (decide (inL n.domains d ∧ RightP n)) := by
  unfold reach_place
  rw [names_Right_spec hs]
  by_cases h1 : d ≥ 0
  · by_cases h2 : d < (n.domains.length : Int)
    · rw [if_pos (by simpa using h1), if_pos (by simpa using h2)]
      exact sdec ⟨fun h => ⟨⟨h1, h2⟩, h⟩, fun h => h.2⟩
    · rw [if_pos (by simpa using h1), if_neg (by simpa using h2)]
      exact (congrArg some (decide_eq_false (p := inL n.domains d ∧ RightP n) (fun h => h2 h.1.2))).symm
  · rw [if_neg (by simpa using h1)]
    exact (congrArg some (decide_eq_false (p := inL n.domains d ∧ RightP n) (fun h => h1 h.1.1))).symm
theorem reach_Hops_spec (hg : BndN n 200 100) (hr : RightP n) {d : Int} (hd : inL n.domains d) : reach_Hops n d = some (hopsI n d) := by
  have hs := hg.sm
  have hml : (membersL n d).length ≤ 200 := Nat.le_trans membersL_len hg.ports
  have hpl := hg.peers _ (getI_mem hd)
  simp only [reach_Hops, place_spec hs, Option.bind_some, decide_eq_true (show inL n.domains d ∧ RightP n from ⟨hd, hr⟩), Bool.not_true, Bool.false_eq_true, if_false, names_Members_spec hs, if_pos (show RightP n ∧ inL n.domains d from ⟨hr, hd⟩), nth_getI hd]
  have e1 := loop_gather (f := fun s : (List Reach_Hop) × Int => match s with | (l9, v10) => reach_Hops_L1 n d (membersL n d) l9 v10) (membersL n d) (fun _ p => OkX n p (getI n.domains d).vlan) (fun _ p => (⟨1, p, toDom n p (getI n.domains d).vlan, 0⟩ : Reach_Hop)) (out := fun s => s) (by unfold Few; omega) (fun i s i0 i1 hi hsl => by
    simp only [reach_Hops_L1, i1, decide_true, if_true, linT hi, getI_get? hi, Option.bind_some, nth_getI hd, links_Domain_ok hs hr, wr64 (n := i + 1) (by omega) (by omega)]
    by_cases ho : OkX n (getI (membersL n d) i) (getI n.domains d).vlan
    · simp only [if_pos ho, if_true]
      rw [if_pos (roomy_few (by simp; omega))]
    · simp only [if_neg ho, Bool.false_eq_true, if_false]) (fun s => by simp [reach_Hops_L1])
  rw [e1]
  simp only [Option.bind_some]
  have hgl : (gatherI (membersL n d) (fun _ p => OkX n p (getI n.domains d).vlan) (fun _ p => (⟨1, p, toDom n p (getI n.domains d).vlan, 0⟩ : Reach_Hop))).length ≤ 200 := Nat.le_trans gatherI_len hml
  have e2 := loop_map (f := fun s : (List Reach_Hop) × Int => match s with | (l30, v31) => reach_Hops_L2 (getI n.domains d) l30 v31) (getI n.domains d).peers (fun k => (⟨2, 0, k, 0⟩ : Reach_Hop)) (gatherI (membersL n d) (fun _ p => OkX n p (getI n.domains d).vlan) (fun _ p => (⟨1, p, toDom n p (getI n.domains d).vlan, 0⟩ : Reach_Hop))) (out := fun s => s) (by unfold Few; omega) (fun i s hi hlen => by
    have i0 := hi.1; have i1 := hi.2
    simp only [reach_Hops_L2, i1, decide_true, if_true, nth_getI hi, Option.bind_some, wr64 (n := i + 1) (by omega) (by omega)]
    rw [if_pos (roomy_few (by simp; omega))]) (fun s => by simp [reach_Hops_L2])
  rw [e2]
  rfl
theorem mem_hopsI {d : Int} {h : Reach_Hop} : h ∈ hopsI n d ↔ (∃ p ∈ membersL n d, OkX n p (getI n.domains d).vlan ∧ h = ⟨1, p, toDom n p (getI n.domains d).vlan, 0⟩) ∨ ∃ k ∈ (getI n.domains d).peers, h = ⟨2, 0, k, 0⟩ := by
  unfold hopsI
  rw [List.mem_append, mem_gatherI, List.mem_map]
  constructor
  · rintro (⟨i, hi, h1, rfl⟩ | ⟨k, hk, rfl⟩)
    · exact .inl ⟨_, getI_mem hi, h1, rfl⟩
    · exact .inr ⟨k, hk, rfl⟩
  · rintro (⟨p, hp, h1, rfl⟩ | ⟨k, hk, rfl⟩)
    · obtain ⟨i, hi, rfl⟩ := mem_getI hp
      exact .inl ⟨i, hi, h1, rfl⟩
    · exact .inr ⟨k, hk, rfl⟩
theorem hops_in (hr : RightP n) : HIn (fun h : Reach_Hop => h.domain) (hopsI n) n.domains.length := by
  intro d d0 d1 h hh
  have hd : inL n.domains d := ⟨d0, d1⟩
  rcases mem_hopsI.1 hh with ⟨p, _, ho, rfl⟩ | ⟨k, hk, rfl⟩
  · exact toDom_in hr ho
  · exact (peer_sym hr hd hk).1
end
end Go.Eng

set_option linter.unusedVariables false
set_option linter.unusedSectionVars false
set_option linter.unusedSimpArgs false
namespace Go.Eng
open Go Classical
attribute [local congr] ite_cg

theorem mul_small {N : Nat} (h : N ≤ 200) : math_bits_Mul (wr_u64 1) (wr_u64 (N : Int)) = some (0, (N : Int)) := by
  have key : ∀ N : Fin 201, math_bits_Mul (wr_u64 1) (wr_u64 (N.val : Int)) = some (0, (N.val : Int)) := by decide +kernel
  exact key ⟨N, by omega⟩
theorem Repeat_spec {x : Int} {N : Nat} (h : N ≤ 200) : slices_Repeat_int [x] (N : Int) = some (List.replicate N x, N) := by
  have hw := wr64 (n := (N : Int)) (by omega) (by omega)
  have hmk : mkok 8 (N : Int) (N : Int) = true := by unfold mkok; simp; omega
  have h1 := mul_small h
  have hlen1 : (([x] : List Int).length : Int) = 1 := rfl
  simp only [slices_Repeat_int, hlen1, h1, Option.bind_some, hw, hmk, if_true, Int.toNat_natCast]
  rw [if_neg (by simp), if_neg (by simp), if_neg (by simp; omega)]
  by_cases h0 : N = 0
  · subst h0
    have e : loopM (fun s : (List Int) × Int => match s with | (l9, v10) => slices_Repeat_int_L1 (0, ((0 : Nat) : Int)) l9 v10) ([], 0) = some [] :=
      loopM_trace (f := fun s : (List Int) × Int => match s with | (l9, v10) => slices_Repeat_int_L1 (0, ((0 : Nat) : Int)) l9 v10) (fun _ => ([], 0)) 0 (by decide) (fun i hi => by omega) (by simp only [slices_Repeat_int_L1]; rw [if_neg (by rw [wr64 (by decide) (by decide)]; decide)])
    exact congrArg (fun o : Option (List Int) => o.bind fun l16 => some (l16, 0)) e
  have key : ∃ r, loopM (fun s : (List Int) × Int => match s with | (l9, v10) => slices_Repeat_int_L1 (0, (N : Int)) l9 v10) (x :: List.replicate (N - 1) 0, 1) = some r ∧ r = List.replicate N x := by
    refine loopM_rule (f := fun s : (List Int) × Int => match s with | (l9, v10) => slices_Repeat_int_L1 (0, (N : Int)) l9 v10) (fun s => ∃ v : Nat, 1 ≤ v ∧ v ≤ N ∧ s = (List.replicate v x ++ List.replicate (N - v) 0, (v : Int))) _ (fun s => N - s.2.toNat) (fun s hs => ?_) ⟨1, by omega, by omega, by simp⟩ (by simp; omega)
    obtain ⟨v, v1, v2, rfl⟩ := hs
    by_cases c : v = N
    · subst c
      refine ⟨.inr (List.replicate v x), ?_, rfl⟩
      simp only [slices_Repeat_int_L1]
      rw [if_neg (by rw [hw]; simp)]
      simp
    have hvN : v < N := by omega
    refine ⟨.inl (List.replicate (v + min v (N - v)) x ++ List.replicate (N - (v + min v (N - v))) 0, ((v + min v (N - v) : Nat) : Int)), ?_, ⟨v + min v (N - v), by omega, by omega, rfl⟩, by simp only; omega⟩
    have hlen : (List.replicate v x ++ List.replicate (N - v) (0 : Int)).length = N := by simp; omega
    simp only [slices_Repeat_int_L1, hlen]
    rw [if_pos (by rw [hw]; simpa using hvN), if_pos (by rw [slok_dec]; simp; omega), if_pos (by rw [slok_dec]; simp; omega)]
    have t1 : List.take v (List.replicate v x ++ List.replicate (N - v) (0 : Int)) = List.replicate v x := by rw [List.take_append_of_le_length (by simp)]; simp
    simp only [Int.toNat_natCast, Int.toNat_zero, List.drop_zero, t1, List.length_replicate]
    have hm : min v (N - v) ≤ v := by omega
    have t2 : List.take (min v (N - v)) (List.replicate v x) = List.replicate (min v (N - v)) x := by rw [List.take_replicate]; congr 1; omega
    have t3 : List.drop (v + min v (N - v)) (List.replicate v x ++ List.replicate (N - v) (0 : Int)) = List.replicate (N - (v + min v (N - v))) 0 := by
      rw [List.drop_append, List.drop_replicate, List.drop_replicate]
      simp
      omega
    rw [t2, t3, ← List.append_assoc, List.replicate_append_replicate, wr64 (by omega) (by omega)]
    simp
  obtain ⟨r, e, rfl⟩ := key
  have hN1 : 1 ≤ N := by omega
  have e1 : min 1 N = 1 := by omega
  simp only [List.length_singleton, List.length_replicate, Nat.sub_zero, e1, List.take_zero, List.nil_append, Nat.zero_add, List.drop_replicate] 
  simp only [List.take_succ_cons, List.take_zero, List.singleton_append]
  have e' := e
  simp only [Int.natCast_one] at e' ⊢
  rw [e']; rfl

abbrev domH : Reach_Hop → Int := fun h => h.domain
abbrev rootH (a : Int) : Reach_Hop := ⟨0, 0, a, 0⟩
structure Arr (N : Nat) (a : Int) (ws : List (List Reach_Hop)) (st : List Int) (fi : List Reach_Hop) (ba : List Int) : Prop where
  l1 : st.length = N
  l2 : fi.length = N
  l3 : ba.length = N
  st : ∀ d, inL st d → getI st d = DW domH ws d
  root : getI fi a = rootH a
  ba : ∀ j, inL ws j → 0 < j → ∃ k, 0 ≤ k ∧ k < j ∧ getI ws j = getI ws k ++ [getI fi (endD domH (getI ws j))] ∧ getI ba (endD domH (getI ws j)) = endD domH (getI ws k)
section
variable {H : Int → List Reach_Hop} {N : Nat} {a : Int} {ws : List (List Reach_Hop)} {i : Int} {st ba : List Int} {fi : List Reach_Hop}
theorem Arr.add (ha : Arr N a ws st fi ba) (g : Good domH H N (rootH a) ws i) (hi : i < ws.length) {h : Reach_Hop} (hh : h ∈ H (endD domH (getI ws i))) (hN : 0 ≤ h.domain ∧ h.domain < N) (hf : h.domain ∉ ws.map (endD domH)) :
    Arr N a (ws ++ [getI ws i ++ [h]]) (List.set st (Int.toNat h.domain) (((getI ws i).length : Int) - 1 + 1)) (List.set fi (Int.toNat h.domain) h) (List.set ba (Int.toNat h.domain) (endD domH (getI ws i))) := by
  have ii : inL ws i := ⟨g.i0, hi⟩
  have g2 := (good_add g hi hh hN).1
  have e2 : addW domH (getI ws i) ws h = ws ++ [getI ws i ++ [h]] := by unfold addW; rw [if_neg hf]
  rw [e2] at g2
  have gL : getI (ws ++ [getI ws i ++ [h]]) (ws.length : Int) = getI ws i ++ [h] := getI_last
  have gA : ∀ j, inL ws j → getI (ws ++ [getI ws i ++ [h]]) j = getI ws j := fun j hj => getI_app hj
  have iL : inL (ws ++ [getI ws i ++ [h]]) (ws.length : Int) := inL_app1.2 (.inr rfl)
  have hno : ∀ j, inL ws j → endD domH (getI ws j) ≠ h.domain := fun j hj e => hf (mem_ends.2 ⟨j, hj, e⟩)
  have h1 : inL st h.domain := ⟨hN.1, by have := ha.l1; omega⟩
  have h2 : inL fi h.domain := ⟨hN.1, by have := ha.l2; omega⟩
  have h3 : inL ba h.domain := ⟨hN.1, by have := ha.l3; omega⟩
  have h0 : inL ws 0 := ⟨by omega, by have := g.pos; omega⟩
  have hra : a ≠ h.domain := fun e => hno 0 h0 (by rw [g.root, endD_one]; exact e)
  have hin : ∀ j, inL ws j → inL fi (endD domH (getI ws j)) ∧ inL ba (endD domH (getI ws j)) := fun j hj => by
    have := g.rng j hj
    have := ha.l2; have := ha.l3
    exact ⟨⟨by omega, by omega⟩, ⟨by omega, by omega⟩⟩
  have ia : inL fi a := by
    have := (hin 0 h0).1
    rwa [g.root, endD_one] at this
  refine ⟨by rw [List.length_set]; exact ha.l1, by rw [List.length_set]; exact ha.l2, by rw [List.length_set]; exact ha.l3, ?_, ?_, ?_⟩
  · intro d hd
    have hd := inL_setI.1 hd
    rw [getI_setI h1 hd]
    by_cases e : d = h.domain
    · rw [if_pos e, e]
      have := g2.DW_at iL
      rw [gL, endD_app] at this
      rw [this]; simp
    · rw [if_neg e, ha.st d hd]
      by_cases hm : d ∈ ws.map (endD domH)
      · obtain ⟨j, hj, rfl⟩ := mem_ends.1 hm
        have := g2.DW_at (inL_app hj)
        rw [gA j hj] at this
        rw [this, g.DW_at hj]
      · rw [DW_no hm, DW_no]
        rw [List.map_append, List.mem_append]
        rintro (q | q)
        · exact hm q
        · simp [endD_app] at q; exact e q
  · rw [getI_setI h2 ia, if_neg hra]; exact ha.root
  · intro j hj j0
    rcases inL_app1.1 hj with hj | rfl
    · obtain ⟨k, k0, kj, e, e'⟩ := ha.ba j hj j0
      have hk : inL ws k := ⟨k0, by have := hj.2; omega⟩
      refine ⟨k, k0, kj, ?_, ?_⟩
      · rw [gA j hj, gA k hk, getI_setI h2 (hin j hj).1, if_neg (hno j hj)]; exact e
      · rw [gA j hj, gA k hk, getI_setI h3 (hin j hj).2, if_neg (hno j hj)]; exact e'
    · refine ⟨i, g.i0, hi, ?_, ?_⟩
      · rw [gL, gA i ii, endD_app, getI_setI h2 h2, if_pos rfl]
      · rw [gL, gA i ii, endD_app, getI_setI h3 h3, if_pos rfl]
end
section
variable {n : Api_Net}
noncomputable def fullW (n : Api_Net) (a : Int) : List (List Reach_Hop) := runW domH (hopsI n) (rootH a) n.domains.length
theorem take_succ_foldl {α β : Type} {f : β → α → β} {l : List α} {b : β} {k : Nat} {x : α} (h : l[k]? = some x) : (l.take (k + 1)).foldl f b = f ((l.take k).foldl f b) x := by
  rw [List.take_add_one, h]; simp
theorem find_in (hg : BndN n 200 100) (hr : RightP n) {a b : Int} {n7 : Nat} {v20 : Int} {ws : List (List Reach_Hop)} {i : Int} (g : Good domH (hopsI n) n.domains.length (rootH a) ws i) (hi : i < ws.length) (hb : inL n.domains b)
    {st ba : List Int} {fi : List Reach_Hop} (hA : Arr n.domains.length a ws st fi ba) :
    ∃ r, loopM (fun s : (List Int) × (List Reach_Hop) × (List Int) × (List Int) × Int => match s with | (l28, l29, l30, l31, v32) => reach_find_L2 n a b n7 v20 (endD domH (getI ws i)) (hopsI n (endD domH (getI ws i))) l28 l29 l30 l31 v32) (st, fi, ba, ws.map (endD domH), 0) = some r ∧
      match r with
      | .inl (st', fi', ba') => ∃ ws', ws' <+: (hopsI n (endD domH (getI ws i))).foldl (addW domH (getI ws i)) ws ∧ Good domH (hopsI n) n.domains.length (rootH a) ws' i ∧ Arr n.domains.length a ws' st' fi' ba' ∧ b ≠ a ∧ 0 ≤ DW domH ws' b
      | .inr (st', fi', ba', q) => Arr n.domains.length a ((hopsI n (endD domH (getI ws i))).foldl (addW domH (getI ws i)) ws) st' fi' ba' ∧ q = ((hopsI n (endD domH (getI ws i))).foldl (addW domH (getI ws i)) ws).map (endD domH) := by
  have ii : inL ws i := ⟨g.i0, hi⟩
  have hri := g.rng i ii
  have hdi : inL n.domains (endD domH (getI ws i)) := ⟨hri.1, hri.2⟩
  have hhl := hopsI_len hg hdi
  have hdl := hg.domains
  have hHin : ∀ h ∈ hopsI n (endD domH (getI ws i)), h ∈ hopsI n (endD domH (getI ws i)) ∧ 0 ≤ domH h ∧ domH h < (n.domains.length : Int) := fun h hh => ⟨hh, hops_in hr _ hri.1 hri.2 h hh⟩
  generalize hhs : hopsI n (endD domH (getI ws i)) = hs at *
  refine loopM_rule (f := fun s : (List Int) × (List Reach_Hop) × (List Int) × (List Int) × Int => match s with | (l28, l29, l30, l31, v32) => reach_find_L2 n a b n7 v20 (endD domH (getI ws i)) hs l28 l29 l30 l31 v32)
    (fun s => ∃ k : Nat, k ≤ hs.length ∧ s.2.2.2.2 = (k : Int) ∧ Arr n.domains.length a ((hs.take k).foldl (addW domH (getI ws i)) ws) s.1 s.2.1 s.2.2.1 ∧ s.2.2.2.1 = ((hs.take k).foldl (addW domH (getI ws i)) ws).map (endD domH)) _ (fun s => hs.length - s.2.2.2.2.toNat) (fun s hI => ?_) ⟨0, by omega, rfl, hA, rfl⟩ (by simp only; omega)
  obtain ⟨st, fi, ba, q, v⟩ := s
  obtain ⟨k, hk, rfl, hA, rfl⟩ := hI
  simp only at hA hk ⊢
  have hpre : ws <+: (hs.take k).foldl (addW domH (getI ws i)) ws := fold_pre _ _
  have hge : getI ((hs.take k).foldl (addW domH (getI ws i)) ws) i = getI ws i := pre_get hpre ii
  have hgood := (good_fold (hs.take k) ws g hi rfl (fun h hh => ⟨by rw [hhs]; exact List.mem_of_mem_take hh, (hHin h (List.mem_of_mem_take hh)).2⟩)).1
  have hlt : i < ((hs.take k).foldl (addW domH (getI ws i)) ws).length := by have := hpre.length_le; omega
  by_cases c : k < hs.length
  · have hx : hs[k]? = some hs[k] := List.getElem?_eq_getElem c
    have hik : inL hs (k : Int) := ⟨by omega, by omega⟩
    have hgx : getI hs (k : Int) = hs[k] := getI_nat hx
    have htake := take_succ_foldl (f := addW domH (getI ws i)) (b := ws) hx
    have hmem : hs[k] ∈ hs := List.getElem_mem c
    have hin := hHin _ hmem
    generalize hs[k] = h at *
    have hprek : (hs.take k).foldl (addW domH (getI ws i)) ws <+: hs.foldl (addW domH (getI ws i)) ws := by
      conv => rhs; rw [← List.take_append_drop k hs, List.foldl_append]
      exact fold_pre _ _
    generalize (hs.take k).foldl (addW domH (getI ws i)) ws = cur at *
    have l1 := hA.l1; have l2 := hA.l2; have l3 := hA.l3
    have hb0 := hb.1; have hb1 := hb.2
    have ib : inL st b := ⟨hb.1, by omega⟩
    have hcur := hgood.len
    simp only [reach_find_L2]
    rw [if_pos (by simpa using c), if_pos (linT hik), getI_get? hik, hgx, Option.bind_some]
    have hJ : reach_find_J3 n a b n7 v20 (endD domH (getI ws i)) hs st fi ba (cur.map (endD domH)) (k : Int) h = some (if b ≠ a ∧ 0 ≤ DW domH cur b then .inl () else .inr ()) := by
      unfold reach_find_J3
      rw [if_pos (linT ib), getI_get? ib, Option.bind_some, hA.st b ib]
      by_cases c1 : 0 ≤ DW domH cur b
      · by_cases c2 : b = a
        · simp [c2, c1]
        · simp [c2, c1]
      · simp [c1]
    rw [hJ, Option.bind_some]
    by_cases cj : b ≠ a ∧ 0 ≤ DW domH cur b
    · rw [if_pos cj]
      exact ⟨_, rfl, cur, hprek, hgood, hA, cj.1, cj.2⟩
    rw [if_neg cj]
    have id1 : inL st h.domain := ⟨hin.2.1, by have : h.domain < (n.domains.length : Int) := hin.2.2; omega⟩
    have id2 : inL fi h.domain := ⟨hin.2.1, by have : h.domain < (n.domains.length : Int) := hin.2.2; omega⟩
    have id3 : inL ba h.domain := ⟨hin.2.1, by have : h.domain < (n.domains.length : Int) := hin.2.2; omega⟩
    have ix : inL st (endD domH (getI ws i)) := ⟨hri.1, by omega⟩
    have hw := wr64 (n := (k : Int) + 1) (by omega) (by omega)
    simp only
    rw [if_pos (linT id1), getI_get? id1, Option.bind_some, hA.st _ id1, hw]
    by_cases hm : h.domain ∈ cur.map (endD domH)
    · rw [if_neg (by have := hgood.DW_pos.2 hm; simp; exact this)]
      refine ⟨_, rfl, ⟨k + 1, by omega, by simp, ?_, ?_⟩, by simp only; omega⟩
      · rw [htake, addW, if_pos hm]; exact hA
      · rw [htake, addW, if_pos hm]
    · rw [if_pos (by rw [DW_no hm]; rfl), if_pos (linT ix), getI_get? ix, Option.bind_some, Option.bind_some, if_pos (linT id2), getI_get? id2, Option.bind_some, if_pos (linT id3), getI_get? id3, Option.bind_some,
        if_pos (roomy_few (by simp; omega)), hA.st _ ix]
      have hDx : DW domH cur (endD domH (getI ws i)) = ((getI ws i).length : Int) - 1 := by
        have := hgood.DW_at (pre_in hpre ii)
        rwa [hge] at this
      have hlx := g.lens ii
      have hil := hgood.len
      rw [hDx, wr64 (by omega) (by have := g.len; have := ii.2; omega)]
      have := hA.add hgood hlt (h := h) (by rw [hge, hhs]; exact hmem) hin.2 hm
      rw [hge] at this
      refine ⟨_, rfl, ⟨k + 1, by omega, by simp, ?_, ?_⟩, by simp only; omega⟩
      · rw [htake, addW, if_neg hm]; exact this
      · rw [htake, addW, if_neg hm]; simp [endD_app]
  · have hkl : k = hs.length := by omega
    subst hkl
    refine ⟨.inr (.inr (st, fi, ba, ((hs.take hs.length).foldl (addW domH (getI ws i)) ws).map (endD domH))), ?_, ?_, ?_⟩
    · simp only [reach_find_L2]
      rw [if_neg (by simp)]
    · rw [List.take_length] at hA; exact hA
    · rw [List.take_length]
theorem find_spec (hg : BndN n 200 100) (hr : RightP n) {a b : Int} (ha : inL n.domains a) (hb : inL n.domains b) :
    ∃ ws i st fi ba, reach_find n a b = some (st, fi, ba, n.domains.length) ∧ Good domH (hopsI n) n.domains.length (rootH a) ws i ∧ Arr n.domains.length a ws st fi ba ∧ ws <+: fullW n a ∧ (ws = fullW n a ∨ b ≠ a ∧ 0 ≤ DW domH ws b) := by
  have hdl := hg.domains
  have a0 := ha.1; have a1 := ha.2
  have hrun := good_run (dom := domH) (hops_in hr) (root := rootH a) ⟨a0, a1⟩
  have hmk1 : mkok 32 (n.domains.length : Int) (n.domains.length : Int) = true := by unfold mkok; simp; omega
  have hmk2 : mkok 8 (n.domains.length : Int) (n.domains.length : Int) = true := by unfold mkok; simp; omega
  have i1 : inL (List.replicate n.domains.length (-1 : Int)) a := ⟨a0, by simpa using a1⟩
  have i2 : inL (List.replicate n.domains.length (⟨0, 0, 0, 0⟩ : Reach_Hop)) a := ⟨a0, by simpa using a1⟩
  have gr : ∀ {β : Type} [Inhabited β] {x : β} {d : Int}, inL (List.replicate n.domains.length x) d → getI (List.replicate n.domains.length x) d = x := fun {β} _ {x} {d} hd => List.eq_of_mem_replicate (getI_mem hd)
  have hA0 : Arr n.domains.length a (runW domH (hopsI n) (rootH a) 0) (List.set (List.replicate n.domains.length (-1 : Int)) (Int.toNat a) 0) (List.set (List.replicate n.domains.length (⟨0, 0, 0, 0⟩ : Reach_Hop)) (Int.toNat a) (rootH a)) (List.replicate n.domains.length (0 : Int)) := by
    have g0 := hrun 0
    have e0 : inL (runW domH (hopsI n) (rootH a) 0) 0 := ⟨by omega, by simp [runW]⟩
    refine ⟨by simp, by simp, by simp, ?_, ?_, ?_⟩
    · intro d hd
      have hd := inL_setI.1 hd
      rw [getI_setI i1 hd, gr hd]
      have := g0.DW_at e0
      rw [g0.root, endD_one] at this
      by_cases e : d = a
      · rw [if_pos e, e]; simpa using this.symm
      · rw [if_neg e, DW_no]
        simp [runW, endD_one]; exact e
    · rw [getI_setI i2 i2, if_pos rfl]
    · intro j hj j0
      have := hj.2; simp [runW] at this; omega
  simp only [reach_find, Repeat_spec hdl, Option.bind_some, hmk1, hmk2, if_true, Int.toNat_natCast]
  rw [if_pos (linT i1), getI_get? i1, Option.bind_some, if_pos (linT i2), getI_get? i2, Option.bind_some]
  have hstep : ∀ k : Nat, k < (runW domH (hopsI n) (rootH a) k).length → k + 1 ≤ (runW domH (hopsI n) (rootH a) (k + 1)).length := fun k hk => by
    have := (runW_pre (dom := domH) (H := hopsI n) (root := rootH a) (k := k)).length_le; omega
  have key : ∃ r, loopM (fun s : (List Int) × (List Reach_Hop) × (List Int) × (List Int) × Int => match s with | (l16, l17, l18, l19, v20) => reach_find_L1 n a b n.domains.length l16 l17 l18 l19 v20) (List.set (List.replicate n.domains.length (-1 : Int)) (Int.toNat a) 0, List.set (List.replicate n.domains.length (⟨0, 0, 0, 0⟩ : Reach_Hop)) (Int.toNat a) (rootH a), List.replicate n.domains.length (0 : Int), [a], 0) = some r ∧
      ∃ ws i, Good domH (hopsI n) n.domains.length (rootH a) ws i ∧ Arr n.domains.length a ws r.1 r.2.1 r.2.2 ∧ ws <+: fullW n a ∧ (ws = fullW n a ∨ b ≠ a ∧ 0 ≤ DW domH ws b) := by
    refine loopM_rule (f := fun s : (List Int) × (List Reach_Hop) × (List Int) × (List Int) × Int => match s with | (l16, l17, l18, l19, v20) => reach_find_L1 n a b n.domains.length l16 l17 l18 l19 v20)
      (fun s => ∃ k : Nat, k ≤ (runW domH (hopsI n) (rootH a) k).length ∧ s.2.2.2.2 = (k : Int) ∧ Arr n.domains.length a (runW domH (hopsI n) (rootH a) k) s.1 s.2.1 s.2.2.1 ∧ s.2.2.2.1 = (runW domH (hopsI n) (rootH a) k).map (endD domH)) _ (fun s => n.domains.length - s.2.2.2.2.toNat) (fun s hI => ?_) ⟨0, by omega, rfl, hA0, by simp [runW, endD_one]⟩ (by simp only; omega)
    obtain ⟨st, fi, ba, q, v⟩ := s
    obtain ⟨k, hk, rfl, hA, rfl⟩ := hI
    simp only at hA hk ⊢
    have gk := hrun k
    rw [Int.min_eq_left (by omega)] at gk
    have hl := gk.len
    by_cases c : k < (runW domH (hopsI n) (rootH a) k).length
    · have iq : inL ((runW domH (hopsI n) (rootH a) k).map (endD domH)) (k : Int) := ⟨by omega, by simpa using c⟩
      have ik : inL (runW domH (hopsI n) (rootH a) k) (k : Int) := ⟨by omega, by omega⟩
      have gx : getI ((runW domH (hopsI n) (rootH a) k).map (endD domH)) (k : Int) = endD domH (getI (runW domH (hopsI n) (rootH a) k) (k : Int)) := by
        have := getI_get? ik
        rw [Int.toNat_natCast] at this
        exact getI_nat (by rw [List.getElem?_map, this]; rfl)
      have hrx := gk.rng k ik
      obtain ⟨r, er, hrr⟩ := find_in hg hr (n7 := n.domains.length) (v20 := (k : Int)) gk (by omega) hb hA
      have eW : runW domH (hopsI n) (rootH a) (k + 1) = (hopsI n (endD domH (getI (runW domH (hopsI n) (rootH a) k) (k : Int)))).foldl (addW domH (getI (runW domH (hopsI n) (rootH a) k) (k : Int))) (runW domH (hopsI n) (rootH a) k) := by rw [runW, if_pos c]
      rw [← eW] at hrr
      simp only [reach_find_L1]
      rw [if_pos (by simpa using c), if_pos (linT iq), getI_get? iq, Option.bind_some, gx, reach_Hops_spec hg hr ⟨hrx.1, hrx.2⟩, Option.bind_some]
      rw [er, Option.bind_some]
      rcases r with ⟨st', fi', ba'⟩ | ⟨st', fi', ba', q'⟩
      · obtain ⟨ws', p1, p2, p3, p4, p5⟩ := hrr
        exact ⟨_, rfl, ws', _, p2, p3, p1.trans (runW_pre2 (by omega)), .inr ⟨p4, p5⟩⟩
      · obtain ⟨p1, rfl⟩ := hrr
        refine ⟨_, rfl, ⟨k + 1, hstep k c, ?_, p1, rfl⟩, ?_⟩
        · simp only; rw [wr64 (by omega) (by omega)]; simp
        · simp only; rw [wr64 (by omega) (by omega)]; omega
    · have hkl : (runW domH (hopsI n) (rootH a) k).length ≤ k := by omega
      have he : fullW n a = runW domH (hopsI n) (rootH a) k := runW_end hkl _ (by omega)
      refine ⟨.inr (st, fi, ba), ?_, runW domH (hopsI n) (rootH a) k, _, gk, hA, ?_, .inl he.symm⟩
      · simp only [reach_find_L1]
        rw [if_neg (by simpa using hkl)]
      · rw [he]; exact List.prefix_refl _
  obtain ⟨⟨st, fi, ba⟩, e, ws, i, k1, k2, k3, k4⟩ := key
  refine ⟨ws, i, st, fi, ba, ?_, k1, k2, k3, k4⟩
  rw [e]; rfl
theorem reach_Steps_spec (hg : BndN n 200 100) (hr : RightP n) {a : Int} (ha : inL n.domains a) : reach_Steps n a = some (mkL n.domains.length (DW domH (fullW n a)), n.domains.length) := by
  have hs := hg.sm
  obtain ⟨ws, i, st, fi, ba, e, g, hA, hp, h⟩ := find_spec hg hr ha ha
  have hw : ws = fullW n a := h.resolve_right (fun h => h.1 rfl)
  subst hw
  simp only [reach_Steps, place_spec hs, Option.bind_some, decide_eq_true (show inL n.domains a ∧ RightP n from ⟨ha, hr⟩), Bool.not_true, Bool.false_eq_true, if_false, e]
  rw [eq_mkL hA.l1 hA.st]
end
end Go.Eng

set_option linter.unusedVariables false
set_option linter.unusedSectionVars false
set_option linter.unusedSimpArgs false
namespace Go.Eng
open Go Classical
attribute [local congr] ite_cg

section

end
end Go.Eng

set_option linter.unusedVariables false
set_option linter.unusedSectionVars false
set_option linter.unusedSimpArgs false
namespace Go.Eng
open Go Classical
attribute [local congr] ite_cg

section

end
end Go.Eng

set_option linter.unusedVariables false
set_option linter.unusedSectionVars false
set_option linter.unusedSimpArgs false
namespace Go.Eng
open Go

theorem wr32 {n : Int} (h1 : 0 ≤ n) (h2 : n < 4294967296) : wr_u32 n = n := by
  unfold wr_u32 IntKind.wrap
  simp [IntKind.signed, IntKind.bits]
  omega
theorem low_or (X k : Nat) : X ||| (2 ^ k - 1) = X - X % 2 ^ k + (2 ^ k - 1) := by
  have h : X - X % 2 ^ k = (X / 2 ^ k) * 2 ^ k := by have := Nat.div_add_mod X (2 ^ k); rw [Nat.mul_comm] at this; omega
  rw [h, Nat.mul_comm, Nat.two_pow_add_eq_or_of_lt (by have := Nat.two_pow_pos k; omega)]
  apply Nat.eq_of_testBit_eq
  intro i
  simp only [Nat.testBit_or, Nat.testBit_two_pow_sub_one, Nat.testBit_two_pow_mul, Nat.testBit_div_two_pow]
  by_cases hi : i < k
  · simp [hi]
  · have : k ≤ i := by omega
    simp [hi, this]
theorem low_and (X k n : Nat) (hX : X < 2 ^ n) (hk : k ≤ n) : X &&& (2 ^ n - 1 - (2 ^ k - 1)) = X - X % 2 ^ k := by
  have h : X - X % 2 ^ k = 2 ^ k * (X / 2 ^ k) := by have := Nat.div_add_mod X (2 ^ k); omega
  rw [h]
  apply Nat.eq_of_testBit_eq
  intro i
  have hlt : 2 ^ k - 1 < 2 ^ n := by have := Nat.pow_le_pow_right (by decide : 0 < 2) hk; have := Nat.two_pow_pos k; omega
  rw [Nat.testBit_and, show 2 ^ n - 1 - (2 ^ k - 1) = 2 ^ n - (2 ^ k - 1 + 1) from by omega, Nat.testBit_two_pow_sub_succ hlt, Nat.testBit_two_pow_mul, Nat.testBit_div_two_pow, Nat.testBit_two_pow_sub_one]
  by_cases hi : i < k
  · have : ¬ k ≤ i := by omega
    simp [hi, this]
  · have h2 : k ≤ i := by omega
    by_cases hn : i < n
    · simp [hi, h2, hn]
    · have : X.testBit i = false := Nat.testBit_lt_two_pow (Nat.lt_of_lt_of_le hX (Nat.pow_le_pow_right (by decide) (by omega)))
      simp [hi, h2, hn, this]

theorem ofInt_nat (n : Nat) (x : Int) (h1 : 0 ≤ x) : BitVec.ofInt n x = BitVec.ofNat n x.toNat := by
  have h : BitVec.ofInt n ((x.toNat : Nat) : Int) = BitVec.ofNat n x.toNat := BitVec.ofInt_natCast ..
  rwa [show ((x.toNat : Nat) : Int) = x from by omega] at h

theorem or_u32 {x : Int} {k : Nat} (h1 : 0 ≤ x) (h2 : x < 4294967296) (hk : k ≤ 32) : bits_or .u32 x (2 ^ k - 1 : Nat) = x - x % (2 ^ k : Nat) + ((2 ^ k : Nat) - 1) := by
  have hp := Nat.two_pow_pos k
  have hle : 2 ^ k ≤ 4294967296 := Nat.pow_le_pow_right (n := 2) (by decide) hk
  unfold bits_or
  rw [ofInt_nat _ _ h1, ofInt_nat _ _ (by omega), BitVec.toNat_or, BitVec.toNat_ofNat, BitVec.toNat_ofNat]
  simp only [IntKind.bits, Int.toNat_natCast]
  rw [Nat.mod_eq_of_lt (by omega), Nat.mod_eq_of_lt (by omega), low_or]
  have hm : x.toNat % 2 ^ k < 2 ^ k := Nat.mod_lt _ hp
  have hdm := Nat.div_add_mod x.toNat (2 ^ k)
  have hub : x.toNat - x.toNat % 2 ^ k + (2 ^ k - 1) < 4294967296 := by
    have : x.toNat ||| (2 ^ k - 1) < 2 ^ 32 := Nat.or_lt_two_pow (by omega) (by omega)
    rw [low_or] at this; omega
  have hmod : ((x.toNat % 2 ^ k : Nat) : Int) = x % (2 ^ k : Nat) := by rw [Int.natCast_emod]; congr 1; omega
  have hle2 : x.toNat % 2 ^ k ≤ x.toNat := Nat.mod_le _ _
  have := wr32 (n := ((x.toNat - x.toNat % 2 ^ k + (2 ^ k - 1) : Nat) : Int)) (by omega) (by omega)
  unfold wr_u32 at this
  rw [this, ← hmod]
  omega

theorem andNot_u32 {x : Int} {k : Nat} (h1 : 0 ≤ x) (h2 : x < 4294967296) (hk : k ≤ 32) : bits_andNot .u32 x (2 ^ k - 1 : Nat) = x - x % (2 ^ k : Nat) := by
  have hp := Nat.two_pow_pos k
  have hle : 2 ^ k ≤ 4294967296 := Nat.pow_le_pow_right (n := 2) (by decide) hk
  unfold bits_andNot
  rw [ofInt_nat _ _ h1, ofInt_nat _ _ (by omega), BitVec.toNat_and, BitVec.toNat_not, BitVec.toNat_ofNat, BitVec.toNat_ofNat]
  simp only [IntKind.bits, Int.toNat_natCast]
  rw [Nat.mod_eq_of_lt (by omega), Nat.mod_eq_of_lt (by omega), low_and _ k 32 (by omega) hk]
  have hm : x.toNat % 2 ^ k < 2 ^ k := Nat.mod_lt _ hp
  have hmod : ((x.toNat % 2 ^ k : Nat) : Int) = x % (2 ^ k : Nat) := by rw [Int.natCast_emod]; congr 1; omega
  have hle2 : x.toNat % 2 ^ k ≤ x.toNat := Nat.mod_le _ _
  have := wr32 (n := ((x.toNat - x.toNat % 2 ^ k : Nat) : Int)) (by omega) (by omega)
  unfold wr_u32 at this
  rw [this, ← hmod]
  omega

theorem xor_zero {a b : Nat} (h : a ^^^ b = 0) : a = b := by
  apply Nat.eq_of_testBit_eq; intro i
  have := congrArg (fun q => q.testBit i) h
  simp only [Nat.testBit_xor, Nat.zero_testBit] at this
  simpa using this
theorem xor_low {x y k : Nat} : (x ^^^ y) - (x ^^^ y) % 2 ^ k = 0 ↔ x / 2 ^ k = y / 2 ^ k := by
  have h : (x ^^^ y) - (x ^^^ y) % 2 ^ k = 2 ^ k * ((x ^^^ y) / 2 ^ k) := by have := Nat.div_add_mod (x ^^^ y) (2 ^ k); omega
  rw [h]
  have hp := Nat.two_pow_pos k
  have h2 : (x ^^^ y) / 2 ^ k = (x / 2 ^ k) ^^^ (y / 2 ^ k) := by
    apply Nat.eq_of_testBit_eq; intro i
    simp [Nat.testBit_div_two_pow]
  rw [h2]
  constructor
  · intro h3
    have : (x / 2 ^ k) ^^^ (y / 2 ^ k) = 0 := by
      rcases Nat.mul_eq_zero.1 h3 with h4 | h4
      · omega
      · exact h4
    exact xor_zero this
  · intro h3; rw [h3]; simp
theorem xorNot_u32 {x y : Int} {k : Nat} (h1 : 0 ≤ x) (h2 : x < 4294967296) (h3 : 0 ≤ y) (h4 : y < 4294967296) (hk : k ≤ 32) :
    bits_andNot .u32 (bits_xor .u32 x y) (2 ^ k - 1 : Nat) = 0 ↔ x / (2 ^ k : Nat) = y / (2 ^ k : Nat) := by
  have e : bits_xor .u32 x y = ((x.toNat ^^^ y.toNat : Nat) : Int) := by
    unfold bits_xor
    rw [ofInt_nat _ _ h1, ofInt_nat _ _ h3, BitVec.toNat_xor, BitVec.toNat_ofNat, BitVec.toNat_ofNat]
    simp only [IntKind.bits]
    rw [Nat.mod_eq_of_lt (by omega), Nat.mod_eq_of_lt (by omega)]
    have : x.toNat ^^^ y.toNat < 2 ^ 32 := Nat.xor_lt_two_pow (by omega) (by omega)
    exact wr32 (by omega) (by omega)
  have hlt : x.toNat ^^^ y.toNat < 2 ^ 32 := Nat.xor_lt_two_pow (by omega) (by omega)
  rw [e, andNot_u32 (by omega) (by omega) hk]
  have h5 := @xor_low x.toNat y.toNat k
  have h6 : (((x.toNat ^^^ y.toNat) % 2 ^ k : Nat) : Int) = ((x.toNat ^^^ y.toNat : Nat) : Int) % (2 ^ k : Nat) := Int.natCast_emod _ _
  have h7 : ((x.toNat / 2 ^ k : Nat) : Int) = x / (2 ^ k : Nat) := by rw [Int.natCast_ediv]; congr 1; omega
  have h8 : ((y.toNat / 2 ^ k : Nat) : Int) = y / (2 ^ k : Nat) := by rw [Int.natCast_ediv]; congr 1; omega
  rw [← h6, ← h7, ← h8]
  have h9 : (x.toNat ^^^ y.toNat) % 2 ^ k ≤ (x.toNat ^^^ y.toNat) := Nat.mod_le _ _
  constructor
  · intro h; have := h5.1 (by omega); omega
  · intro h; have := h5.2 (by omega); omega
end Go.Eng
