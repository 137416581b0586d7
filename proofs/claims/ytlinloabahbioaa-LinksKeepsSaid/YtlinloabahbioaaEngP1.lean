/- Plain laws of the printed mirrors' words: indices, loops over lists. -/
import Derived.Test.YtlinloabahbioaaEng14
set_option linter.unusedVariables false
set_option linter.unusedSectionVars false
namespace Go.Eng
open Go Classical

theorem nth_nat {α : Type} {l : List α} {i : Nat} : nth l (i : Int) = l[i]? := by simp [nth]
theorem nth_zero {α : Type} {l : List α} : nth l 0 = l[0]? := by simp [nth]
theorem nth_some {α : Type} {l : List α} {i : Int} (h : 0 ≤ i) (h2 : i < l.length) : ∃ x, l[i.toNat]? = some x ∧ nth l i = some x := by
  have : i.toNat < l.length := by omega
  exact ⟨l[i.toNat], List.getElem?_eq_getElem this, by simp [nth, h, this]⟩
theorem nth_toNat {α : Type} {l : List α} {i : Int} (h : 0 ≤ i) : nth l i = l[i.toNat]? := by simp [nth, h]

theorem wr64 {n : Int} (h1 : -9223372036854775808 ≤ n) (h2 : n < 9223372036854775808) : wr_i64 n = n := by
  unfold wr_i64 IntKind.wrap
  simp [IntKind.signed, IntKind.bits]
  omega

theorem loopM_trace {σ ρ : Type} {f : σ → Option (σ ⊕ ρ)} (st : Nat → σ) (n : Nat) {r : ρ} (hb : n < 18446744073709551616) (h : ∀ i, i < n → f (st i) = some (.inl (st (i + 1)))) (hn : f (st n) = some (.inr r)) :
    loopM f (st 0) = some r := by
  have key : ∀ (k m i : Nat), i + k = n → k < m → iter f m (st i) = some r := by
    intro k
    induction k with
    | zero =>
      intro m i hi hm
      obtain ⟨m, rfl⟩ : ∃ q, m = q + 1 := ⟨m - 1, by omega⟩
      have : i = n := by omega
      subst this
      rw [iter_succ, hn]
    | succ k ih =>
      intro m i hi hm
      obtain ⟨m, rfl⟩ : ∃ q, m = q + 1 := ⟨m - 1, by omega⟩
      rw [iter_succ, h i (by omega)]
      exact ih m (i + 1) (by omega) (by omega)
  exact key n _ 0 (by omega) hb

/-- A loop that goes on while a state is, by a measure. -/
theorem loopM_rule {σ ρ : Type} {f : σ → Option (σ ⊕ ρ)} (I : σ → Prop) (Q : ρ → Prop) (μ : σ → Nat)
    (h : ∀ s, I s → ∃ q, f s = some q ∧ match q with | .inl s' => I s' ∧ μ s' < μ s | .inr r => Q r) {s : σ} (hs : I s) (hb : μ s < 18446744073709551615) : ∃ r, loopM f s = some r ∧ Q r := by
  have key : ∀ (m : Nat) s, I s → μ s < m → ∃ r, iter f m s = some r ∧ Q r := by
    intro m
    induction m with
    | zero => intro s _ h; omega
    | succ m ih =>
      intro s hs hm
      obtain ⟨q, hq, hr⟩ := h s hs
      cases q with
      | inl s' =>
        obtain ⟨r, h1, h2⟩ := ih s' hr.1 (by have := hr.2; omega)
        exact ⟨r, by rw [iter_succ, hq]; exact h1, h2⟩
      | inr r => exact ⟨r, by rw [iter_succ, hq], hr⟩
  exact key _ s hs (by omega)

/-- An index runs through a list; the first place where it stops, or the end. -/
theorem loop_ix {α ρ : Type} {f : Int → Option (Int ⊕ ρ)} (l : List α) (step : Nat → α → Option ρ) (last : ρ) (hb : l.length < 9223372036854775807)
    (h1 : ∀ (i : Nat) x, l[i]? = some x → i < l.length → f i = some (match step i x with | none => .inl ((i : Int) + 1) | some r => .inr r)) (h2 : f l.length = some (.inr last)) :
    loopM f 0 = some ((l.zipIdx.findSome? fun q => step q.2 q.1).getD last) := by
  have key : ∀ (r : List α) (k : Nat), l.drop k = r → k ≤ l.length → ∃ n, n ≤ l.length - k ∧ (∀ i, i < n → f ((k + i : Nat) : Int) = some (.inl ((k + (i + 1) : Nat) : Int))) ∧ f ((k + n : Nat) : Int) = some (.inr (((r.zipIdx k).findSome? fun q => step q.2 q.1).getD last)) := by
    intro r
    induction r with
    | nil =>
      intro k hk hle
      have : k = l.length := by
        have := congrArg List.length hk
        simp at this; omega
      subst this
      exact ⟨0, by omega, fun i hi => by omega, by simpa using h2⟩
    | cons x r ih =>
      intro k hk hle
      have hx : l[k]? = some x := by
        have := congrArg (fun q => q[0]?) hk
        simpa using this
      have hlt : k < l.length := (List.getElem?_eq_some_iff.1 hx).1
      have hs := h1 k x hx hlt
      cases hst : step k x with
      | some q =>
        rw [hst] at hs
        exact ⟨0, by omega, fun i hi => by omega, by simpa [List.zipIdx_cons, hst] using hs⟩
      | none =>
        rw [hst] at hs
        obtain ⟨n, hn, ha, hb⟩ := ih (k + 1) (by rw [← List.drop_drop, hk]; rfl) (by omega)
        refine ⟨n + 1, by omega, fun i hi => ?_, ?_⟩
        · cases i with
          | zero => simpa using hs
          | succ i =>
            have := ha i (by omega)
            rw [show k + (i + 1) = k + 1 + i from by omega, show k + (i + 1 + 1) = k + 1 + (i + 1) from by omega]; exact this
        · rw [show k + (n + 1) = k + 1 + n from by omega, hb]
          simp [List.zipIdx_cons, hst]
  obtain ⟨n, hn, ha, hb'⟩ := key l 0 rfl (by omega)
  simp only [Nat.zero_add] at ha hb'
  exact loopM_trace (fun i => (i : Int)) n (by omega) ha hb'

/-- An index runs through a list as long as all is well. -/
theorem loop_all {α ρ : Type} {f : Int → Option (Int ⊕ ρ)} (l : List α) (P : Nat → α → Prop) {a b : ρ} (hb : l.length < 9223372036854775807)
    (h1 : ∀ (i : Nat) x, l[i]? = some x → i < l.length → f i = some (if P i x then .inl ((i : Int) + 1) else .inr a)) (h2 : f l.length = some (.inr b)) :
    loopM f 0 = some (if ∀ (i : Nat) x, l[i]? = some x → P i x then b else a) := by
  rw [loop_ix l (fun i x => if P i x then none else some a) b hb (fun i x hx hi => by rw [h1 i x hx hi]; split <;> rfl) h2]
  congr 1
  cases hf : l.zipIdx.findSome? (fun q => if P q.2 q.1 then none else some a) with
  | none =>
    rw [List.findSome?_eq_none_iff] at hf
    rw [if_pos]; · rfl
    intro i x hx
    have := hf (x, i) (by rw [List.mem_zipIdx_iff_getElem?]; simpa using hx)
    apply Classical.byContradiction
    intro hn
    simp [hn] at this
  | some r =>
    obtain ⟨q, hq, hr⟩ := List.exists_of_findSome?_eq_some hf
    rw [List.mem_zipIdx_iff_getElem?] at hq
    rw [if_neg]
    · split at hr
      · cases hr
      · simp only [Option.some.injEq] at hr; subst hr; rfl
    · intro hall
      have := hall q.2 q.1 (by simpa using hq)
      simp [this] at hr

abbrev Few {α : Type} (l : List α) : Prop := l.length ≤ 1000000
theorem few_of {α : Type} {l : List α} {k : Nat} (h : l.length ≤ k) (hk : k ≤ 1000000 := by decide) : Few l := by unfold Few; omega
theorem few_nil {α : Type} : Few ([] : List α) := by simp [Few]

/-- A number is a place of a list. -/
def inL {α : Type} (l : List α) (i : Int) : Prop := 0 ≤ i ∧ i < l.length
theorem inL_iff {α : Type} {l : List α} {i : Int} : inL l i ↔ 0 ≤ i ∧ i < l.length := Iff.rfl
/-- What stands at a place. -/
noncomputable def getI {α : Type} [Inhabited α] (l : List α) (i : Int) : α := (l[i.toNat]?).getD default
section
variable {α : Type} [Inhabited α] {l : List α} {i : Int}
theorem nth_getI (h : inL l i) : nth l i = some (getI l i) := by
  have h1 := h.1; have h2 := h.2
  have : i.toNat < l.length := by omega
  simp [nth, getI, h1, this]
theorem nth_get2 (h1 : 0 ≤ i) (h2 : i < l.length) : nth l i = some (getI l i) := nth_getI ⟨h1, h2⟩
theorem getI_nat {n : Nat} {x : α} (h : l[n]? = some x) : getI l n = x := by simp [getI, h]
theorem inL_nat {n : Nat} {x : α} (h : l[n]? = some x) : inL l n := ⟨by omega, by have := (List.getElem?_eq_some_iff.1 h).1; omega⟩
theorem getI_get? (h : inL l i) : l[i.toNat]? = some (getI l i) := (nth_out (nth_getI h)).2
theorem getI_mem (h : inL l i) : getI l i ∈ l := List.mem_of_getElem? (getI_get? h)
theorem mem_getI {x : α} (h : x ∈ l) : ∃ i, inL l i ∧ getI l i = x := by
  obtain ⟨i, hi⟩ := List.getElem?_of_mem h
  exact ⟨i, inL_nat hi, getI_nat hi⟩
end
theorem nth_some_inL {α : Type} {l : List α} {i : Int} {x : α} (h : nth l i = some x) : inL l i := by
  have h := nth_out h
  exact ⟨h.1, by have := (List.getElem?_eq_some_iff.1 h.2).1; have := h.1; omega⟩
theorem nth_not_inL {α : Type} {l : List α} {i : Int} (h : ¬ inL l i) : nth l i = none := by
  cases hx : nth l i with
  | none => rfl
  | some x => exact absurd (nth_some_inL hx) h

/-- Every one, with its place. -/
def EachP {α : Type} [Inhabited α] (l : List α) (P : Int → α → Prop) : Prop := ∀ i, inL l i → P i (getI l i)
theorem eachP_nat {α : Type} [Inhabited α] {l : List α} {P : Int → α → Prop} : EachP l P ↔ ∀ (i : Nat) x, l[i]? = some x → P i x := by
  constructor
  · intro h i x hx
    have := h i (inL_nat hx)
    rwa [getI_nat hx] at this
  · intro h i hi
    have h1 := hi.1
    have := h i.toNat _ (getI_get? hi)
    rwa [show ((i.toNat : Nat) : Int) = i from by omega] at this
theorem loop_each {α ρ : Type} [Inhabited α] {f : Int → Option (Int ⊕ ρ)} (l : List α) (P : Int → α → Prop) (a b : ρ) (hb : Few l)
    (h1 : ∀ i : Int, 0 ≤ i → i < l.length → inL l i → f i = some (if P i (getI l i) then .inl (i + 1) else .inr a)) (h2 : f l.length = some (.inr b)) :
    loopM f 0 = if EachP l P then some b else some a := by
  rw [loop_all l (fun i x => P i x) (by unfold Few at hb; omega) (fun i x hx hi => by rw [h1 i (by omega) (by omega) (inL_nat hx), getI_nat hx]) h2]
  simp only [eachP_nat]
  split <;> rfl
theorem loop_pass {α ρ : Type} [Inhabited α] {f : Int → Option (Int ⊕ ρ)} (l : List α) (b : ρ) (hb : Few l)
    (h1 : ∀ i : Int, 0 ≤ i → i < l.length → inL l i → f i = some (.inl (i + 1))) (h2 : f l.length = some (.inr b)) : loopM f 0 = some b := by
  rw [loop_each l (fun _ _ => True) b b hb (fun i a c d => by rw [h1 i a c d]; simp) h2]; simp
theorem eachP_mem {α : Type} [Inhabited α] {l : List α} {P : α → Prop} : EachP l (fun _ x => P x) ↔ ∀ x ∈ l, P x := by
  rw [eachP_nat]
  constructor
  · intro h v hv
    obtain ⟨i, hi⟩ := List.getElem?_of_mem hv
    exact h i v hi
  · intro h i x hx
    exact h x (List.mem_of_getElem? hx)

/-! ### What is decided -/
section
variable {β γ : Type} {c p q : Prop}
theorem bind_ite [Decidable c] {x y : Option β} {k : β → Option γ} : (if c then x else y).bind k = if c then x.bind k else y.bind k := by split <;> rfl
theorem dif1 [Decidable c] [Decidable p] : (if c then some (decide p) else some false) = some (decide (c ∧ p)) := by by_cases c <;> simp [*]
theorem dif2 [Decidable c] [Decidable p] : (if c then some true else some (decide p)) = some (decide (c ∨ p)) := by by_cases c <;> simp [*]
theorem dif3 [Decidable c] [Decidable p] : (if c then some false else some (decide p)) = some (decide (¬ c ∧ p)) := by by_cases c <;> simp [*]
theorem dif4 [Decidable c] [Decidable p] : (if c then some (decide p) else some true) = some (decide (c → p)) := by by_cases c <;> simp [*]
theorem dif5 [Decidable c] [Decidable p] [Decidable q] : (if c then some (decide p) else some (decide q)) = some (decide ((c → p) ∧ (¬ c → q))) := by by_cases c <;> simp [*]
theorem dif6 [Decidable c] : (if c then some true else some false) = some (decide c) := by by_cases c <;> simp [*]
theorem dif7 [Decidable c] : (if c then some false else some true) = some (decide ¬ c) := by by_cases c <;> simp [*]
theorem dnot [Decidable p] : (!decide p) = decide (¬ p) := by simp
theorem ibeq {x y : Int} : (x == y) = decide (x = y) := by rw [Bool.eq_iff_iff]; simp
theorem ibne {x y : Int} : (x != y) = decide (x ≠ y) := by rw [Bool.eq_iff_iff]; simp
theorem sdec {_ : Decidable p} {_ : Decidable q} (h : p ↔ q) : some (decide p) = some (decide q) := by simp [h]
theorem sboth {_ : Decidable p} {_ : Decidable q} {x y : β} (h : p ↔ q) : (if p then x else y) = (if q then x else y) := by simp [h]
theorem sif {_ : Decidable p} {_ : Decidable q} {x y : β} (h : p ↔ q) : some (if p then x else y) = some (if q then x else y) := by simp [h]
theorem if_not2 [Decidable p] [Decidable (¬ p)] {x y : β} : (if ¬ p then x else y) = if p then y else x := by by_cases p <;> simp [*]
theorem mrg1 [Decidable c] [Decidable p] {x y : β} : (if c then (if p then x else y) else y) = if c ∧ p then x else y := by by_cases c <;> simp [*]
theorem mrg2 [Decidable c] [Decidable p] {x y : β} : (if c then y else (if p then x else y)) = if ¬ c ∧ p then x else y := by by_cases c <;> simp [*]
theorem mrg3 [Decidable c] [Decidable p] {x y : β} : (if c then x else (if p then x else y)) = if c ∨ p then x else y := by by_cases c <;> simp [*]
theorem mrg4 [Decidable c] [Decidable p] {x y : β} : (if c then (if p then x else y) else x) = if c → p then x else y := by by_cases c <;> simp [*]
theorem mrg5 [Decidable c] {x : β} : (if c then x else x) = x := by simp
theorem mrg6 [Decidable c] [Decidable p] [Decidable q] {x y : β} : (if c then (if p then x else y) else (if q then x else y)) = if (c → p) ∧ (¬ c → q) then x else y := by by_cases c <;> simp [*]
theorem mrg7 [Decidable c] [Decidable p] [Decidable q] {x y : β} : (if c then (if p then x else y) else (if q then y else x)) = if (c → p) ∧ (¬ c → ¬ q) then x else y := by by_cases c <;> by_cases q <;> simp [*]
theorem fpos {_ : Decidable p} {_ : Decidable q} {x y : β} (h : q ↔ p) : (if q then some x else some y) = some (if p then x else y) := by by_cases p <;> simp [*]
theorem fneg {_ : Decidable p} {_ : Decidable q} {x y : β} (h : q ↔ ¬ p) : (if q then some y else some x) = some (if p then x else y) := by by_cases p <;> simp [*]
theorem out1 [Decidable c] {x y : Option β} {u v : β} (hx : x = some u) (hy : y = some v) : (if c then x else y) = some (if c then u else v) := by split <;> assumption
theorem ite_cg {α : Type} {l : List α} {i : Int} [Decidable (inL l i)] {x y u v : β} (h2 : inL l i → x = u) (h3 : ¬ inL l i → y = v) : (if inL l i then x else y) = (if inL l i then u else v) := ite_congr rfl h2 h3
end
/-- A place, or -1. -/
def ixI : Option Nat → Int | some i => i | none => -1
theorem ixI_neg {o : Option Nat} : ixI o < 0 ↔ o = none := by cases o <;> simp [ixI] <;> omega
theorem ixI_ge {o : Option Nat} : ixI o ≥ 0 ↔ o ≠ none := by cases o <;> simp [ixI]
theorem ixI_nat {o : Option Nat} {i : Nat} : ixI o = i ↔ o = some i := by cases o <;> simp [ixI] <;> omega

/-- The first place where something is. -/
theorem loop_findI {α : Type} [Inhabited α] {f : Int → Option (Int ⊕ (Int ⊕ Unit))} (l : List α) (p : α → Bool) (hb : Few l)
    (h1 : ∀ i : Int, 0 ≤ i → i < l.length → inL l i → f i = some (if p (getI l i) = true then .inr (.inl i) else .inl (i + 1))) (h2 : f l.length = some (.inr (.inr ()))) :
    loopM f 0 = match l.findIdx? p with | some i => some (.inl (i : Int)) | none => some (.inr ()) := by
  have h := loop_ix l (fun i x => if p x = true then some (.inl (i : Int)) else none) (.inr ()) (f := f) (by unfold Few at hb; omega) (fun i x hx hi => by rw [h1 i (by omega) (by omega) (inL_nat hx), getI_nat hx]; split <;> rfl) h2
  rw [h]
  have key : ∀ (l : List α) (k : Nat), ((l.zipIdx k).findSome? (fun q => if p q.1 = true then some (Sum.inl (q.2 : Int)) else none)).getD (Sum.inr ()) = (match l.findIdx? p with | some i => Sum.inl ((k + i : Nat) : Int) | none => Sum.inr () : Int ⊕ Unit) := by
    intro l
    induction l with
    | nil => intro k; rfl
    | cons x l ih =>
      intro k
      rw [List.zipIdx_cons, List.findSome?_cons, List.findIdx?_cons]
      by_cases hp : p x = true
      · simp [hp]
      · simp only [hp]
        have := ih (k + 1)
        simp only [Bool.false_eq_true, if_false] at this ⊢
        rw [this]
        cases List.findIdx? p l with
        | none => rfl
        | some i => simp; omega
  rw [key l 0]
  cases l.findIdx? p <;> simp
/-- The first place where something is, in a list of numbered ones. -/
theorem loop_find {α : Type} {f : Int → Option (Int ⊕ (Int ⊕ Unit))} (l : List α) (p : α → Bool) (hb : l.length < 9223372036854775807)
    (h1 : ∀ (i : Nat) x, l[i]? = some x → i < l.length → f i = some (if p x = true then .inr (.inl i) else .inl ((i : Int) + 1))) (h2 : f l.length = some (.inr (.inr ()))) :
    loopM f 0 = some (match l.findIdx? p with | some i => .inl (i : Int) | none => .inr ()) := by
  rw [loop_ix l (fun i x => if p x = true then some (.inl (i : Int)) else none) (.inr ()) hb (fun i x hx hi => by rw [h1 i x hx hi]; split <;> rfl) h2]
  congr 1
  have key : ∀ (l : List α) (k : Nat), ((l.zipIdx k).findSome? (fun q => if p q.1 = true then some (Sum.inl (q.2 : Int)) else none)).getD (Sum.inr ()) = (match l.findIdx? p with | some i => Sum.inl ((k + i : Nat) : Int) | none => Sum.inr () : Int ⊕ Unit) := by
    intro l
    induction l with
    | nil => intro k; rfl
    | cons x l ih =>
      intro k
      rw [List.zipIdx_cons, List.findSome?_cons, List.findIdx?_cons]
      by_cases hp : p x = true
      · simp [hp]
      · simp only [hp]
        have := ih (k + 1)
        simp only [Bool.false_eq_true, if_false] at this ⊢
        rw [this]
        cases List.findIdx? p l with
        | none => rfl
        | some i => simp; omega
  have := key l 0
  simpa using this

/-- An index runs through a list, and something is gathered. -/
theorem loop_fold {α σ τ ρ : Type} {f : τ → Option (τ ⊕ ρ)} (l : List α) (st : σ → Int → τ) (g : Nat → α → σ → σ) (s0 : σ) {out : σ → ρ} (hb : l.length < 9223372036854775807) (I : Nat → σ → Prop) (h0 : I 0 s0)
    (h1 : ∀ (i : Nat) x s, l[i]? = some x → i < l.length → I i s → f (st s i) = some (.inl (st (g i x s) ((i : Int) + 1))) ∧ I (i + 1) (g i x s)) (h2 : ∀ s, I l.length s → f (st s l.length) = some (.inr (out s))) :
    loopM f (st s0 0) = some (out (l.zipIdx.foldl (fun s q => g q.2 q.1 s) s0)) := by
  let S : Nat → σ := fun i => (l.zipIdx.take i).foldl (fun s q => g q.2 q.1 s) s0
  have hS : ∀ i x, l[i]? = some x → S (i + 1) = g i x (S i) := by
    intro i x hx
    have hz : l.zipIdx[i]? = some (x, i) := by simp [hx]
    simp only [S]
    rw [List.take_add_one, hz]
    simp
  have hI : ∀ i, i ≤ l.length → I i (S i) := by
    intro i
    induction i with
    | zero => intro _; exact h0
    | succ i ih =>
      intro hi
      have hx : l[i]? = some l[i] := List.getElem?_eq_getElem (by omega)
      rw [hS i _ hx]
      exact (h1 i _ _ hx (by omega) (ih (by omega))).2
  have hend : S l.length = l.zipIdx.foldl (fun s q => g q.2 q.1 s) s0 := by
    simp only [S]
    rw [List.take_of_length_le (by simp)]
  have := loopM_trace (f := f) (fun i => st (S i) i) l.length (r := out (S l.length)) (by omega) (fun i hi => by
    have hx : l[i]? = some l[i] := List.getElem?_eq_getElem hi
    have := (h1 i _ (S i) hx hi (hI i (by omega))).1
    rw [← hS i _ hx] at this
    rw [this]; simp) (h2 _ (hI _ (Nat.le_refl _)))
  rw [hend] at this
  exact this

/-- The first place where something is so; -1. -/
noncomputable def fstI {α : Type} (l : List α) (P : α → Prop) : Int := ixI (l.findIdx? fun x => decide (P x))
section
variable {α : Type} [Inhabited α] {l : List α} {P : α → Prop}
theorem fstI_cases : (fstI l P = -1 ∧ ∀ i, inL l i → ¬ P (getI l i)) ∨ (inL l (fstI l P) ∧ P (getI l (fstI l P)) ∧ ∀ j, inL l j → j < fstI l P → ¬ P (getI l j)) := by
  unfold fstI
  cases h : l.findIdx? fun x => decide (P x) with
  | none =>
    rw [List.findIdx?_eq_none_iff] at h
    refine .inl ⟨rfl, fun i hi => ?_⟩
    have := h _ (getI_mem hi)
    simpa using this
  | some n =>
    rw [List.findIdx?_eq_some_iff_getElem] at h
    obtain ⟨hn, h1, h2⟩ := h
    refine .inr ⟨⟨by simp [ixI], by simpa [ixI] using hn⟩, ?_, fun j hj hlt => ?_⟩
    · simp only [ixI]; rw [getI_nat (List.getElem?_eq_getElem hn)]; simpa using h1
    · simp only [ixI] at hlt
      have hj0 := hj.1
      have := h2 j.toNat (by omega)
      rw [show getI l j = l[j.toNat]'(by omega) from by
        have := getI_get? hj
        exact ((List.getElem?_eq_some_iff.1 this).2).symm]
      simpa using this
theorem fstI_ge : -1 ≤ fstI l P := by unfold fstI ixI; split <;> omega
theorem fstI_inL : 0 ≤ fstI l P ↔ inL l (fstI l P) := by
  rcases fstI_cases (l := l) (P := P) with h | h
  · rw [h.1]; simp [inL]
  · exact ⟨fun _ => h.1, fun h => h.1⟩
theorem fstI_is (h : 0 ≤ fstI l P) : P (getI l (fstI l P)) := by
  rcases fstI_cases (l := l) (P := P) with h1 | h1
  · omega
  · exact h1.2.1
theorem fstI_first {j : Int} (hj : inL l j) (hp : P (getI l j)) : 0 ≤ fstI l P ∧ fstI l P ≤ j := by
  rcases fstI_cases (l := l) (P := P) with h1 | h1
  · exact absurd hp (h1.2 j hj)
  · refine ⟨h1.1.1, ?_⟩
    apply Classical.byContradiction
    intro hn
    exact h1.2.2 j hj (by omega) hp
theorem fstI_none : fstI l P < 0 ↔ ∀ i, inL l i → ¬ P (getI l i) := by
  constructor
  · intro h i hi hp
    have := fstI_first hi hp; omega
  · intro h
    rcases fstI_cases (l := l) (P := P) with h1 | h1
    · omega
    · exact absurd h1.2.1 (h _ h1.1)
theorem fstI_none_mem : fstI l P < 0 ↔ ∀ x ∈ l, ¬ P x := by
  rw [fstI_none]
  constructor
  · intro h x hx
    obtain ⟨i, hi, rfl⟩ := mem_getI hx
    exact h i hi
  · exact fun h i hi => h _ (getI_mem hi)
theorem fstI_eq {i : Int} (hi : inL l i) : fstI l P = i ↔ P (getI l i) ∧ ∀ j, inL l j → j < i → ¬ P (getI l j) := by
  constructor
  · intro h
    subst h
    exact ⟨fstI_is hi.1, fun j hj hlt hp => by have := fstI_first hj hp; omega⟩
  · rintro ⟨h1, h2⟩
    have h3 := fstI_first hi h1
    have h4 := fstI_inL.1 h3.1
    have h5 := fstI_is h3.1
    by_cases h : fstI l P < i
    · exact absurd h5 (h2 _ h4 h)
    · omega
theorem loop_first {f : Int → Option (Int ⊕ (Int ⊕ Unit))} (l : List α) (P : α → Prop) (hb : Few l)
    (h1 : ∀ i : Int, 0 ≤ i → i < l.length → inL l i → f i = some (if P (getI l i) then .inr (.inl i) else .inl (i + 1))) (h2 : f l.length = some (.inr (.inr ()))) :
    loopM f 0 = if 0 ≤ fstI l P then some (.inl (fstI l P)) else some (.inr ()) := by
  rw [loop_findI l (fun x => decide (P x)) hb (fun i a b c => by rw [h1 i a b c]; by_cases h : P (getI l i) <;> simp [h]) h2]
  unfold fstI
  cases l.findIdx? fun x => decide (P x) <;> simp [ixI]
/-- The first one that is so, and what it gives. -/
theorem loop_firstv {ρ : Type} {f : Int → Option (Int ⊕ (ρ ⊕ Unit))} (l : List α) (P : α → Prop) (g : Int → α → ρ) (hb : Few l)
    (h1 : ∀ i : Int, 0 ≤ i → i < l.length → inL l i → f i = some (if P (getI l i) then .inr (.inl (g i (getI l i))) else .inl (i + 1))) (h2 : f l.length = some (.inr (.inr ()))) :
    loopM f 0 = if 0 ≤ fstI l P then some (.inl (g (fstI l P) (getI l (fstI l P)))) else some (.inr ()) := by
  have h := loop_ix l (fun i x => if P x then some (.inl (g i x)) else none) (.inr ()) (f := f) (by unfold Few at hb; omega) (fun i x hx hi => by rw [h1 i (by omega) (by omega) (inL_nat hx), getI_nat hx]; split <;> rfl) h2
  rw [h]
  have key : ∀ (r : List α) (k : Nat), ((r.zipIdx k).findSome? (fun q => if P q.1 then some (Sum.inl (g (q.2 : Int) q.1)) else none)).getD (Sum.inr ()) = (match r.findIdx? fun x => decide (P x) with | some i => Sum.inl (g ((k + i : Nat) : Int) ((r[i]?).getD default)) | none => Sum.inr () : ρ ⊕ Unit) := by
    intro r
    induction r with
    | nil => intro k; rfl
    | cons x r ih =>
      intro k
      rw [List.zipIdx_cons, List.findSome?_cons, List.findIdx?_cons]
      by_cases hp : P x
      · simp [hp]
      · have := ih (k + 1)
        simp only [hp, if_false, decide_false, Bool.false_eq_true] at this ⊢
        rw [this]
        cases hq : List.findIdx? (fun x => decide (P x)) r with
        | none => rfl
        | some i => simp; congr 1; omega
  have h3 := key l 0
  unfold fstI
  cases hq : l.findIdx? fun x => decide (P x) with
  | none => rw [hq] at h3; simp [ixI]; exact h3
  | some i =>
    rw [hq] at h3
    simp [ixI]
    simpa [getI] using h3
theorem fst_ret : (if 0 ≤ fstI l P then some (fstI l P) else some (-1)) = some (fstI l P) := by
  split
  · rfl
  · have := fstI_ge (l := l) (P := P)
    congr 1; omega
end

theorem roomy_few {α : Type} {l : List α} {b : Nat} (h : l.length ≤ 1000100) (hb : b ≤ 100000000 := by decide) : roomy b l = true := by
  unfold roomy
  have := Nat.mul_le_mul h hb
  exact decide_eq_true ⟨by omega, by omega⟩

/-- What is gathered of a list. -/
noncomputable def gatherI {α β : Type} (l : List α) (P : Int → α → Prop) (e : Int → α → β) : List β := l.zipIdx.filterMap fun q => if P q.2 q.1 then some (e q.2 q.1) else none
section
variable {α β : Type} [Inhabited α] {l : List α} {P : Int → α → Prop} {e : Int → α → β}
theorem gatherI_len : (gatherI l P e).length ≤ l.length := by
  unfold gatherI
  refine Nat.le_trans (List.length_filterMap_le _ _) (by simp)
theorem mem_gatherI {y : β} : y ∈ gatherI l P e ↔ ∃ i, inL l i ∧ P i (getI l i) ∧ y = e i (getI l i) := by
  unfold gatherI
  rw [List.mem_filterMap]
  constructor
  · rintro ⟨⟨x, i⟩, hq, hy⟩
    rw [List.mem_zipIdx_iff_getElem?] at hq
    simp only at hq hy
    split at hy
    · rename_i hp
      refine ⟨i, inL_nat hq, ?_, ?_⟩
      · rw [getI_nat hq]; exact hp
      · rw [getI_nat hq]; simpa using hy.symm
    · cases hy
  · rintro ⟨i, hi, hp, rfl⟩
    have hi0 := hi.1
    refine ⟨(getI l i, i.toNat), ?_, ?_⟩
    · rw [List.mem_zipIdx_iff_getElem?]; exact getI_get? hi
    · simp only
      rw [show ((i.toNat : Nat) : Int) = i from by omega, if_pos hp]
end
theorem loop_gather {α β ρ : Type} [Inhabited α] {f : List β × Int → Option ((List β × Int) ⊕ ρ)} (l : List α) (P : Int → α → Prop) (e : Int → α → β) {out : List β → ρ} (hb : Few l)
    (h1 : ∀ (i : Int) (s : List β), 0 ≤ i → i < l.length → inL l i → s.length ≤ i → f (s, i) = some (.inl (if P i (getI l i) then s ++ [e i (getI l i)] else s, i + 1))) (h2 : ∀ s, f (s, l.length) = some (.inr (out s))) :
    loopM f ([], 0) = some (out (gatherI l P e)) := by
  have := loop_fold (f := f) l (fun s i => (s, i)) (fun i x s => if P i x then s ++ [e i x] else s) [] (out := out) (by unfold Few at hb; omega) (fun i s => s.length ≤ i) (by simp) (fun i x s hx hi hs => by
    have h := h1 i s (by omega) (by omega) (inL_nat hx) (by omega)
    rw [getI_nat hx] at h
    refine ⟨h, ?_⟩
    split
    · simp; omega
    · omega) (fun s _ => h2 s)
  have key : ∀ (q : List (α × Nat)) (s : List β), q.foldl (fun s q => if P q.2 q.1 then s ++ [e q.2 q.1] else s) s = s ++ q.filterMap fun q => if P q.2 q.1 then some (e q.2 q.1) else none := by
    intro q
    induction q with
    | nil => intro s; simp
    | cons a q ih =>
      intro s
      rw [List.foldl_cons, ih, List.filterMap_cons]
      by_cases h : P a.2 a.1 <;> simp [h]
  rw [this, key l.zipIdx []]
  rfl

/-- Is any one so? -/
theorem loop_any {α ρ : Type} [Inhabited α] {f : Bool × Int → Option ((Bool × Int) ⊕ ρ)} (l : List α) (P : Int → α → Prop) {out : Bool → ρ} (hb : Few l)
    (h1 : ∀ (i : Int) (b : Bool), 0 ≤ i → i < l.length → inL l i → f (b, i) = some (.inl (b || decide (P i (getI l i)), i + 1))) (h2 : ∀ b, f (b, l.length) = some (.inr (out b))) :
    loopM f (false, 0) = some (out (decide (∃ i, inL l i ∧ P i (getI l i)))) := by
  have := loop_fold (f := f) l (fun s i => (s, i)) (fun i x s => s || decide (P i x)) false (out := out) (by unfold Few at hb; omega) (fun i s => s = decide (∃ j : Int, j < i ∧ inL l j ∧ P j (getI l j))) (by
      symm; rw [decide_eq_false_iff_not]; rintro ⟨j, h1, h2, _⟩; have := h2.1; omega) (fun i x s hx hi hs => by
    have h := h1 i s (by omega) (by omega) (inL_nat hx)
    rw [getI_nat hx] at h
    refine ⟨h, ?_⟩
    rw [hs, Bool.eq_iff_iff]
    simp only [Bool.or_eq_true, decide_eq_true_eq]
    constructor
    · rintro (⟨j, a, b, c⟩ | h)
      · exact ⟨j, by omega, b, c⟩
      · exact ⟨i, by omega, inL_nat hx, by rw [getI_nat hx]; exact h⟩
    · rintro ⟨j, a, b, c⟩
      by_cases hj : j = i
      · subst hj; rw [getI_nat hx] at c; exact .inr c
      · exact .inl ⟨j, by omega, b, c⟩) (fun s _ => h2 s)
  rw [this]
  congr 2
  have hk : ∀ (k : Nat), k ≤ l.length → ((l.zipIdx.take k).foldl (fun s q => s || decide (P q.2 q.1)) false) = decide (∃ j : Int, j < k ∧ inL l j ∧ P j (getI l j)) := by
    intro k
    induction k with
    | zero => intro _; symm; simp only [List.take_zero, List.foldl_nil]; rw [decide_eq_false_iff_not]; rintro ⟨j, h1, h2, _⟩; have := h2.1; omega
    | succ k ih =>
      intro hk
      have hx : l[k]? = some l[k] := List.getElem?_eq_getElem (by omega)
      have hz : l.zipIdx[k]? = some (l[k], k) := by simp [hx]
      rw [List.take_add_one, hz, Option.toList_some, List.foldl_append, ih (by omega)]
      rw [Bool.eq_iff_iff]
      simp only [List.foldl_cons, List.foldl_nil, Bool.or_eq_true, decide_eq_true_eq]
      constructor
      · rintro (⟨j, a, b, c⟩ | h)
        · exact ⟨j, by omega, b, c⟩
        · exact ⟨k, by omega, inL_nat hx, by rw [getI_nat hx]; exact h⟩
      · rintro ⟨j, a, b, c⟩
        by_cases hj : j = k
        · subst hj; rw [getI_nat hx] at c; exact .inr c
        · exact .inl ⟨j, by omega, b, c⟩
  have h3 := hk l.length (Nat.le_refl _)
  rw [List.take_of_length_le (by simp)] at h3
  rw [h3]
  exact decide_eq_decide.2 ⟨fun ⟨j, _, b, c⟩ => ⟨j, b, c⟩, fun ⟨j, b, c⟩ => ⟨j, b.2, b, c⟩⟩
theorem any_mem {α : Type} [Inhabited α] {l : List α} {a : α} : (∃ i, inL l i ∧ getI l i = a) ↔ a ∈ l := ⟨fun ⟨i, h, e⟩ => e ▸ getI_mem h, mem_getI⟩
theorem lin_dec {α : Type} {l : List α} {i : Int} : lin l i = decide (inL l i) := by unfold lin inL; exact decide_eq_decide.2 Iff.rfl
theorem few_app {α : Type} {l r : List α} {a b : Nat} (h : l.length ≤ a) (h2 : r.length ≤ b) (hab : a + b ≤ 1000000 := by decide) : Few (l ++ r) := by simp [Few]; omega

section
variable {α : Type} [Inhabited α] {l : List α}
theorem mem_take_getI {j : Int} {x : α} : x ∈ l.take j.toNat ↔ ∃ k, inL l k ∧ k < j ∧ getI l k = x := by
  rw [List.mem_take_iff_getElem]
  constructor
  · rintro ⟨i, hi, rfl⟩
    have h1 : i < l.length := by omega
    exact ⟨i, ⟨by omega, by omega⟩, by omega, getI_nat (List.getElem?_eq_getElem h1)⟩
  · rintro ⟨k, hk, hlt, rfl⟩
    have h0 := hk.1; have h1 := hk.2
    refine ⟨k.toNat, by omega, ?_⟩
    have := getI_get? hk
    exact (List.getElem?_eq_some_iff.1 this).2
theorem fst_take [DecidableEq α] {j : Int} (hj : inL l j) : fstI l (fun y => getI l j = y) = j ↔ getI l j ∉ l.take j.toNat := by
  rw [fstI_eq hj, mem_take_getI]
  constructor
  · rintro ⟨_, h⟩ ⟨k, hk, hlt, e⟩
    exact h k hk hlt e.symm
  · intro h
    exact ⟨rfl, fun k hk hlt e => h ⟨k, hk, hlt, e.symm⟩⟩
end
theorem slok_dec {n : Nat} {a b : Int} : slok n a b = decide (0 ≤ a ∧ a ≤ b ∧ b ≤ n) := rfl
end Go.Eng
