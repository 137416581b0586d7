/- Part of the proof of MatrixTexts: plain laws of the printed mirrors. No conditions. -/
import Derived.Test.YtcclngfmkodgjaaGreatEng14
import Derived.Test.YtcclngfmkodgjaaGreatMAM
set_option linter.unusedVariables false
set_option linter.unusedSectionVars false
namespace Go.Eng
open Go Classical

theorem nth_nat {α : Type} {l : List α} {i : Nat} : nth l (i : Int) = l[i]? := by simp [nth]
theorem nth_zero {α : Type} {l : List α} : nth l 0 = l[0]? := by simp [nth]
theorem wr64 {n : Int} (h1 : -9223372036854775808 ≤ n) (h2 : n < 9223372036854775808) : wr_i64 n = n := by
  unfold wr_i64 IntKind.wrap
  simp [IntKind.signed, IntKind.bits]
  omega

theorem loopM_trace {σ ρ : Type} {f : σ → Option (σ ⊕ ρ)} (st : Nat → σ) (n : Nat) {r : ρ} (hb : n < 18446744073709551616) (h : ∀ i, i < n → f (st i) = some (.inl (st (i + 1)))) (hn : f (st n) = some (.inr r)) :
    loopM f (st 0) = some r := by
  have key : ∀ (k m i : Nat), i + k = n → k < m → iter f m (st i) = some r := by
    intro k
    induction k with
    | zero =>
      intro m i hi hm
      obtain ⟨m, rfl⟩ : ∃ q, m = q + 1 := ⟨m - 1, by omega⟩
      have : i = n := by omega
      subst this
      rw [iter_succ, hn]
    | succ k ih =>
      intro m i hi hm
      obtain ⟨m, rfl⟩ : ∃ q, m = q + 1 := ⟨m - 1, by omega⟩
      rw [iter_succ, h i (by omega)]
      exact ih m (i + 1) (by omega) (by omega)
  exact key n _ 0 (by omega) hb

theorem loopM_rule {σ ρ : Type} {f : σ → Option (σ ⊕ ρ)} (I : σ → Prop) (Q : ρ → Prop) (μ : σ → Nat)
    (h : ∀ s, I s → ∃ q, f s = some q ∧ match q with | .inl s' => I s' ∧ μ s' < μ s | .inr r => Q r) {s : σ} (hs : I s) (hb : μ s < 18446744073709551615) : ∃ r, loopM f s = some r ∧ Q r := by
  have key : ∀ (m : Nat) s, I s → μ s < m → ∃ r, iter f m s = some r ∧ Q r := by
    intro m
    induction m with
    | zero => intro s _ h; omega
    | succ m ih =>
      intro s hs hm
      obtain ⟨q, hq, hr⟩ := h s hs
      cases q with
      | inl s' =>
        obtain ⟨r, h1, h2⟩ := ih s' hr.1 (by have := hr.2; omega)
        exact ⟨r, by rw [iter_succ, hq]; exact h1, h2⟩
      | inr r => exact ⟨r, by rw [iter_succ, hq], hr⟩
  exact key _ s hs (by omega)

theorem loop_ix {α ρ : Type} {f : Int → Option (Int ⊕ ρ)} (l : List α) (step : Nat → α → Option ρ) (last : ρ) (hb : l.length < 9223372036854775807)
    (h1 : ∀ (i : Nat) x, l[i]? = some x → i < l.length → f i = some (match step i x with | none => .inl ((i : Int) + 1) | some r => .inr r)) (h2 : f l.length = some (.inr last)) :
    loopM f 0 = some ((l.zipIdx.findSome? fun q => step q.2 q.1).getD last) := by
  have key : ∀ (r : List α) (k : Nat), l.drop k = r → k ≤ l.length → ∃ n, n ≤ l.length - k ∧ (∀ i, i < n → f ((k + i : Nat) : Int) = some (.inl ((k + (i + 1) : Nat) : Int))) ∧ f ((k + n : Nat) : Int) = some (.inr (((r.zipIdx k).findSome? fun q => step q.2 q.1).getD last)) := by
    intro r
    induction r with
    | nil =>
      intro k hk hle
      have : k = l.length := by
        have := congrArg List.length hk
        simp at this; omega
      subst this
      exact ⟨0, by omega, fun i hi => by omega, by simpa using h2⟩
    | cons x r ih =>
      intro k hk hle
      have hx : l[k]? = some x := by
        have := congrArg (fun q => q[0]?) hk
        simpa using this
      have hlt : k < l.length := (List.getElem?_eq_some_iff.1 hx).1
      have hs := h1 k x hx hlt
      cases hst : step k x with
      | some q =>
        rw [hst] at hs
        exact ⟨0, by omega, fun i hi => by omega, by simpa [List.zipIdx_cons, hst] using hs⟩
      | none =>
        rw [hst] at hs
        obtain ⟨n, hn, ha, hb⟩ := ih (k + 1) (by rw [← List.drop_drop, hk]; rfl) (by omega)
        refine ⟨n + 1, by omega, fun i hi => ?_, ?_⟩
        · cases i with
          | zero => simpa using hs
          | succ i =>
            have := ha i (by omega)
            rw [show k + (i + 1) = k + 1 + i from by omega, show k + (i + 1 + 1) = k + 1 + (i + 1) from by omega]; exact this
        · rw [show k + (n + 1) = k + 1 + n from by omega, hb]
          simp [List.zipIdx_cons, hst]
  obtain ⟨n, hn, ha, hb'⟩ := key l 0 rfl (by omega)
  simp only [Nat.zero_add] at ha hb'
  exact loopM_trace (fun i => (i : Int)) n (by omega) ha hb'

theorem loop_all {α ρ : Type} {f : Int → Option (Int ⊕ ρ)} (l : List α) (P : Nat → α → Prop) {a b : ρ} (hb : l.length < 9223372036854775807)
    (h1 : ∀ (i : Nat) x, l[i]? = some x → i < l.length → f i = some (if P i x then .inl ((i : Int) + 1) else .inr a)) (h2 : f l.length = some (.inr b)) :
    loopM f 0 = some (if ∀ (i : Nat) x, l[i]? = some x → P i x then b else a) := by
  rw [loop_ix l (fun i x => if P i x then none else some a) b hb (fun i x hx hi => by rw [h1 i x hx hi]; split <;> rfl) h2]
  congr 1
  cases hf : l.zipIdx.findSome? (fun q => if P q.2 q.1 then none else some a) with
  | none =>
    rw [List.findSome?_eq_none_iff] at hf
    rw [if_pos]; · rfl
    intro i x hx
    have := hf (x, i) (by rw [List.mem_zipIdx_iff_getElem?]; simpa using hx)
    apply Classical.byContradiction
    intro hn
    simp [hn] at this
  | some r =>
    obtain ⟨q, hq, hr⟩ := List.exists_of_findSome?_eq_some hf
    rw [List.mem_zipIdx_iff_getElem?] at hq
    rw [if_neg]
    · split at hr
      · cases hr
      · simp only [Option.some.injEq] at hr; subst hr; rfl
    · intro hall
      have := hall q.2 q.1 (by simpa using hq)
      simp [this] at hr

abbrev Few {α : Type} (l : List α) : Prop := l.length ≤ 1000000
def inL {α : Type} (l : List α) (i : Int) : Prop := 0 ≤ i ∧ i < l.length
theorem inL_iff {α : Type} {l : List α} {i : Int} : inL l i ↔ 0 ≤ i ∧ i < l.length := Iff.rfl
noncomputable def getI {α : Type} [Inhabited α] (l : List α) (i : Int) : α := (l[i.toNat]?).getD default
section
variable {α : Type} [Inhabited α] {l : List α} {i : Int}
theorem nth_getI (h : inL l i) : nth l i = some (getI l i) := by
  have h1 := h.1; have h2 := h.2
  have : i.toNat < l.length := by omega
  simp [nth, getI, h1, this]
theorem getI_nat {n : Nat} {x : α} (h : l[n]? = some x) : getI l n = x := by simp [getI, h]
theorem inL_nat {n : Nat} {x : α} (h : l[n]? = some x) : inL l n := ⟨by omega, by have := (List.getElem?_eq_some_iff.1 h).1; omega⟩
theorem getI_get? (h : inL l i) : l[i.toNat]? = some (getI l i) := (nth_out (nth_getI h)).2
theorem getI_mem (h : inL l i) : getI l i ∈ l := List.mem_of_getElem? (getI_get? h)
theorem mem_getI {x : α} (h : x ∈ l) : ∃ i, inL l i ∧ getI l i = x := by
  obtain ⟨i, hi⟩ := List.getElem?_of_mem h
  exact ⟨i, inL_nat hi, getI_nat hi⟩
end
def EachP {α : Type} [Inhabited α] (l : List α) (P : Int → α → Prop) : Prop := ∀ i, inL l i → P i (getI l i)
theorem eachP_nat {α : Type} [Inhabited α] {l : List α} {P : Int → α → Prop} : EachP l P ↔ ∀ (i : Nat) x, l[i]? = some x → P i x := by
  constructor
  · intro h i x hx
    have := h i (inL_nat hx)
    rwa [getI_nat hx] at this
  · intro h i hi
    have h1 := hi.1
    have := h i.toNat _ (getI_get? hi)
    rwa [show ((i.toNat : Nat) : Int) = i from by omega] at this
theorem loop_each {α ρ : Type} [Inhabited α] {f : Int → Option (Int ⊕ ρ)} (l : List α) (P : Int → α → Prop) (a b : ρ) (hb : Few l)
    (h1 : ∀ i : Int, 0 ≤ i → i < l.length → inL l i → f i = some (if P i (getI l i) then .inl (i + 1) else .inr a)) (h2 : f l.length = some (.inr b)) :
    loopM f 0 = if EachP l P then some b else some a := by
  rw [loop_all l (fun i x => P i x) (by unfold Few at hb; omega) (fun i x hx hi => by rw [h1 i (by omega) (by omega) (inL_nat hx), getI_nat hx]) h2]
  simp only [eachP_nat]
  split <;> rfl
/-! ### What is decided -/
section
variable {β γ : Type} {c p q : Prop}
theorem bind_ite [Decidable c] {x y : Option β} {k : β → Option γ} : (if c then x else y).bind k = if c then x.bind k else y.bind k := by split <;> rfl
theorem dif1 [Decidable c] [Decidable p] : (if c then some (decide p) else some false) = some (decide (c ∧ p)) := by by_cases c <;> simp [*]
theorem dif2 [Decidable c] [Decidable p] : (if c then some true else some (decide p)) = some (decide (c ∨ p)) := by by_cases c <;> simp [*]
theorem dif3 [Decidable c] [Decidable p] : (if c then some false else some (decide p)) = some (decide (¬ c ∧ p)) := by by_cases c <;> simp [*]
theorem dif4 [Decidable c] [Decidable p] : (if c then some (decide p) else some true) = some (decide (c → p)) := by by_cases c <;> simp [*]
theorem dif5 [Decidable c] [Decidable p] [Decidable q] : (if c then some (decide p) else some (decide q)) = some (decide ((c → p) ∧ (¬ c → q))) := by by_cases c <;> simp [*]
theorem dif6 [Decidable c] : (if c then some true else some false) = some (decide c) := by by_cases c <;> simp [*]
theorem dif7 [Decidable c] : (if c then some false else some true) = some (decide ¬ c) := by by_cases c <;> simp [*]
theorem dnot [Decidable p] : (!decide p) = decide (¬ p) := by simp
theorem ibeq {x y : Int} : (x == y) = decide (x = y) := by rw [Bool.eq_iff_iff]; simp
theorem ibne {x y : Int} : (x != y) = decide (x ≠ y) := by rw [Bool.eq_iff_iff]; simp
theorem if_not2 [Decidable p] [Decidable (¬ p)] {x y : β} : (if ¬ p then x else y) = if p then y else x := by by_cases p <;> simp [*]
theorem ite_cg {α : Type} {l : List α} {i : Int} [Decidable (inL l i)] {x y u v : β} (h2 : inL l i → x = u) (h3 : ¬ inL l i → y = v) : (if inL l i then x else y) = (if inL l i then u else v) := ite_congr rfl h2 h3
end
def ixI : Option Nat → Int | some i => i | none => -1
theorem loop_findI {α : Type} [Inhabited α] {f : Int → Option (Int ⊕ (Int ⊕ Unit))} (l : List α) (p : α → Bool) (hb : Few l)
    (h1 : ∀ i : Int, 0 ≤ i → i < l.length → inL l i → f i = some (if p (getI l i) = true then .inr (.inl i) else .inl (i + 1))) (h2 : f l.length = some (.inr (.inr ()))) :
    loopM f 0 = match l.findIdx? p with | some i => some (.inl (i : Int)) | none => some (.inr ()) := by
  have h := loop_ix l (fun i x => if p x = true then some (.inl (i : Int)) else none) (.inr ()) (f := f) (by unfold Few at hb; omega) (fun i x hx hi => by rw [h1 i (by omega) (by omega) (inL_nat hx), getI_nat hx]; split <;> rfl) h2
  rw [h]
  have key : ∀ (l : List α) (k : Nat), ((l.zipIdx k).findSome? (fun q => if p q.1 = true then some (Sum.inl (q.2 : Int)) else none)).getD (Sum.inr ()) = (match l.findIdx? p with | some i => Sum.inl ((k + i : Nat) : Int) | none => Sum.inr () : Int ⊕ Unit) := by
    intro l
    induction l with
    | nil => intro k; rfl
    | cons x l ih =>
      intro k
      rw [List.zipIdx_cons, List.findSome?_cons, List.findIdx?_cons]
      by_cases hp : p x = true
      · simp [hp]
      · simp only [hp]
        have := ih (k + 1)
        simp only [Bool.false_eq_true, if_false] at this ⊢
        rw [this]
        cases List.findIdx? p l with
        | none => rfl
        | some i => simp; omega
  rw [key l 0]
  cases l.findIdx? p <;> simp
theorem loop_fold {α σ τ ρ : Type} {f : τ → Option (τ ⊕ ρ)} (l : List α) (st : σ → Int → τ) (g : Nat → α → σ → σ) (s0 : σ) {out : σ → ρ} (hb : l.length < 9223372036854775807) (I : Nat → σ → Prop) (h0 : I 0 s0)
    (h1 : ∀ (i : Nat) x s, l[i]? = some x → i < l.length → I i s → f (st s i) = some (.inl (st (g i x s) ((i : Int) + 1))) ∧ I (i + 1) (g i x s)) (h2 : ∀ s, I l.length s → f (st s l.length) = some (.inr (out s))) :
    loopM f (st s0 0) = some (out (l.zipIdx.foldl (fun s q => g q.2 q.1 s) s0)) := by
  let S : Nat → σ := fun i => (l.zipIdx.take i).foldl (fun s q => g q.2 q.1 s) s0
  have hS : ∀ i x, l[i]? = some x → S (i + 1) = g i x (S i) := by
    intro i x hx
    have hz : l.zipIdx[i]? = some (x, i) := by simp [hx]
    simp only [S]
    rw [List.take_add_one, hz]
    simp
  have hI : ∀ i, i ≤ l.length → I i (S i) := by
    intro i
    induction i with
    | zero => intro _; exact h0
    | succ i ih =>
      intro hi
      have hx : l[i]? = some l[i] := List.getElem?_eq_getElem (by omega)
      rw [hS i _ hx]
      exact (h1 i _ _ hx (by omega) (ih (by omega))).2
  have hend : S l.length = l.zipIdx.foldl (fun s q => g q.2 q.1 s) s0 := by
    simp only [S]
    rw [List.take_of_length_le (by simp)]
  have := loopM_trace (f := f) (fun i => st (S i) i) l.length (r := out (S l.length)) (by omega) (fun i hi => by
    have hx : l[i]? = some l[i] := List.getElem?_eq_getElem hi
    have := (h1 i _ (S i) hx hi (hI i (by omega))).1
    rw [← hS i _ hx] at this
    rw [this]; simp) (h2 _ (hI _ (Nat.le_refl _)))
  rw [hend] at this
  exact this

noncomputable def fstI {α : Type} (l : List α) (P : α → Prop) : Int := ixI (l.findIdx? fun x => decide (P x))
section
variable {α : Type} [Inhabited α] {l : List α} {P : α → Prop}
theorem fstI_cases : (fstI l P = -1 ∧ ∀ i, inL l i → ¬ P (getI l i)) ∨ (inL l (fstI l P) ∧ P (getI l (fstI l P)) ∧ ∀ j, inL l j → j < fstI l P → ¬ P (getI l j)) := by
  unfold fstI
  cases h : l.findIdx? fun x => decide (P x) with
  | none =>
    rw [List.findIdx?_eq_none_iff] at h
    refine .inl ⟨rfl, fun i hi => ?_⟩
    have := h _ (getI_mem hi)
    simpa using this
  | some n =>
    rw [List.findIdx?_eq_some_iff_getElem] at h
    obtain ⟨hn, h1, h2⟩ := h
    refine .inr ⟨⟨by simp [ixI], by simpa [ixI] using hn⟩, ?_, fun j hj hlt => ?_⟩
    · simp only [ixI]; rw [getI_nat (List.getElem?_eq_getElem hn)]; simpa using h1
    · simp only [ixI] at hlt
      have hj0 := hj.1
      have := h2 j.toNat (by omega)
      rw [show getI l j = l[j.toNat]'(by omega) from by
        have := getI_get? hj
        exact ((List.getElem?_eq_some_iff.1 this).2).symm]
      simpa using this
theorem fstI_ge : -1 ≤ fstI l P := by unfold fstI ixI; split <;> omega
theorem fstI_first {j : Int} (hj : inL l j) (hp : P (getI l j)) : 0 ≤ fstI l P ∧ fstI l P ≤ j := by
  rcases fstI_cases (l := l) (P := P) with h1 | h1
  · exact absurd hp (h1.2 j hj)
  · refine ⟨h1.1.1, ?_⟩
    apply Classical.byContradiction
    intro hn
    exact h1.2.2 j hj (by omega) hp
theorem fstI_none : fstI l P < 0 ↔ ∀ i, inL l i → ¬ P (getI l i) := by
  constructor
  · intro h i hi hp
    have := fstI_first hi hp; omega
  · intro h
    rcases fstI_cases (l := l) (P := P) with h1 | h1
    · omega
    · exact absurd h1.2.1 (h _ h1.1)
theorem fstI_none_mem : fstI l P < 0 ↔ ∀ x ∈ l, ¬ P x := by
  rw [fstI_none]
  constructor
  · intro h x hx
    obtain ⟨i, hi, rfl⟩ := mem_getI hx
    exact h i hi
  · exact fun h i hi => h _ (getI_mem hi)
theorem loop_first {f : Int → Option (Int ⊕ (Int ⊕ Unit))} (l : List α) (P : α → Prop) (hb : Few l)
    (h1 : ∀ i : Int, 0 ≤ i → i < l.length → inL l i → f i = some (if P (getI l i) then .inr (.inl i) else .inl (i + 1))) (h2 : f l.length = some (.inr (.inr ()))) :
    loopM f 0 = if 0 ≤ fstI l P then some (.inl (fstI l P)) else some (.inr ()) := by
  rw [loop_findI l (fun x => decide (P x)) hb (fun i a b c => by rw [h1 i a b c]; by_cases h : P (getI l i) <;> simp [h]) h2]
  unfold fstI
  cases l.findIdx? fun x => decide (P x) <;> simp [ixI]
theorem loop_firstv {ρ : Type} {f : Int → Option (Int ⊕ (ρ ⊕ Unit))} (l : List α) (P : α → Prop) (g : Int → α → ρ) (hb : Few l)
    (h1 : ∀ i : Int, 0 ≤ i → i < l.length → inL l i → f i = some (if P (getI l i) then .inr (.inl (g i (getI l i))) else .inl (i + 1))) (h2 : f l.length = some (.inr (.inr ()))) :
    loopM f 0 = if 0 ≤ fstI l P then some (.inl (g (fstI l P) (getI l (fstI l P)))) else some (.inr ()) := by
  have h := loop_ix l (fun i x => if P x then some (.inl (g i x)) else none) (.inr ()) (f := f) (by unfold Few at hb; omega) (fun i x hx hi => by rw [h1 i (by omega) (by omega) (inL_nat hx), getI_nat hx]; split <;> rfl) h2
  rw [h]
  have key : ∀ (r : List α) (k : Nat), ((r.zipIdx k).findSome? (fun q => if P q.1 then some (Sum.inl (g (q.2 : Int) q.1)) else none)).getD (Sum.inr ()) = (match r.findIdx? fun x => decide (P x) with | some i => Sum.inl (g ((k + i : Nat) : Int) ((r[i]?).getD default)) | none => Sum.inr () : ρ ⊕ Unit) := by
    intro r
    induction r with
    | nil => intro k; rfl
    | cons x r ih =>
      intro k
      rw [List.zipIdx_cons, List.findSome?_cons, List.findIdx?_cons]
      by_cases hp : P x
      · simp [hp]
      · have := ih (k + 1)
        simp only [hp, if_false, decide_false, Bool.false_eq_true] at this ⊢
        rw [this]
        cases hq : List.findIdx? (fun x => decide (P x)) r with
        | none => rfl
        | some i => simp; congr 1; omega
  have h3 := key l 0
  unfold fstI
  cases hq : l.findIdx? fun x => decide (P x) with
  | none => rw [hq] at h3; simp [ixI]; exact h3
  | some i =>
    rw [hq] at h3
    simp [ixI]
    simpa [getI] using h3
theorem fst_ret : (if 0 ≤ fstI l P then some (fstI l P) else some (-1)) = some (fstI l P) := by
  split
  · rfl
  · have := fstI_ge (l := l) (P := P)
    congr 1; omega
end

theorem roomy_few {α : Type} {l : List α} {b : Nat} (h : l.length ≤ 1000100) (hb : b ≤ 100000000 := by decide) : roomy b l = true := by
  unfold roomy
  have := Nat.mul_le_mul h hb
  exact decide_eq_true ⟨by omega, by omega⟩

section
variable {α β : Type} [Inhabited α] {l : List α} {P : Int → α → Prop} {e : Int → α → β}
end
section
variable {α : Type} [Inhabited α] {l : List α}
end
end Go.Eng

set_option linter.unusedVariables false
set_option linter.unusedSectionVars false
set_option linter.unusedSimpArgs false
namespace Go.Eng
open Go Classical
attribute [local congr] ite_cg

/-! ### The net -/
section

end

end Go.Eng

set_option linter.unusedVariables false
set_option linter.unusedSectionVars false
set_option linter.unusedSimpArgs false
namespace Go.Eng
open Go Classical
attribute [local congr] ite_cg
theorem seqB_dec {x y : ByteArray} : seqB x y = decide (x = y) := by
  unfold seqB
  rw [Bool.eq_iff_iff]
  simp only [beq_iff_eq, decide_eq_true_eq]
  constructor
  · intro h
    rw [ByteArray.toList_eq, ByteArray.toList_eq] at h
    obtain ⟨⟨x⟩⟩ := x
    obtain ⟨⟨y⟩⟩ := y
    simpa using h
  · intro h; rw [h]

end Go.Eng

set_option linter.unusedVariables false
set_option linter.unusedSectionVars false
set_option linter.unusedSimpArgs false
namespace Go.Eng
open Go Classical
attribute [local congr] ite_cg
section
/-! ### A copy -/
end
end Go.Eng

set_option linter.unusedVariables false
set_option linter.unusedSectionVars false
set_option linter.unusedSimpArgs false
namespace Go.Eng
open Go Classical
attribute [local congr] ite_cg
section

end
end Go.Eng

set_option linter.unusedVariables false
set_option linter.unusedSectionVars false
set_option linter.unusedSimpArgs false
namespace Go.Eng
open Go Classical
attribute [local congr] ite_cg
theorem take_succ_get {α : Type} [Inhabited α] {l : List α} {k : Nat} (h : k < l.length) : l.take (k + 1) = l.take k ++ [getI l (k : Int)] := by
  have := getI_get? (l := l) (i := (k : Int)) ⟨by omega, by omega⟩
  rw [List.take_add_one, show l[k]? = some (getI l (k : Int)) from by simpa using this]; rfl
section
variable {n : Api_Net}
theorem loop_putmap {α β ρ : Type} [Inhabited α] {f : List β × Int → Option ((List β × Int) ⊕ ρ)} (l : List α) (h : α → β) (out : List β → ρ) (hb : Few l)
    (h1 : ∀ (m : List β) (i : Int), 0 ≤ i → i < l.length → inL l i → m.length ≤ l.length → f (m, i) = some (.inl (m ++ [h (getI l i)], i + 1))) (h2 : ∀ m, f (m, l.length) = some (.inr (out m))) :
    loopM f ([], 0) = some (out (l.map h)) := by
  have := loopM_trace (f := f) (fun i => ((l.take i).map h, (i : Int))) l.length (r := out (l.map h)) (by unfold Few at hb; omega) (fun i hi => by
    rw [h1 _ (i : Int) (by omega) (by omega) ⟨by omega, by omega⟩ (by simp; omega), take_succ_get hi]
    simp) (by simp only [List.take_length]; exact h2 _)
  simpa using this
end
end Go.Eng

set_option linter.unusedVariables false
set_option linter.unusedSectionVars false
set_option linter.unusedSimpArgs false
namespace Go.Eng
open Go Classical

inductive Conn (E : Int → Int → Prop) : Int → Int → Prop
  | refl (x : Int) : Conn E x x
  | edge {x y : Int} (h : E x y) : Conn E x y
  | symm {x y : Int} (h : Conn E x y) : Conn E y x
  | trans {x y z : Int} (h : Conn E x y) (g : Conn E y z) : Conn E x z

section
variable {E F : Int → Int → Prop}
theorem Conn.mono (h : ∀ x y, E x y → F x y) {x y : Int} (c : Conn E x y) : Conn F x y := by
  induction c with
  | refl x => exact .refl x
  | edge e => exact .edge (h _ _ e)
  | symm _ ih => exact ih.symm
  | trans _ _ i1 i2 => exact i1.trans i2
theorem Conn.congr (h : ∀ x y, E x y ↔ F x y) {x y : Int} : Conn E x y ↔ Conn F x y := ⟨Conn.mono fun x y => (h x y).1, Conn.mono fun x y => (h x y).2⟩
theorem Conn.sub (h : ∀ x y, E x y → Conn F x y) {x y : Int} (c : Conn E x y) : Conn F x y := by
  induction c with
  | refl x => exact .refl x
  | edge e => exact h _ _ e
  | symm _ ih => exact ih.symm
  | trans _ _ i1 i2 => exact i1.trans i2
theorem Conn.inv {β : Type} {T : Int → β} (h : ∀ x y, E x y → T x = T y) {x y : Int} (c : Conn E x y) : T x = T y := by
  induction c with
  | refl x => rfl
  | edge e => exact h _ _ e
  | symm _ ih => exact ih.symm
  | trans _ _ i1 i2 => exact i1.trans i2
theorem Conn.set {P : Int → Prop} (h : ∀ x y, E x y → (P x ↔ P y)) {x y : Int} (c : Conn E x y) : P x ↔ P y := by
  induction c with
  | refl x => exact Iff.rfl
  | edge e => exact h _ _ e
  | symm _ ih => exact ih.symm
  | trans _ _ i1 i2 => exact i1.trans i2
end

structure LeastT (E : Int → Int → Prop) (T : Int → Int) (N : Int) : Prop where
  lo : ∀ x, 0 ≤ x → x < N → 0 ≤ T x
  le : ∀ x, 0 ≤ x → x < N → T x ≤ x
  conn : ∀ x, 0 ≤ x → x < N → Conn E x (T x)
  same : ∀ x y, 0 ≤ x → x < N → 0 ≤ y → y < N → Conn E x y → T x = T y
theorem LeastT.uniq {E F : Int → Int → Prop} {T U : Int → Int} {N : Int} (h : LeastT E T N) (g : LeastT F U N) (e : ∀ x y, Conn E x y ↔ Conn F x y) {x : Int} (h0 : 0 ≤ x) (h1 : x < N) : T x = U x := by
  have a1 := h.lo x h0 h1
  have a2 := h.le x h0 h1
  have b1 := g.lo x h0 h1
  have b2 := g.le x h0 h1
  have c1 := g.same x (T x) h0 h1 a1 (by omega) ((e _ _).1 (h.conn x h0 h1))
  have c2 := h.same x (U x) h0 h1 b1 (by omega) ((e _ _).2 (g.conn x h0 h1))
  have d1 := g.le (T x) a1 (by omega)
  have d2 := h.le (U x) b1 (by omega)
  omega
structure Lab (f : List Int) (T : Int → Int) : Prop where
  lo : ∀ i, inL f i → 0 ≤ getI f i
  le : ∀ i, inL f i → getI f i ≤ i
  tlo : ∀ i, inL f i → 0 ≤ T i
  tle : ∀ i, inL f i → T i ≤ i
  root : ∀ i, inL f i → getI f (T i) = T i
  step : ∀ i, inL f i → T (getI f i) = T i
  self : ∀ i, inL f i → getI f i = i → T i = i

section
variable {f : List Int} {T : Int → Int}
theorem Lab.fin (h : Lab f T) {i : Int} (hi : inL f i) : inL f (getI f i) := ⟨h.lo i hi, by have := h.le i hi; have := hi.2; omega⟩
end
/-! ### Chains of sets -/
end Go.Eng

set_option linter.unusedVariables false
set_option linter.unusedSectionVars false
set_option linter.unusedSimpArgs false
namespace Go.Eng
open Go Classical

theorem LeastT.congr {E F : Int → Int → Prop} {T : Int → Int} {N : Int} (h : LeastT E T N) (e : ∀ x y, Conn E x y ↔ Conn F x y) : LeastT F T N :=
  ⟨h.lo, h.le, fun x a b => (e _ _).1 (h.conn x a b), fun x y a b c d g => h.same x y a b c d ((e _ _).2 g)⟩
theorem LeastT.congrE {E F : Int → Int → Prop} {T : Int → Int} {N : Int} (h : LeastT E T N) (e : ∀ x y, E x y ↔ F x y) : LeastT F T N := h.congr fun _ _ => Conn.congr e
def mkL (N : Nat) (T : Int → Int) : List Int := (List.range N).map fun (i : Nat) => T (i : Int)
theorem mkL_len {N : Nat} {T : Int → Int} : (mkL N T).length = N := by simp [mkL]
theorem mkL_inL {N : Nat} {T : Int → Int} {i : Int} : inL (mkL N T) i ↔ 0 ≤ i ∧ i < N := by rw [inL_iff, mkL_len]
structure FOK (E : Int → Int → Prop) (N : Nat) (f : List Int) : Prop where
  len : f.length = N
  lab : ∃ T, Lab f T ∧ LeastT E T N
  rng : ∀ x y, E x y → (0 ≤ x ∧ x < (N : Int)) ∧ 0 ≤ y ∧ y < (N : Int)
theorem FOK.congr {E F : Int → Int → Prop} {N : Nat} {f : List Int} (h : FOK E N f) (e : ∀ x y, E x y ↔ F x y) : FOK F N f := by
  obtain ⟨T, a, b⟩ := h.lab
  exact ⟨h.len, ⟨T, a, b.congrE e⟩, fun x y g => h.rng x y ((e x y).2 g)⟩
end Go.Eng

set_option linter.unusedVariables false
set_option linter.unusedSectionVars false
set_option linter.unusedSimpArgs false
namespace Go.Eng
open Go Classical
attribute [local congr] ite_cg
section

end
end Go.Eng

set_option linter.unusedVariables false
set_option linter.unusedSectionVars false
set_option linter.unusedSimpArgs false
namespace Go.Eng
open Go Classical
attribute [local congr] ite_cg

theorem loop_upto {ρ : Type} {f : Int → Option (Int ⊕ ρ)} (N : Nat) (P : Int → Prop) (a b : ρ) (hb : N ≤ 1000000)
    (h1 : ∀ i : Int, 0 ≤ i → i < N → f i = some (if P i then .inl (i + 1) else .inr a)) (h2 : f N = some (.inr b)) :
    loopM f 0 = if ∀ i : Int, 0 ≤ i → i < N → P i then some b else some a := by
  rw [loop_each (mkL N fun x => x) (fun i _ => P i) a b (by unfold Few; rw [mkL_len]; exact hb) (fun i i0 i1 _ => h1 i i0 (by rw [mkL_len] at i1; exact i1)) (by rw [mkL_len]; exact h2)]
  have : EachP (mkL N fun x => x) (fun i _ => P i) ↔ ∀ i : Int, 0 ≤ i → i < N → P i :=
    ⟨fun h i a b => h i (mkL_inL.2 ⟨a, b⟩), fun h i hi => h i hi.1 (mkL_inL.1 hi).2⟩
  simp only [this]

def LetterP (c : Int) : Prop := 97 ≤ c ∧ c ≤ 122
def DigitP (c : Int) : Prop := 48 ≤ c ∧ c ≤ 57
def NameP (s : ByteArray) : Prop := (∀ i : Int, 0 ≤ i → i < s.size → LetterP (byteAt s i) ∨ (DigitP (byteAt s i) ∧ i ≠ 0)) ∧ 0 < s.size ∧ s.size ≤ 12
theorem num_Name_spec {s : ByteArray} (hs : s.size ≤ 1000000) : num_Name s = some (decide (NameP s)) := by
  unfold num_Name
  rw [loop_upto (f := num_Name_L1 s) s.size (fun i => LetterP (byteAt s i) ∨ (DigitP (byteAt s i) ∧ i ≠ 0)) (.inl ()) (.inr ()) hs (fun i i0 i1 => by
    have hw := wr64 (n := i + 1) (by omega) (by omega)
    have hin : decide (0 ≤ (i : Int) ∧ (i : Int) < (s.size : Int)) = true := decide_eq_true ⟨i0, i1⟩
    simp only [num_Name_L1, i1, hin, hw, decide_true, if_true, bind_ite, Option.bind_some, dif1, dif2, dif3, dif4, dif5, dif6, dif7, dnot, ibeq, ibne, decide_eq_true_eq, if_not2, ge_iff_le, gt_iff_lt, fst_ret, Bool.false_eq_true, decide_false]
    unfold LetterP DigitP
    generalize byteAt s i = c
    by_cases c1 : 97 ≤ c <;> by_cases c2 : 48 ≤ c <;> by_cases c3 : c ≤ 122 <;> by_cases c4 : c ≤ 57 <;> by_cases c5 : i = 0 <;> simp [c1, c2, c3, c4, c5] <;> omega) (by simp [num_Name_L1])]
  have hN : NameP s ↔ (∀ i : Int, 0 ≤ i → i < s.size → LetterP (byteAt s i) ∨ (DigitP (byteAt s i) ∧ i ≠ 0)) ∧ 0 < s.size ∧ s.size ≤ 12 := Iff.rfl
  generalize NameP s = A at *
  by_cases h : ∀ i : Int, 0 ≤ i → i < s.size → LetterP (byteAt s i) ∨ (DigitP (byteAt s i) ∧ i ≠ 0)
  · rw [if_pos h]
    simp only [Option.bind_some]
    by_cases h2 : 0 < s.size
    · have h3 : (s.size : Int) > 0 := by omega
      by_cases h4 : s.size ≤ 12
      · have h5 : (s.size : Int) ≤ 12 := by omega
        simp only [h3, h5, hN.2 ⟨h, h2, h4⟩, decide_true, if_true]
      · have h5 : ¬ (s.size : Int) ≤ 12 := by omega
        have : ¬ A := fun q => h4 (hN.1 q).2.2
        simp only [h3, h5, this, decide_true, decide_false, if_true]
    · have h3 : ¬ (s.size : Int) > 0 := by omega
      have : ¬ A := fun q => h2 (hN.1 q).2.1
      simp only [h3, this, decide_false, Bool.false_eq_true, if_false]
  · have : ¬ A := fun q => h (hN.1 q).1
    rw [if_neg h]
    simp [this]

section
variable {n : Api_Net}
end
end Go.Eng

set_option linter.unusedVariables false
set_option linter.unusedSectionVars false
set_option linter.unusedSimpArgs false
namespace Go.Eng
open Go Classical
theorem r03Name_spec {s : ByteArray} (hs : s.size ≤ 1000000) : palingref03_Name s = some (decide (NameP s)) := by
  have hN : NameP s ↔ (∀ i : Int, 0 ≤ i → i < s.size → LetterP (byteAt s i) ∨ (DigitP (byteAt s i) ∧ i ≠ 0)) ∧ 0 < s.size ∧ s.size ≤ 12 := Iff.rfl
  unfold palingref03_Name
  by_cases c1 : (s.size : Int) < 1
  · rw [if_pos (decide_eq_true c1), decide_eq_false (fun h => by have := h.2.1; omega)]
  rw [if_neg (by simpa using c1)]
  by_cases c2 : (s.size : Int) > 12
  · rw [if_pos (decide_eq_true c2), decide_eq_false (fun h => by have := h.2.2; omega)]
  rw [if_neg (by simpa using c2), if_pos (decide_eq_true ⟨by omega, by omega⟩)]
  by_cases c3 : byteAt s 0 < 97
  · rw [if_pos (decide_eq_true c3), decide_eq_false (fun h => by
      have := h.1 0 (by omega) (by omega)
      unfold LetterP DigitP at this
      omega)]
  rw [if_neg (by simpa using c3)]
  by_cases c4 : byteAt s 0 > 122
  · rw [if_pos (decide_eq_true c4), decide_eq_false (fun h => by
      have := h.1 0 (by omega) (by omega)
      unfold LetterP DigitP at this
      omega)]
  rw [if_neg (by simpa using c4)]
  rw [loop_upto (f := palingref03_Name_L1 s) s.size (fun i => LetterP (byteAt s i) ∨ DigitP (byteAt s i)) (.inl ()) (.inr ()) hs (fun i i0 i1 => by
    have hw := wr64 (n := i + 1) (by omega) (by omega)
    have hin : decide (0 ≤ (i : Int) ∧ (i : Int) < (s.size : Int)) = true := decide_eq_true ⟨i0, i1⟩
    simp only [palingref03_Name_L1, i1, hin, hw, decide_true, if_true]
    unfold LetterP DigitP
    generalize byteAt s i = c
    by_cases e1 : c < 97 <;> by_cases e2 : c < 48 <;> by_cases e3 : c > 122 <;> by_cases e4 : c > 57 <;> simp [e1, e2, e3, e4] <;> omega) (by simp [palingref03_Name_L1])]
  have hiff : NameP s ↔ ∀ i : Int, 0 ≤ i → i < s.size → LetterP (byteAt s i) ∨ DigitP (byteAt s i) := by
    rw [hN]
    constructor
    · intro h i i0 i1
      rcases h.1 i i0 i1 with q | q
      · exact .inl q
      · exact .inr q.1
    · intro h
      refine ⟨fun i i0 i1 => ?_, by omega, by omega⟩
      rcases h i i0 i1 with q | q
      · exact .inl q
      · by_cases e : i = 0
        · subst e; unfold LetterP; omega
        · exact .inr ⟨q, e⟩
  by_cases h : ∀ i : Int, 0 ≤ i → i < s.size → LetterP (byteAt s i) ∨ DigitP (byteAt s i)
  · rw [if_pos h, decide_eq_true (hiff.2 h)]; rfl
  · rw [if_neg h, decide_eq_false (fun q => h (hiff.1 q))]; rfl
end Go.Eng

set_option linter.unusedVariables false
set_option linter.unusedSectionVars false
set_option linter.unusedSimpArgs false
namespace Go.Eng
open Go Classical

section

end
section

end
end Go.Eng

set_option linter.unusedVariables false
set_option linter.unusedSectionVars false
set_option linter.unusedSimpArgs false
namespace Go.Eng
open Go

theorem wr64u {n : Int} (h1 : 0 ≤ n) (h2 : n < 18446744073709551616) : wr_u64 n = n := by
  unfold wr_u64 IntKind.wrap
  simp [IntKind.signed, IntKind.bits]
  omega
theorem wr8 {n : Int} (h1 : 0 ≤ n) (h2 : n < 256) : wr_u8 n = n := by
  unfold wr_u8 IntKind.wrap
  simp [IntKind.signed, IntKind.bits]
  omega

end Go.Eng
