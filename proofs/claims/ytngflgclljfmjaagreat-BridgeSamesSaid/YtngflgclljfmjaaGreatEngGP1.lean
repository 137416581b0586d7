/- Part of the proof of BridgeSames: plain laws of the printed mirrors. No conditions. -/
import Derived.Test.YtngflgclljfmjaaGreatEng14
set_option linter.unusedVariables false
set_option linter.unusedSectionVars false
namespace Go.Eng
open Go Classical

theorem wr64 {n : Int} (h1 : -9223372036854775808 ≤ n) (h2 : n < 9223372036854775808) : wr_i64 n = n := by
  unfold wr_i64 IntKind.wrap
  simp [IntKind.signed, IntKind.bits]
  omega

theorem loopM_trace {σ ρ : Type} {f : σ → Option (σ ⊕ ρ)} (st : Nat → σ) (n : Nat) {r : ρ} (hb : n < 18446744073709551616) (h : ∀ i, i < n → f (st i) = some (.inl (st (i + 1)))) (hn : f (st n) = some (.inr r)) :
    loopM f (st 0) = some r := by
  have key : ∀ (k m i : Nat), i + k = n → k < m → iter f m (st i) = some r := by
    intro k
    induction k with
    | zero =>
      intro m i hi hm
      obtain ⟨m, rfl⟩ : ∃ q, m = q + 1 := ⟨m - 1, by omega⟩
      have : i = n := by omega
      subst this
      rw [iter_succ, hn]
    | succ k ih =>
      intro m i hi hm
      obtain ⟨m, rfl⟩ : ∃ q, m = q + 1 := ⟨m - 1, by omega⟩
      rw [iter_succ, h i (by omega)]
      exact ih m (i + 1) (by omega) (by omega)
  exact key n _ 0 (by omega) hb

theorem loop_ix {α ρ : Type} {f : Int → Option (Int ⊕ ρ)} (l : List α) (step : Nat → α → Option ρ) (last : ρ) (hb : l.length < 9223372036854775807)
    (h1 : ∀ (i : Nat) x, l[i]? = some x → i < l.length → f i = some (match step i x with | none => .inl ((i : Int) + 1) | some r => .inr r)) (h2 : f l.length = some (.inr last)) :
    loopM f 0 = some ((l.zipIdx.findSome? fun q => step q.2 q.1).getD last) := by
  have key : ∀ (r : List α) (k : Nat), l.drop k = r → k ≤ l.length → ∃ n, n ≤ l.length - k ∧ (∀ i, i < n → f ((k + i : Nat) : Int) = some (.inl ((k + (i + 1) : Nat) : Int))) ∧ f ((k + n : Nat) : Int) = some (.inr (((r.zipIdx k).findSome? fun q => step q.2 q.1).getD last)) := by
    intro r
    induction r with
    | nil =>
      intro k hk hle
      have : k = l.length := by
        have := congrArg List.length hk
        simp at this; omega
      subst this
      exact ⟨0, by omega, fun i hi => by omega, by simpa using h2⟩
    | cons x r ih =>
      intro k hk hle
      have hx : l[k]? = some x := by
        have := congrArg (fun q => q[0]?) hk
        simpa using this
      have hlt : k < l.length := (List.getElem?_eq_some_iff.1 hx).1
      have hs := h1 k x hx hlt
      cases hst : step k x with
      | some q =>
        rw [hst] at hs
        exact ⟨0, by omega, fun i hi => by omega, by simpa [List.zipIdx_cons, hst] using hs⟩
      | none =>
        rw [hst] at hs
        obtain ⟨n, hn, ha, hb⟩ := ih (k + 1) (by rw [← List.drop_drop, hk]; rfl) (by omega)
        refine ⟨n + 1, by omega, fun i hi => ?_, ?_⟩
        · cases i with
          | zero => simpa using hs
          | succ i =>
            have := ha i (by omega)
            rw [show k + (i + 1) = k + 1 + i from by omega, show k + (i + 1 + 1) = k + 1 + (i + 1) from by omega]; exact this
        · rw [show k + (n + 1) = k + 1 + n from by omega, hb]
          simp [List.zipIdx_cons, hst]
  obtain ⟨n, hn, ha, hb'⟩ := key l 0 rfl (by omega)
  simp only [Nat.zero_add] at ha hb'
  exact loopM_trace (fun i => (i : Int)) n (by omega) ha hb'

theorem loop_all {α ρ : Type} {f : Int → Option (Int ⊕ ρ)} (l : List α) (P : Nat → α → Prop) {a b : ρ} (hb : l.length < 9223372036854775807)
    (h1 : ∀ (i : Nat) x, l[i]? = some x → i < l.length → f i = some (if P i x then .inl ((i : Int) + 1) else .inr a)) (h2 : f l.length = some (.inr b)) :
    loopM f 0 = some (if ∀ (i : Nat) x, l[i]? = some x → P i x then b else a) := by
  rw [loop_ix l (fun i x => if P i x then none else some a) b hb (fun i x hx hi => by rw [h1 i x hx hi]; split <;> rfl) h2]
  congr 1
  cases hf : l.zipIdx.findSome? (fun q => if P q.2 q.1 then none else some a) with
  | none =>
    rw [List.findSome?_eq_none_iff] at hf
    rw [if_pos]; · rfl
    intro i x hx
    have := hf (x, i) (by rw [List.mem_zipIdx_iff_getElem?]; simpa using hx)
    apply Classical.byContradiction
    intro hn
    simp [hn] at this
  | some r =>
    obtain ⟨q, hq, hr⟩ := List.exists_of_findSome?_eq_some hf
    rw [List.mem_zipIdx_iff_getElem?] at hq
    rw [if_neg]
    · split at hr
      · cases hr
      · simp only [Option.some.injEq] at hr; subst hr; rfl
    · intro hall
      have := hall q.2 q.1 (by simpa using hq)
      simp [this] at hr

abbrev Few {α : Type} (l : List α) : Prop := l.length ≤ 1000000
def inL {α : Type} (l : List α) (i : Int) : Prop := 0 ≤ i ∧ i < l.length
noncomputable def getI {α : Type} [Inhabited α] (l : List α) (i : Int) : α := (l[i.toNat]?).getD default
section
variable {α : Type} [Inhabited α] {l : List α} {i : Int}
theorem nth_getI (h : inL l i) : nth l i = some (getI l i) := by
  have h1 := h.1; have h2 := h.2
  have : i.toNat < l.length := by omega
  simp [nth, getI, h1, this]
theorem getI_nat {n : Nat} {x : α} (h : l[n]? = some x) : getI l n = x := by simp [getI, h]
theorem inL_nat {n : Nat} {x : α} (h : l[n]? = some x) : inL l n := ⟨by omega, by have := (List.getElem?_eq_some_iff.1 h).1; omega⟩
theorem getI_get? (h : inL l i) : l[i.toNat]? = some (getI l i) := (nth_out (nth_getI h)).2
end
def EachP {α : Type} [Inhabited α] (l : List α) (P : Int → α → Prop) : Prop := ∀ i, inL l i → P i (getI l i)
theorem eachP_nat {α : Type} [Inhabited α] {l : List α} {P : Int → α → Prop} : EachP l P ↔ ∀ (i : Nat) x, l[i]? = some x → P i x := by
  constructor
  · intro h i x hx
    have := h i (inL_nat hx)
    rwa [getI_nat hx] at this
  · intro h i hi
    have h1 := hi.1
    have := h i.toNat _ (getI_get? hi)
    rwa [show ((i.toNat : Nat) : Int) = i from by omega] at this
theorem loop_each {α ρ : Type} [Inhabited α] {f : Int → Option (Int ⊕ ρ)} (l : List α) (P : Int → α → Prop) (a b : ρ) (hb : Few l)
    (h1 : ∀ i : Int, 0 ≤ i → i < l.length → inL l i → f i = some (if P i (getI l i) then .inl (i + 1) else .inr a)) (h2 : f l.length = some (.inr b)) :
    loopM f 0 = if EachP l P then some b else some a := by
  rw [loop_all l (fun i x => P i x) (by unfold Few at hb; omega) (fun i x hx hi => by rw [h1 i (by omega) (by omega) (inL_nat hx), getI_nat hx]) h2]
  simp only [eachP_nat]
  split <;> rfl
/-! ### What is decided -/
section
variable {β γ : Type} {c p q : Prop}
theorem ite_cg {α : Type} {l : List α} {i : Int} [Decidable (inL l i)] {x y u v : β} (h2 : inL l i → x = u) (h3 : ¬ inL l i → y = v) : (if inL l i then x else y) = (if inL l i then u else v) := ite_congr rfl h2 h3
end
theorem loop_fold {α σ τ ρ : Type} {f : τ → Option (τ ⊕ ρ)} (l : List α) (st : σ → Int → τ) (g : Nat → α → σ → σ) (s0 : σ) {out : σ → ρ} (hb : l.length < 9223372036854775807) (I : Nat → σ → Prop) (h0 : I 0 s0)
    (h1 : ∀ (i : Nat) x s, l[i]? = some x → i < l.length → I i s → f (st s i) = some (.inl (st (g i x s) ((i : Int) + 1))) ∧ I (i + 1) (g i x s)) (h2 : ∀ s, I l.length s → f (st s l.length) = some (.inr (out s))) :
    loopM f (st s0 0) = some (out (l.zipIdx.foldl (fun s q => g q.2 q.1 s) s0)) := by
  let S : Nat → σ := fun i => (l.zipIdx.take i).foldl (fun s q => g q.2 q.1 s) s0
  have hS : ∀ i x, l[i]? = some x → S (i + 1) = g i x (S i) := by
    intro i x hx
    have hz : l.zipIdx[i]? = some (x, i) := by simp [hx]
    simp only [S]
    rw [List.take_add_one, hz]
    simp
  have hI : ∀ i, i ≤ l.length → I i (S i) := by
    intro i
    induction i with
    | zero => intro _; exact h0
    | succ i ih =>
      intro hi
      have hx : l[i]? = some l[i] := List.getElem?_eq_getElem (by omega)
      rw [hS i _ hx]
      exact (h1 i _ _ hx (by omega) (ih (by omega))).2
  have hend : S l.length = l.zipIdx.foldl (fun s q => g q.2 q.1 s) s0 := by
    simp only [S]
    rw [List.take_of_length_le (by simp)]
  have := loopM_trace (f := f) (fun i => st (S i) i) l.length (r := out (S l.length)) (by omega) (fun i hi => by
    have hx : l[i]? = some l[i] := List.getElem?_eq_getElem hi
    have := (h1 i _ (S i) hx hi (hI i (by omega))).1
    rw [← hS i _ hx] at this
    rw [this]; simp) (h2 _ (hI _ (Nat.le_refl _)))
  rw [hend] at this
  exact this

section
variable {α : Type} [Inhabited α] {l : List α} {P : α → Prop}
end

theorem roomy_few {α : Type} {l : List α} {b : Nat} (h : l.length ≤ 1000100) (hb : b ≤ 100000000 := by decide) : roomy b l = true := by
  unfold roomy
  have := Nat.mul_le_mul h hb
  exact decide_eq_true ⟨by omega, by omega⟩

noncomputable def gatherI {α β : Type} (l : List α) (P : Int → α → Prop) (e : Int → α → β) : List β := l.zipIdx.filterMap fun q => if P q.2 q.1 then some (e q.2 q.1) else none
section
variable {α β : Type} [Inhabited α] {l : List α} {P : Int → α → Prop} {e : Int → α → β}
end
theorem loop_gather {α β ρ : Type} [Inhabited α] {f : List β × Int → Option ((List β × Int) ⊕ ρ)} (l : List α) (P : Int → α → Prop) (e : Int → α → β) {out : List β → ρ} (hb : Few l)
    (h1 : ∀ (i : Int) (s : List β), 0 ≤ i → i < l.length → inL l i → s.length ≤ i → f (s, i) = some (.inl (if P i (getI l i) then s ++ [e i (getI l i)] else s, i + 1))) (h2 : ∀ s, f (s, l.length) = some (.inr (out s))) :
    loopM f ([], 0) = some (out (gatherI l P e)) := by
  have := loop_fold (f := f) l (fun s i => (s, i)) (fun i x s => if P i x then s ++ [e i x] else s) [] (out := out) (by unfold Few at hb; omega) (fun i s => s.length ≤ i) (by simp) (fun i x s hx hi hs => by
    have h := h1 i s (by omega) (by omega) (inL_nat hx) (by omega)
    rw [getI_nat hx] at h
    refine ⟨h, ?_⟩
    split
    · simp; omega
    · omega) (fun s _ => h2 s)
  have key : ∀ (q : List (α × Nat)) (s : List β), q.foldl (fun s q => if P q.2 q.1 then s ++ [e q.2 q.1] else s) s = s ++ q.filterMap fun q => if P q.2 q.1 then some (e q.2 q.1) else none := by
    intro q
    induction q with
    | nil => intro s; simp
    | cons a q ih =>
      intro s
      rw [List.foldl_cons, ih, List.filterMap_cons]
      by_cases h : P a.2 a.1 <;> simp [h]
  rw [this, key l.zipIdx []]
  rfl

section
variable {α : Type} [Inhabited α] {l : List α}
end
end Go.Eng

set_option linter.unusedVariables false
set_option linter.unusedSectionVars false
set_option linter.unusedSimpArgs false
namespace Go.Eng
open Go Classical
attribute [local congr] ite_cg
theorem seqB_dec {x y : ByteArray} : seqB x y = decide (x = y) := by
  unfold seqB
  rw [Bool.eq_iff_iff]
  simp only [beq_iff_eq, decide_eq_true_eq]
  constructor
  · intro h
    rw [ByteArray.toList_eq, ByteArray.toList_eq] at h
    obtain ⟨⟨x⟩⟩ := x
    obtain ⟨⟨y⟩⟩ := y
    simpa using h
  · intro h; rw [h]

end Go.Eng

set_option linter.unusedVariables false
set_option linter.unusedSectionVars false
set_option linter.unusedSimpArgs false
namespace Go.Eng
open Go

end Go.Eng
