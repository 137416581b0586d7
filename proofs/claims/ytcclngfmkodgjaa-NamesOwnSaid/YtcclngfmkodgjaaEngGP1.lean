/- Part of the proof of NamesOwn: plain laws of the printed mirrors. No conditions. -/
import Derived.Test.YtcclngfmkodgjaaEng14
import Derived.Test.YtcclngfmkodgjaaMAM
set_option linter.unusedVariables false
set_option linter.unusedSectionVars false
namespace Go.Eng
open Go Classical

theorem wr64 {n : Int} (h1 : -9223372036854775808 ≤ n) (h2 : n < 9223372036854775808) : wr_i64 n = n := by
  unfold wr_i64 IntKind.wrap
  simp [IntKind.signed, IntKind.bits]
  omega

theorem loopM_trace {σ ρ : Type} {f : σ → Option (σ ⊕ ρ)} (st : Nat → σ) (n : Nat) {r : ρ} (hb : n < 18446744073709551616) (h : ∀ i, i < n → f (st i) = some (.inl (st (i + 1)))) (hn : f (st n) = some (.inr r)) :
    loopM f (st 0) = some r := by
  have key : ∀ (k m i : Nat), i + k = n → k < m → iter f m (st i) = some r := by
    intro k
    induction k with
    | zero =>
      intro m i hi hm
      obtain ⟨m, rfl⟩ : ∃ q, m = q + 1 := ⟨m - 1, by omega⟩
      have : i = n := by omega
      subst this
      rw [iter_succ, hn]
    | succ k ih =>
      intro m i hi hm
      obtain ⟨m, rfl⟩ : ∃ q, m = q + 1 := ⟨m - 1, by omega⟩
      rw [iter_succ, h i (by omega)]
      exact ih m (i + 1) (by omega) (by omega)
  exact key n _ 0 (by omega) hb

theorem loop_ix {α ρ : Type} {f : Int → Option (Int ⊕ ρ)} (l : List α) (step : Nat → α → Option ρ) (last : ρ) (hb : l.length < 9223372036854775807)
    (h1 : ∀ (i : Nat) x, l[i]? = some x → i < l.length → f i = some (match step i x with | none => .inl ((i : Int) + 1) | some r => .inr r)) (h2 : f l.length = some (.inr last)) :
    loopM f 0 = some ((l.zipIdx.findSome? fun q => step q.2 q.1).getD last) := by
  have key : ∀ (r : List α) (k : Nat), l.drop k = r → k ≤ l.length → ∃ n, n ≤ l.length - k ∧ (∀ i, i < n → f ((k + i : Nat) : Int) = some (.inl ((k + (i + 1) : Nat) : Int))) ∧ f ((k + n : Nat) : Int) = some (.inr (((r.zipIdx k).findSome? fun q => step q.2 q.1).getD last)) := by
    intro r
    induction r with
    | nil =>
      intro k hk hle
      have : k = l.length := by
        have := congrArg List.length hk
        simp at this; omega
      subst this
      exact ⟨0, by omega, fun i hi => by omega, by simpa using h2⟩
    | cons x r ih =>
      intro k hk hle
      have hx : l[k]? = some x := by
        have := congrArg (fun q => q[0]?) hk
        simpa using this
      have hlt : k < l.length := (List.getElem?_eq_some_iff.1 hx).1
      have hs := h1 k x hx hlt
      cases hst : step k x with
      | some q =>
        rw [hst] at hs
        exact ⟨0, by omega, fun i hi => by omega, by simpa [List.zipIdx_cons, hst] using hs⟩
      | none =>
        rw [hst] at hs
        obtain ⟨n, hn, ha, hb⟩ := ih (k + 1) (by rw [← List.drop_drop, hk]; rfl) (by omega)
        refine ⟨n + 1, by omega, fun i hi => ?_, ?_⟩
        · cases i with
          | zero => simpa using hs
          | succ i =>
            have := ha i (by omega)
            rw [show k + (i + 1) = k + 1 + i from by omega, show k + (i + 1 + 1) = k + 1 + (i + 1) from by omega]; exact this
        · rw [show k + (n + 1) = k + 1 + n from by omega, hb]
          simp [List.zipIdx_cons, hst]
  obtain ⟨n, hn, ha, hb'⟩ := key l 0 rfl (by omega)
  simp only [Nat.zero_add] at ha hb'
  exact loopM_trace (fun i => (i : Int)) n (by omega) ha hb'

theorem loop_all {α ρ : Type} {f : Int → Option (Int ⊕ ρ)} (l : List α) (P : Nat → α → Prop) {a b : ρ} (hb : l.length < 9223372036854775807)
    (h1 : ∀ (i : Nat) x, l[i]? = some x → i < l.length → f i = some (if P i x then .inl ((i : Int) + 1) else .inr a)) (h2 : f l.length = some (.inr b)) :
    loopM f 0 = some (if ∀ (i : Nat) x, l[i]? = some x → P i x then b else a) := by
  rw [loop_ix l (fun i x => if P i x then none else some a) b hb (fun i x hx hi => by rw [h1 i x hx hi]; split <;> rfl) h2]
  congr 1
  cases hf : l.zipIdx.findSome? (fun q => if P q.2 q.1 then none else some a) with
  | none =>
    rw [List.findSome?_eq_none_iff] at hf
    rw [if_pos]; · rfl
    intro i x hx
    have := hf (x, i) (by rw [List.mem_zipIdx_iff_getElem?]; simpa using hx)
    apply Classical.byContradiction
    intro hn
    simp [hn] at this
  | some r =>
    obtain ⟨q, hq, hr⟩ := List.exists_of_findSome?_eq_some hf
    rw [List.mem_zipIdx_iff_getElem?] at hq
    rw [if_neg]
    · split at hr
      · cases hr
      · simp only [Option.some.injEq] at hr; subst hr; rfl
    · intro hall
      have := hall q.2 q.1 (by simpa using hq)
      simp [this] at hr

abbrev Few {α : Type} (l : List α) : Prop := l.length ≤ 1000000
theorem few_of {α : Type} {l : List α} {k : Nat} (h : l.length ≤ k) (hk : k ≤ 1000000 := by decide) : Few l := by unfold Few; omega
def inL {α : Type} (l : List α) (i : Int) : Prop := 0 ≤ i ∧ i < l.length
noncomputable def getI {α : Type} [Inhabited α] (l : List α) (i : Int) : α := (l[i.toNat]?).getD default
section
variable {α : Type} [Inhabited α] {l : List α} {i : Int}
theorem nth_getI (h : inL l i) : nth l i = some (getI l i) := by
  have h1 := h.1; have h2 := h.2
  have : i.toNat < l.length := by omega
  simp [nth, getI, h1, this]
theorem getI_nat {n : Nat} {x : α} (h : l[n]? = some x) : getI l n = x := by simp [getI, h]
theorem inL_nat {n : Nat} {x : α} (h : l[n]? = some x) : inL l n := ⟨by omega, by have := (List.getElem?_eq_some_iff.1 h).1; omega⟩
theorem getI_get? (h : inL l i) : l[i.toNat]? = some (getI l i) := (nth_out (nth_getI h)).2
theorem getI_mem (h : inL l i) : getI l i ∈ l := List.mem_of_getElem? (getI_get? h)
end
def EachP {α : Type} [Inhabited α] (l : List α) (P : Int → α → Prop) : Prop := ∀ i, inL l i → P i (getI l i)
theorem eachP_nat {α : Type} [Inhabited α] {l : List α} {P : Int → α → Prop} : EachP l P ↔ ∀ (i : Nat) x, l[i]? = some x → P i x := by
  constructor
  · intro h i x hx
    have := h i (inL_nat hx)
    rwa [getI_nat hx] at this
  · intro h i hi
    have h1 := hi.1
    have := h i.toNat _ (getI_get? hi)
    rwa [show ((i.toNat : Nat) : Int) = i from by omega] at this
theorem loop_each {α ρ : Type} [Inhabited α] {f : Int → Option (Int ⊕ ρ)} (l : List α) (P : Int → α → Prop) (a b : ρ) (hb : Few l)
    (h1 : ∀ i : Int, 0 ≤ i → i < l.length → inL l i → f i = some (if P i (getI l i) then .inl (i + 1) else .inr a)) (h2 : f l.length = some (.inr b)) :
    loopM f 0 = if EachP l P then some b else some a := by
  rw [loop_all l (fun i x => P i x) (by unfold Few at hb; omega) (fun i x hx hi => by rw [h1 i (by omega) (by omega) (inL_nat hx), getI_nat hx]) h2]
  simp only [eachP_nat]
  split <;> rfl
theorem eachP_mem {α : Type} [Inhabited α] {l : List α} {P : α → Prop} : EachP l (fun _ x => P x) ↔ ∀ x ∈ l, P x := by
  rw [eachP_nat]
  constructor
  · intro h v hv
    obtain ⟨i, hi⟩ := List.getElem?_of_mem hv
    exact h i v hi
  · intro h i x hx
    exact h x (List.mem_of_getElem? hx)

/-! ### What is decided -/
section
variable {β γ : Type} {c p q : Prop}
theorem bind_ite [Decidable c] {x y : Option β} {k : β → Option γ} : (if c then x else y).bind k = if c then x.bind k else y.bind k := by split <;> rfl
theorem dif1 [Decidable c] [Decidable p] : (if c then some (decide p) else some false) = some (decide (c ∧ p)) := by by_cases c <;> simp [*]
theorem dif2 [Decidable c] [Decidable p] : (if c then some true else some (decide p)) = some (decide (c ∨ p)) := by by_cases c <;> simp [*]
theorem dif3 [Decidable c] [Decidable p] : (if c then some false else some (decide p)) = some (decide (¬ c ∧ p)) := by by_cases c <;> simp [*]
theorem dif4 [Decidable c] [Decidable p] : (if c then some (decide p) else some true) = some (decide (c → p)) := by by_cases c <;> simp [*]
theorem dif5 [Decidable c] [Decidable p] [Decidable q] : (if c then some (decide p) else some (decide q)) = some (decide ((c → p) ∧ (¬ c → q))) := by by_cases c <;> simp [*]
theorem dif6 [Decidable c] : (if c then some true else some false) = some (decide c) := by by_cases c <;> simp [*]
theorem dif7 [Decidable c] : (if c then some false else some true) = some (decide ¬ c) := by by_cases c <;> simp [*]
theorem dnot [Decidable p] : (!decide p) = decide (¬ p) := by simp
theorem ibeq {x y : Int} : (x == y) = decide (x = y) := by rw [Bool.eq_iff_iff]; simp
theorem ibne {x y : Int} : (x != y) = decide (x ≠ y) := by rw [Bool.eq_iff_iff]; simp
theorem sdec {_ : Decidable p} {_ : Decidable q} (h : p ↔ q) : some (decide p) = some (decide q) := by simp [h]
theorem if_not2 [Decidable p] [Decidable (¬ p)] {x y : β} : (if ¬ p then x else y) = if p then y else x := by by_cases p <;> simp [*]
theorem mrg1 [Decidable c] [Decidable p] {x y : β} : (if c then (if p then x else y) else y) = if c ∧ p then x else y := by by_cases c <;> simp [*]
theorem mrg2 [Decidable c] [Decidable p] {x y : β} : (if c then y else (if p then x else y)) = if ¬ c ∧ p then x else y := by by_cases c <;> simp [*]
theorem mrg3 [Decidable c] [Decidable p] {x y : β} : (if c then x else (if p then x else y)) = if c ∨ p then x else y := by by_cases c <;> simp [*]
theorem mrg4 [Decidable c] [Decidable p] {x y : β} : (if c then (if p then x else y) else x) = if c → p then x else y := by by_cases c <;> simp [*]
theorem mrg5 [Decidable c] {x : β} : (if c then x else x) = x := by simp
theorem mrg6 [Decidable c] [Decidable p] [Decidable q] {x y : β} : (if c then (if p then x else y) else (if q then x else y)) = if (c → p) ∧ (¬ c → q) then x else y := by by_cases c <;> simp [*]
theorem mrg7 [Decidable c] [Decidable p] [Decidable q] {x y : β} : (if c then (if p then x else y) else (if q then y else x)) = if (c → p) ∧ (¬ c → ¬ q) then x else y := by by_cases c <;> by_cases q <;> simp [*]
theorem fpos {_ : Decidable p} {_ : Decidable q} {x y : β} (h : q ↔ p) : (if q then some x else some y) = some (if p then x else y) := by by_cases p <;> simp [*]
theorem fneg {_ : Decidable p} {_ : Decidable q} {x y : β} (h : q ↔ ¬ p) : (if q then some y else some x) = some (if p then x else y) := by by_cases p <;> simp [*]
theorem ite_cg {α : Type} {l : List α} {i : Int} [Decidable (inL l i)] {x y u v : β} (h2 : inL l i → x = u) (h3 : ¬ inL l i → y = v) : (if inL l i then x else y) = (if inL l i then u else v) := ite_congr rfl h2 h3
end
def ixI : Option Nat → Int | some i => i | none => -1
noncomputable def fstI {α : Type} (l : List α) (P : α → Prop) : Int := ixI (l.findIdx? fun x => decide (P x))
section
variable {α : Type} [Inhabited α] {l : List α} {P : α → Prop}
theorem fstI_ge : -1 ≤ fstI l P := by unfold fstI ixI; split <;> omega
theorem fst_ret : (if 0 ≤ fstI l P then some (fstI l P) else some (-1)) = some (fstI l P) := by
  split
  · rfl
  · have := fstI_ge (l := l) (P := P)
    congr 1; omega
end

theorem roomy_few {α : Type} {l : List α} {b : Nat} (h : l.length ≤ 1000100) (hb : b ≤ 100000000 := by decide) : roomy b l = true := by
  unfold roomy
  have := Nat.mul_le_mul h hb
  exact decide_eq_true ⟨by omega, by omega⟩

section
variable {α β : Type} [Inhabited α] {l : List α} {P : Int → α → Prop} {e : Int → α → β}
end
theorem lin_dec {α : Type} {l : List α} {i : Int} : lin l i = decide (inL l i) := by unfold lin inL; exact decide_eq_decide.2 Iff.rfl
section
variable {α : Type} [Inhabited α] {l : List α}
end
end Go.Eng

set_option linter.unusedVariables false
set_option linter.unusedSectionVars false
set_option linter.unusedSimpArgs false
namespace Go.Eng
open Go Classical
attribute [local congr] ite_cg

/-! ### The net -/
structure SmN (n : Api_Net) : Prop where
  devices : Few n.devices
  ports : Few n.ports
  links : Few n.links
  domains : Few n.domains
  statics : Few n.statics
  floods : Few n.floods
  vrfs : Few n.vrfs
  irbs : Few n.irbs
  tagged : ∀ p ∈ n.ports, Few p.tagged
  peers : ∀ d ∈ n.domains, Few d.peers
  addrs : ∀ f ∈ n.floods, Few f.addrs
  imports : ∀ v ∈ n.vrfs, Few v.imports
  exports : ∀ v ∈ n.vrfs, Few v.exports

section
variable {n : Api_Net}
structure BndN (n : Api_Net) (a b : Nat) : Prop where
  devices : n.devices.length ≤ a
  ports : n.ports.length ≤ a
  links : n.links.length ≤ a
  domains : n.domains.length ≤ a
  statics : n.statics.length ≤ a
  floods : n.floods.length ≤ a
  vrfs : n.vrfs.length ≤ a
  irbs : n.irbs.length ≤ a
  tagged : ∀ p ∈ n.ports, p.tagged.length ≤ b
  peers : ∀ d ∈ n.domains, d.peers.length ≤ b
  addrs : ∀ f ∈ n.floods, f.addrs.length ≤ b
  imports : ∀ v ∈ n.vrfs, v.imports.length ≤ b
  exports : ∀ v ∈ n.vrfs, v.exports.length ≤ b
theorem BndN.sm {a b : Nat} (h : BndN n a b) (ha : a ≤ 1000000 := by decide) (hb : b ≤ 1000000 := by decide) : SmN n :=
  ⟨few_of h.devices ha, few_of h.ports ha, few_of h.links ha, few_of h.domains ha, few_of h.statics ha, few_of h.floods ha, few_of h.vrfs ha, few_of h.irbs ha,
    fun p q => few_of (h.tagged p q) hb, fun p q => few_of (h.peers p q) hb, fun p q => few_of (h.addrs p q) hb, fun p q => few_of (h.imports p q) hb, fun p q => few_of (h.exports p q) hb⟩
theorem Great_spec : palinglaw15_Great n = some (decide (¬ BndN n 200 100)) := by
  unfold palinglaw15_Great
  simp only [bind_ite, Option.bind_some, dif1, dif2, dif3, dif4, dif5, dif6, dif7, dnot, ibeq, ibne, decide_eq_true_eq, if_not2, ge_iff_le, gt_iff_lt, fst_ret, Bool.false_eq_true, decide_false]
  by_cases h1 : (200 : Int) < n.devices.length
  · have : ¬ BndN n 200 100 := fun h => by have := h.devices; omega
    simp [h1, this]
  by_cases h2 : (200 : Int) < n.ports.length
  · have : ¬ BndN n 200 100 := fun h => by have := h.ports; omega
    simp [h1, h2, this]
  by_cases h3 : (200 : Int) < n.links.length
  · have : ¬ BndN n 200 100 := fun h => by have := h.links; omega
    simp [h1, h2, h3, this]
  by_cases h4 : (200 : Int) < n.domains.length
  · have : ¬ BndN n 200 100 := fun h => by have := h.domains; omega
    simp [h1, h2, h3, h4, this]
  by_cases h5 : (200 : Int) < n.statics.length
  · have : ¬ BndN n 200 100 := fun h => by have := h.statics; omega
    simp [h1, h2, h3, h4, h5, this]
  by_cases h6 : (200 : Int) < n.floods.length
  · have : ¬ BndN n 200 100 := fun h => by have := h.floods; omega
    simp [h1, h2, h3, h4, h5, h6, this]
  by_cases h7 : (200 : Int) < n.vrfs.length
  · have : ¬ BndN n 200 100 := fun h => by have := h.vrfs; omega
    simp [h1, h2, h3, h4, h5, h6, h7, this]
  by_cases h8 : (200 : Int) < n.irbs.length
  · have : ¬ BndN n 200 100 := fun h => by have := h.irbs; omega
    simp [h1, h2, h3, h4, h5, h6, h7, h8, this]
  simp only [h1, h2, h3, h4, h5, h6, h7, h8, if_false]
  rw [loop_each n.ports (fun _ p => ¬ 100 < (p.tagged.length : Int)) (.inl ()) (.inr ()) (by omega) (fun i g0 g1 g2 => by
    simp (disch := omega) only [palinglaw15_Great_L1, g1, nth_getI g2, wr64, bind_ite, Option.bind_some, dif1, dif2, dif3, dif4, dif5, dif6, dif7, dnot, ibeq, ibne, decide_eq_true_eq, if_not2, ge_iff_le, gt_iff_lt, fst_ret, Bool.false_eq_true, decide_false, decide_true, if_true]; split <;> rfl) (by simp [palinglaw15_Great_L1]),
   loop_each n.domains (fun _ p => ¬ 100 < (p.peers.length : Int)) (.inl ()) (.inr ()) (by omega) (fun i g0 g1 g2 => by
    simp (disch := omega) only [palinglaw15_Great_L2, g1, nth_getI g2, wr64, bind_ite, Option.bind_some, dif1, dif2, dif3, dif4, dif5, dif6, dif7, dnot, ibeq, ibne, decide_eq_true_eq, if_not2, ge_iff_le, gt_iff_lt, fst_ret, Bool.false_eq_true, decide_false, decide_true, if_true]; split <;> rfl) (by simp [palinglaw15_Great_L2]),
   loop_each n.floods (fun _ p => ¬ 100 < (p.addrs.length : Int)) (.inl ()) (.inr ()) (by omega) (fun i g0 g1 g2 => by
    simp (disch := omega) only [palinglaw15_Great_L3, g1, nth_getI g2, wr64, bind_ite, Option.bind_some, dif1, dif2, dif3, dif4, dif5, dif6, dif7, dnot, ibeq, ibne, decide_eq_true_eq, if_not2, ge_iff_le, gt_iff_lt, fst_ret, Bool.false_eq_true, decide_false, decide_true, if_true]; split <;> rfl) (by simp [palinglaw15_Great_L3]),
   loop_each n.vrfs (fun _ p => ¬ 100 < (p.imports.length : Int) ∧ ¬ 100 < (p.exports.length : Int)) (.inl ()) (.inr ()) (by omega) (fun i g0 g1 g2 => by
    simp (disch := omega) only [palinglaw15_Great_L4, g1, nth_getI g2, wr64, bind_ite, Option.bind_some, dif1, dif2, dif3, dif4, dif5, dif6, dif7, dnot, ibeq, ibne, decide_eq_true_eq, if_not2, ge_iff_le, gt_iff_lt, fst_ret, Bool.false_eq_true, decide_false, decide_true, if_true]; grind) (by simp [palinglaw15_Great_L4])]
  simp only [bind_ite, Option.bind_some, dif1, dif2, dif3, dif4, dif5, dif6, dif7, dnot, ibeq, ibne, decide_eq_true_eq, if_not2, ge_iff_le, gt_iff_lt, fst_ret, Bool.false_eq_true, decide_false, eachP_mem]
  refine sdec ?_
  constructor
  · intro h hb
    have := hb.tagged; have := hb.peers; have := hb.addrs; have := hb.imports; have := hb.exports
    grind
  · intro h
    apply Classical.byContradiction
    intro hn
    refine h ⟨by omega, by omega, by omega, by omega, by omega, by omega, by omega, by omega, ?_, ?_, ?_, ?_, ?_⟩ <;> grind
end

end Go.Eng

set_option linter.unusedVariables false
set_option linter.unusedSectionVars false
set_option linter.unusedSimpArgs false
namespace Go.Eng
open Go Classical
attribute [local congr] ite_cg
theorem seqB_dec {x y : ByteArray} : seqB x y = decide (x = y) := by
  unfold seqB
  rw [Bool.eq_iff_iff]
  simp only [beq_iff_eq, decide_eq_true_eq]
  constructor
  · intro h
    rw [ByteArray.toList_eq, ByteArray.toList_eq] at h
    obtain ⟨⟨x⟩⟩ := x
    obtain ⟨⟨y⟩⟩ := y
    simpa using h
  · intro h; rw [h]

theorem list_eqI {α : Type} [Inhabited α] {l r : List α} : l = r ↔ l.length = r.length ∧ EachP l (fun i x => x = getI r i) := by
  constructor
  · intro h; subst h; exact ⟨rfl, fun i hi => rfl⟩
  · rintro ⟨h, he⟩
    apply List.ext_getElem h
    intro i h1 h2
    have := he i ⟨by omega, by omega⟩
    rwa [getI_nat (List.getElem?_eq_getElem h1), getI_nat (List.getElem?_eq_getElem h2)] at this
theorem loop_eq {α : Type} [Inhabited α] {f : Int → Option (Int ⊕ (Unit ⊕ Unit))} (l r : List α) (hl : l.length = r.length) (hb : Few l)
    (h1 : ∀ i : Int, 0 ≤ i → i < l.length → inL l i → inL r i → f i = some (if getI l i = getI r i then .inl (i + 1) else .inr (.inl ()))) (h2 : f l.length = some (.inr (.inr ()))) :
    loopM f 0 = if l = r then some (.inr ()) else some (.inl ()) := by
  rw [loop_each l (fun i x => x = getI r i) (.inl ()) (.inr ()) hb (fun i a b c => h1 i a b c ⟨a, by omega⟩) h2]
  simp only [list_eqI, hl, true_and]
end Go.Eng

set_option linter.unusedVariables false
set_option linter.unusedSectionVars false
set_option linter.unusedSimpArgs false
namespace Go.Eng
open Go Classical
attribute [local congr] ite_cg
theorem eqDevice_dec {x y : Api_Device} : eq_Api_Device x y = decide (x = y) := by
  unfold eq_Api_Device; rw [seqB_dec, Bool.eq_iff_iff]; cases x; cases y; simp
theorem eqLink_dec {x y : Api_Link} : eq_Api_Link x y = decide (x = y) := by
  unfold eq_Api_Link; rw [Bool.eq_iff_iff]; cases x; cases y; simp
theorem eqStatic_dec {x y : Api_Static} : eq_Api_Static x y = decide (x = y) := by
  unfold eq_Api_Static; rw [Bool.eq_iff_iff]; cases x; cases y; simp
theorem eqPrefix_dec {x y : Api_Prefix} : eq_Api_Prefix x y = decide (x = y) := by
  unfold eq_Api_Prefix; rw [Bool.eq_iff_iff]; cases x; cases y; simp
theorem eqIrb_dec {x y : Api_Irb} : eq_Api_Irb x y = decide (x = y) := by
  unfold eq_Api_Irb; rw [eqPrefix_dec, Bool.eq_iff_iff]; cases x; cases y; simp
theorem port_eq {x y : Api_Port} : x = y ↔ x.row = y.row ∧ x.dev = y.dev ∧ x.native = y.native ∧ x.cost = y.cost ∧ x.link = y.link ∧ x.name = y.name ∧ x.tagged = y.tagged := by cases x; cases y; simp
theorem domain_eq {x y : Api_Domain} : x = y ↔ x.dev = y.dev ∧ x.vlan = y.vlan ∧ x.vni = y.vni ∧ x.irb = y.irb ∧ x.row = y.row ∧ x.peers = y.peers := by cases x; cases y; simp
theorem flood_eq {x y : Api_Flood} : x = y ↔ x.row = y.row ∧ x.dev = y.dev ∧ x.vni = y.vni ∧ x.addrs = y.addrs := by cases x; cases y; simp
theorem vrf_eq {x y : Api_Vrf} : x = y ↔ x.row = y.row ∧ x.dev = y.dev ∧ x.name = y.name ∧ x.imports = y.imports ∧ x.exports = y.exports := by cases x; cases y; simp
theorem net_eq {x y : Api_Net} : x = y ↔ x.devices = y.devices ∧ x.ports = y.ports ∧ x.links = y.links ∧ x.domains = y.domains ∧ x.statics = y.statics ∧ x.floods = y.floods ∧ x.vrfs = y.vrfs ∧ x.irbs = y.irbs := by cases x; cases y; simp

section
theorem Equal_Device_spec {l r : List Api_Device} (hb : Few l) : slices_Equal_Device l r = some (decide (l = r)) := by
  by_cases hl : l.length = r.length
  · have hli : ¬ ((l.length : Int) ≠ (r.length : Int)) := by omega
    simp only [slices_Equal_Device, ibne, decide_eq_true_eq, if_neg hli]
    rw [loop_eq l r hl hb (fun i h0 h1 h2 h3 => by
      simp (disch := omega) only [slices_Equal_Device_L1, h1, nth_getI h2, nth_getI h3, eqDevice_dec, wr64, bind_ite, Option.bind_some, dif1, dif2, dif3, dif4, dif5, dif6, dif7, dnot, ibeq, ibne, decide_eq_true_eq, if_not2, ge_iff_le, gt_iff_lt, fst_ret, Bool.false_eq_true, decide_false, mrg1, mrg2, mrg3, mrg4, mrg5, mrg6, mrg7, decide_true, if_true]; exact fpos Iff.rfl) (by simp [slices_Equal_Device_L1])]
    simp only [bind_ite, Option.bind_some, dif1, dif2, dif3, dif4, dif5, dif6, dif7, dnot, ibeq, ibne, decide_eq_true_eq, if_not2, ge_iff_le, gt_iff_lt, fst_ret, Bool.false_eq_true, decide_false]
  · have hli : ((l.length : Int) ≠ (r.length : Int)) := by omega
    have : ¬ l = r := fun e => hl (by rw [e])
    simp [slices_Equal_Device, hli, this]
theorem Equal_Link_spec {l r : List Api_Link} (hb : Few l) : slices_Equal_Link l r = some (decide (l = r)) := by
  by_cases hl : l.length = r.length
  · have hli : ¬ ((l.length : Int) ≠ (r.length : Int)) := by omega
    simp only [slices_Equal_Link, ibne, decide_eq_true_eq, if_neg hli]
    rw [loop_eq l r hl hb (fun i h0 h1 h2 h3 => by
      simp (disch := omega) only [slices_Equal_Link_L1, h1, nth_getI h2, nth_getI h3, eqLink_dec, wr64, bind_ite, Option.bind_some, dif1, dif2, dif3, dif4, dif5, dif6, dif7, dnot, ibeq, ibne, decide_eq_true_eq, if_not2, ge_iff_le, gt_iff_lt, fst_ret, Bool.false_eq_true, decide_false, mrg1, mrg2, mrg3, mrg4, mrg5, mrg6, mrg7, decide_true, if_true]; exact fpos Iff.rfl) (by simp [slices_Equal_Link_L1])]
    simp only [bind_ite, Option.bind_some, dif1, dif2, dif3, dif4, dif5, dif6, dif7, dnot, ibeq, ibne, decide_eq_true_eq, if_not2, ge_iff_le, gt_iff_lt, fst_ret, Bool.false_eq_true, decide_false]
  · have hli : ((l.length : Int) ≠ (r.length : Int)) := by omega
    have : ¬ l = r := fun e => hl (by rw [e])
    simp [slices_Equal_Link, hli, this]
theorem Equal_Static_spec {l r : List Api_Static} (hb : Few l) : slices_Equal_Static l r = some (decide (l = r)) := by
  by_cases hl : l.length = r.length
  · have hli : ¬ ((l.length : Int) ≠ (r.length : Int)) := by omega
    simp only [slices_Equal_Static, ibne, decide_eq_true_eq, if_neg hli]
    rw [loop_eq l r hl hb (fun i h0 h1 h2 h3 => by
      simp (disch := omega) only [slices_Equal_Static_L1, h1, nth_getI h2, nth_getI h3, eqStatic_dec, wr64, bind_ite, Option.bind_some, dif1, dif2, dif3, dif4, dif5, dif6, dif7, dnot, ibeq, ibne, decide_eq_true_eq, if_not2, ge_iff_le, gt_iff_lt, fst_ret, Bool.false_eq_true, decide_false, mrg1, mrg2, mrg3, mrg4, mrg5, mrg6, mrg7, decide_true, if_true]; exact fpos Iff.rfl) (by simp [slices_Equal_Static_L1])]
    simp only [bind_ite, Option.bind_some, dif1, dif2, dif3, dif4, dif5, dif6, dif7, dnot, ibeq, ibne, decide_eq_true_eq, if_not2, ge_iff_le, gt_iff_lt, fst_ret, Bool.false_eq_true, decide_false]
  · have hli : ((l.length : Int) ≠ (r.length : Int)) := by omega
    have : ¬ l = r := fun e => hl (by rw [e])
    simp [slices_Equal_Static, hli, this]
theorem Equal_Irb_spec {l r : List Api_Irb} (hb : Few l) : slices_Equal_Irb l r = some (decide (l = r)) := by
  by_cases hl : l.length = r.length
  · have hli : ¬ ((l.length : Int) ≠ (r.length : Int)) := by omega
    simp only [slices_Equal_Irb, ibne, decide_eq_true_eq, if_neg hli]
    rw [loop_eq l r hl hb (fun i h0 h1 h2 h3 => by
      simp (disch := omega) only [slices_Equal_Irb_L1, h1, nth_getI h2, nth_getI h3, eqIrb_dec, wr64, bind_ite, Option.bind_some, dif1, dif2, dif3, dif4, dif5, dif6, dif7, dnot, ibeq, ibne, decide_eq_true_eq, if_not2, ge_iff_le, gt_iff_lt, fst_ret, Bool.false_eq_true, decide_false, mrg1, mrg2, mrg3, mrg4, mrg5, mrg6, mrg7, decide_true, if_true]; exact fpos Iff.rfl) (by simp [slices_Equal_Irb_L1])]
    simp only [bind_ite, Option.bind_some, dif1, dif2, dif3, dif4, dif5, dif6, dif7, dnot, ibeq, ibne, decide_eq_true_eq, if_not2, ge_iff_le, gt_iff_lt, fst_ret, Bool.false_eq_true, decide_false]
  · have hli : ((l.length : Int) ≠ (r.length : Int)) := by omega
    have : ¬ l = r := fun e => hl (by rw [e])
    simp [slices_Equal_Irb, hli, this]
theorem Equal_int_spec {l r : List Int} (hb : Few l) : slices_Equal_int l r = some (decide (l = r)) := by
  by_cases hl : l.length = r.length
  · have hli : ¬ ((l.length : Int) ≠ (r.length : Int)) := by omega
    simp only [slices_Equal_int, ibne, decide_eq_true_eq, if_neg hli]
    rw [loop_eq l r hl hb (fun i h0 h1 h2 h3 => by
      simp (disch := omega) only [slices_Equal_int_L1, h1, nth_getI h2, nth_getI h3, wr64, bind_ite, Option.bind_some, dif1, dif2, dif3, dif4, dif5, dif6, dif7, dnot, ibeq, ibne, decide_eq_true_eq, if_not2, ge_iff_le, gt_iff_lt, fst_ret, Bool.false_eq_true, decide_false, mrg1, mrg2, mrg3, mrg4, mrg5, mrg6, mrg7, decide_true, if_true]; exact fpos Iff.rfl) (by simp [slices_Equal_int_L1])]
    simp only [bind_ite, Option.bind_some, dif1, dif2, dif3, dif4, dif5, dif6, dif7, dnot, ibeq, ibne, decide_eq_true_eq, if_not2, ge_iff_le, gt_iff_lt, fst_ret, Bool.false_eq_true, decide_false]
  · have hli : ((l.length : Int) ≠ (r.length : Int)) := by omega
    have : ¬ l = r := fun e => hl (by rw [e])
    simp [slices_Equal_int, hli, this]
theorem Equal_uint32_spec {l r : List Int} (hb : Few l) : slices_Equal_uint32 l r = some (decide (l = r)) := by
  by_cases hl : l.length = r.length
  · have hli : ¬ ((l.length : Int) ≠ (r.length : Int)) := by omega
    simp only [slices_Equal_uint32, ibne, decide_eq_true_eq, if_neg hli]
    rw [loop_eq l r hl hb (fun i h0 h1 h2 h3 => by
      simp (disch := omega) only [slices_Equal_uint32_L1, h1, nth_getI h2, nth_getI h3, wr64, bind_ite, Option.bind_some, dif1, dif2, dif3, dif4, dif5, dif6, dif7, dnot, ibeq, ibne, decide_eq_true_eq, if_not2, ge_iff_le, gt_iff_lt, fst_ret, Bool.false_eq_true, decide_false, mrg1, mrg2, mrg3, mrg4, mrg5, mrg6, mrg7, decide_true, if_true]; exact fpos Iff.rfl) (by simp [slices_Equal_uint32_L1])]
    simp only [bind_ite, Option.bind_some, dif1, dif2, dif3, dif4, dif5, dif6, dif7, dnot, ibeq, ibne, decide_eq_true_eq, if_not2, ge_iff_le, gt_iff_lt, fst_ret, Bool.false_eq_true, decide_false]
  · have hli : ((l.length : Int) ≠ (r.length : Int)) := by omega
    have : ¬ l = r := fun e => hl (by rw [e])
    simp [slices_Equal_uint32, hli, this]
theorem EF_Port_spec {l r : List Api_Port} (hb : Few l) (ht : ∀ p ∈ l, Few p.tagged) : slices_EqualFunc_Port_Same_1 l r = some (decide (l = r)) := by
  by_cases hl : l.length = r.length
  · have hli : ¬ ((l.length : Int) ≠ (r.length : Int)) := by omega
    simp only [slices_EqualFunc_Port_Same_1, ibne, decide_eq_true_eq, if_neg hli]
    rw [loop_eq l r hl hb (fun i h0 h1 h2 h3 => by
      simp (disch := omega) only [slices_EqualFunc_Port_Same_1_L1, names_Same_1, h1, nth_getI h2, nth_getI h3, seqB_dec, Equal_int_spec (ht _ (getI_mem h2)), wr64, bind_ite, Option.bind_some, dif1, dif2, dif3, dif4, dif5, dif6, dif7, dnot, ibeq, ibne, decide_eq_true_eq, if_not2, ge_iff_le, gt_iff_lt, fst_ret, Bool.false_eq_true, decide_false, mrg1, mrg2, mrg3, mrg4, mrg5, mrg6, mrg7, decide_true, if_true]; rw [port_eq]; first | (refine fpos ?_; grind) | (refine fneg ?_; grind)) (by simp [slices_EqualFunc_Port_Same_1_L1])]
    simp only [bind_ite, Option.bind_some, dif1, dif2, dif3, dif4, dif5, dif6, dif7, dnot, ibeq, ibne, decide_eq_true_eq, if_not2, ge_iff_le, gt_iff_lt, fst_ret, Bool.false_eq_true, decide_false]
  · have hli : ((l.length : Int) ≠ (r.length : Int)) := by omega
    have : ¬ l = r := fun e => hl (by rw [e])
    simp [slices_EqualFunc_Port_Same_1, hli, this]
theorem EF_Domain_spec {l r : List Api_Domain} (hb : Few l) (ht : ∀ p ∈ l, Few p.peers) : slices_EqualFunc_Domain_Same_2 l r = some (decide (l = r)) := by
  by_cases hl : l.length = r.length
  · have hli : ¬ ((l.length : Int) ≠ (r.length : Int)) := by omega
    simp only [slices_EqualFunc_Domain_Same_2, ibne, decide_eq_true_eq, if_neg hli]
    rw [loop_eq l r hl hb (fun i h0 h1 h2 h3 => by
      simp (disch := omega) only [slices_EqualFunc_Domain_Same_2_L1, names_Same_2, h1, nth_getI h2, nth_getI h3, Equal_int_spec (ht _ (getI_mem h2)), wr64, bind_ite, Option.bind_some, dif1, dif2, dif3, dif4, dif5, dif6, dif7, dnot, ibeq, ibne, decide_eq_true_eq, if_not2, ge_iff_le, gt_iff_lt, fst_ret, Bool.false_eq_true, decide_false, mrg1, mrg2, mrg3, mrg4, mrg5, mrg6, mrg7, decide_true, if_true]; rw [domain_eq]; first | (refine fpos ?_; grind) | (refine fneg ?_; grind)) (by simp [slices_EqualFunc_Domain_Same_2_L1])]
    simp only [bind_ite, Option.bind_some, dif1, dif2, dif3, dif4, dif5, dif6, dif7, dnot, ibeq, ibne, decide_eq_true_eq, if_not2, ge_iff_le, gt_iff_lt, fst_ret, Bool.false_eq_true, decide_false]
  · have hli : ((l.length : Int) ≠ (r.length : Int)) := by omega
    have : ¬ l = r := fun e => hl (by rw [e])
    simp [slices_EqualFunc_Domain_Same_2, hli, this]
theorem EF_Flood_spec {l r : List Api_Flood} (hb : Few l) (ht : ∀ p ∈ l, Few p.addrs) : slices_EqualFunc_Flood_Same_3 l r = some (decide (l = r)) := by
  by_cases hl : l.length = r.length
  · have hli : ¬ ((l.length : Int) ≠ (r.length : Int)) := by omega
    simp only [slices_EqualFunc_Flood_Same_3, ibne, decide_eq_true_eq, if_neg hli]
    rw [loop_eq l r hl hb (fun i h0 h1 h2 h3 => by
      simp (disch := omega) only [slices_EqualFunc_Flood_Same_3_L1, names_Same_3, h1, nth_getI h2, nth_getI h3, Equal_uint32_spec (ht _ (getI_mem h2)), wr64, bind_ite, Option.bind_some, dif1, dif2, dif3, dif4, dif5, dif6, dif7, dnot, ibeq, ibne, decide_eq_true_eq, if_not2, ge_iff_le, gt_iff_lt, fst_ret, Bool.false_eq_true, decide_false, mrg1, mrg2, mrg3, mrg4, mrg5, mrg6, mrg7, decide_true, if_true]; rw [flood_eq]; first | (refine fpos ?_; grind) | (refine fneg ?_; grind)) (by simp [slices_EqualFunc_Flood_Same_3_L1])]
    simp only [bind_ite, Option.bind_some, dif1, dif2, dif3, dif4, dif5, dif6, dif7, dnot, ibeq, ibne, decide_eq_true_eq, if_not2, ge_iff_le, gt_iff_lt, fst_ret, Bool.false_eq_true, decide_false]
  · have hli : ((l.length : Int) ≠ (r.length : Int)) := by omega
    have : ¬ l = r := fun e => hl (by rw [e])
    simp [slices_EqualFunc_Flood_Same_3, hli, this]
theorem EF_Vrf_spec {l r : List Api_Vrf} (hb : Few l) (ht : ∀ p ∈ l, Few p.imports) (ht2 : ∀ p ∈ l, Few p.exports) : slices_EqualFunc_Vrf_Same_4 l r = some (decide (l = r)) := by
  by_cases hl : l.length = r.length
  · have hli : ¬ ((l.length : Int) ≠ (r.length : Int)) := by omega
    simp only [slices_EqualFunc_Vrf_Same_4, ibne, decide_eq_true_eq, if_neg hli]
    rw [loop_eq l r hl hb (fun i h0 h1 h2 h3 => by
      simp (disch := omega) only [slices_EqualFunc_Vrf_Same_4_L1, names_Same_4, h1, nth_getI h2, nth_getI h3, seqB_dec, Equal_int_spec (ht _ (getI_mem h2)), Equal_int_spec (ht2 _ (getI_mem h2)), wr64, bind_ite, Option.bind_some, dif1, dif2, dif3, dif4, dif5, dif6, dif7, dnot, ibeq, ibne, decide_eq_true_eq, if_not2, ge_iff_le, gt_iff_lt, fst_ret, Bool.false_eq_true, decide_false, mrg1, mrg2, mrg3, mrg4, mrg5, mrg6, mrg7, decide_true, if_true]; rw [vrf_eq]; first | (refine fpos ?_; grind) | (refine fneg ?_; grind)) (by simp [slices_EqualFunc_Vrf_Same_4_L1])]
    simp only [bind_ite, Option.bind_some, dif1, dif2, dif3, dif4, dif5, dif6, dif7, dnot, ibeq, ibne, decide_eq_true_eq, if_not2, ge_iff_le, gt_iff_lt, fst_ret, Bool.false_eq_true, decide_false]
  · have hli : ((l.length : Int) ≠ (r.length : Int)) := by omega
    have : ¬ l = r := fun e => hl (by rw [e])
    simp [slices_EqualFunc_Vrf_Same_4, hli, this]

theorem names_Same_spec {a b : Api_Net} (hs : SmN a) : names_Same a b = some (decide (a = b)) := by
  simp only [names_Same, Equal_Device_spec hs.devices, Equal_Link_spec hs.links, Equal_Static_spec hs.statics, Equal_Irb_spec hs.irbs, EF_Port_spec hs.ports hs.tagged, EF_Domain_spec hs.domains hs.peers, EF_Flood_spec hs.floods hs.addrs, EF_Vrf_spec hs.vrfs hs.imports hs.exports, bind_ite, Option.bind_some, dif1, dif2, dif3, dif4, dif5, dif6, dif7, dnot, ibeq, ibne, decide_eq_true_eq, if_not2, ge_iff_le, gt_iff_lt, fst_ret, Bool.false_eq_true, decide_false]
  exact sdec (by rw [net_eq]; constructor <;> (rintro ⟨a, b, c, d, e, f, g, h⟩; exact ⟨by assumption, by assumption, by assumption, by assumption, by assumption, by assumption, by assumption, by assumption⟩))

/-! ### A copy -/
theorem loop_setsame {α ρ : Type} [Inhabited α] {f : List α × Int → Option ((List α × Int) ⊕ ρ)} (l : List α) (out : List α → ρ) (hb : Few l)
    (h1 : ∀ i : Int, 0 ≤ i → i < l.length → inL l i → f (l, i) = some (.inl (l, i + 1))) (h2 : f (l, l.length) = some (.inr (out l))) : loopM f (l, 0) = some (out l) := by
  have hb' := hb
  unfold Few at hb'
  exact loopM_trace (fun i => (l, (i : Int))) l.length (by omega) (fun i hi => by rw [h1 i (by omega) (by omega) ⟨by omega, by omega⟩]; simp) h2
theorem set_getI {α : Type} [Inhabited α] {l : List α} {i : Int} (h : inL l i) : l.set i.toNat (getI l i) = l := by
  have h2 := getI_get? h
  apply List.ext_getElem?
  intro k
  rw [List.getElem?_set]
  split
  · rename_i e; subst e; split
    · exact h2.symm
    · have := h.2; have := h.1; omega
  · rfl

theorem roomyN {α : Type} {l : List α} {b : Nat} (h : Few l) (hb : b ≤ 100000000 := by decide) : roomy b l = true := roomy_few (by unfold Few at h; omega) hb
theorem Clone_Device_spec {l : List Api_Device} (h : Few l) : slices_Clone_Device l = some l := if_pos (roomyN h)
theorem Clone_Port_spec {l : List Api_Port} (h : Few l) : slices_Clone_Port l = some l := if_pos (roomyN h)
theorem Clone_Link_spec {l : List Api_Link} (h : Few l) : slices_Clone_Link l = some l := if_pos (roomyN h)
theorem Clone_Domain_spec {l : List Api_Domain} (h : Few l) : slices_Clone_Domain l = some l := if_pos (roomyN h)
theorem Clone_Static_spec {l : List Api_Static} (h : Few l) : slices_Clone_Static l = some l := if_pos (roomyN h)
theorem Clone_Flood_spec {l : List Api_Flood} (h : Few l) : slices_Clone_Flood l = some l := if_pos (roomyN h)
theorem Clone_Vrf_spec {l : List Api_Vrf} (h : Few l) : slices_Clone_Vrf l = some l := if_pos (roomyN h)
theorem Clone_Irb_spec {l : List Api_Irb} (h : Few l) : slices_Clone_Irb l = some l := if_pos (roomyN h)
theorem Clone_int_spec {l : List Int} (h : Few l) : slices_Clone_int l = some l := if_pos (roomyN h)
theorem Clone_uint32_spec {l : List Int} (h : Few l) : slices_Clone_uint32 l = some l := if_pos (roomyN h)
theorem names_Copy_spec {a : Api_Net} (hs : SmN a) : names_Copy a = some (a.devices, a.ports, a.links, a.domains, a.statics, a.floods, a.vrfs, a.irbs, a.ports.length, a.domains.length, a.floods.length, a.vrfs.length) := by
  simp only [names_Copy, Clone_Device_spec hs.devices, Clone_Port_spec hs.ports, Clone_Link_spec hs.links, Clone_Domain_spec hs.domains, Clone_Static_spec hs.statics, Clone_Flood_spec hs.floods, Clone_Vrf_spec hs.vrfs, Clone_Irb_spec hs.irbs, Option.bind_some]
  rw [loop_setsame a.ports id hs.ports (fun i h0 h1 h2 => by
    have := hs.ports
    have hw := wr64 (n := i + 1) (by omega) (by omega)
    simp only [names_Copy_L1, h1, lin_dec, h2, getI_get? h2, Clone_int_spec (hs.tagged _ (getI_mem h2)), decide_true, if_true, Option.bind_some, hw]
    rw [set_getI h2]) (by simp [names_Copy_L1])]
  simp only [id, Option.bind_some]
  rw [loop_setsame a.domains id hs.domains (fun i h0 h1 h2 => by
    have := hs.domains
    have hw := wr64 (n := i + 1) (by omega) (by omega)
    simp only [names_Copy_L2, h1, lin_dec, h2, getI_get? h2, Clone_int_spec (hs.peers _ (getI_mem h2)), decide_true, if_true, Option.bind_some, hw]
    rw [set_getI h2]) (by simp [names_Copy_L2])]
  simp only [id, Option.bind_some]
  rw [loop_setsame a.floods id hs.floods (fun i h0 h1 h2 => by
    have := hs.floods
    have hw := wr64 (n := i + 1) (by omega) (by omega)
    simp only [names_Copy_L3, h1, lin_dec, h2, getI_get? h2, Clone_uint32_spec (hs.addrs _ (getI_mem h2)), decide_true, if_true, Option.bind_some, hw]
    rw [set_getI h2]) (by simp [names_Copy_L3])]
  simp only [id, Option.bind_some]
  rw [loop_setsame a.vrfs id hs.vrfs (fun i h0 h1 h2 => by
    have := hs.vrfs
    have hw := wr64 (n := i + 1) (by omega) (by omega)
    simp only [names_Copy_L4, h1, lin_dec, h2, getI_get? h2, Clone_int_spec (hs.imports _ (getI_mem h2)), Clone_int_spec (hs.exports _ (getI_mem h2)), decide_true, if_true, Option.bind_some, hw]
    rw [set_getI h2, getI_get? h2]
    simp only [Option.bind_some]
    rw [set_getI h2]) (by simp [names_Copy_L4])]
  rfl

end
end Go.Eng

set_option linter.unusedVariables false
set_option linter.unusedSectionVars false
set_option linter.unusedSimpArgs false
namespace Go.Eng
open Go Classical
attribute [local congr] ite_cg
section

end
end Go.Eng

set_option linter.unusedVariables false
set_option linter.unusedSectionVars false
set_option linter.unusedSimpArgs false
namespace Go.Eng
open Go Classical
attribute [local congr] ite_cg
theorem take_succ_get {α : Type} [Inhabited α] {l : List α} {k : Nat} (h : k < l.length) : l.take (k + 1) = l.take k ++ [getI l (k : Int)] := by
  have := getI_get? (l := l) (i := (k : Int)) ⟨by omega, by omega⟩
  rw [List.take_add_one, show l[k]? = some (getI l (k : Int)) from by simpa using this]; rfl
theorem loop_setmap {α ρ : Type} [Inhabited α] {f : List α × Int → Option ((List α × Int) ⊕ ρ)} (l : List α) (g : α → α) (out : List α → ρ) (hb : Few l)
    (h1 : ∀ (m : List α) (i : Int), m.length = l.length → 0 ≤ i → i < l.length → inL l i → getI m i = getI l i → f (m, i) = some (.inl (m.set i.toNat (g (getI l i)), i + 1))) (h2 : ∀ m, f (m, l.length) = some (.inr (out m))) :
    loopM f (l, 0) = some (out (l.map g)) := by
  have hlen : ∀ i, i ≤ l.length → ((l.take i).map g ++ l.drop i).length = l.length := fun i hi => by simp; omega
  have := loopM_trace (f := f) (fun i => ((l.take i).map g ++ l.drop i, (i : Int))) l.length (r := out (l.map g)) (by unfold Few at hb; omega) (fun i hi => by
    have hin : inL l (i : Int) := ⟨by omega, by omega⟩
    have hd : l.drop i = getI l (i : Int) :: l.drop (i + 1) := by
      have h := getI_get? hin
      obtain ⟨h1, h2⟩ := List.getElem?_eq_some_iff.1 h
      rw [← h2]; simp
    have hl1 : ((l.take i).map g).length = i := by simp; omega
    have hg : getI ((l.take i).map g ++ l.drop i) (i : Int) = getI l (i : Int) := by
      rw [hd]
      unfold getI
      simp only [Int.toNat_natCast]
      rw [List.getElem?_append_right (by omega), hl1]; simp
    rw [h1 _ (i : Int) (hlen i (by omega)) (by omega) (by omega) hin hg]
    simp only [Int.toNat_natCast]
    congr 3
    rw [List.set_append_right _ _ (by omega), hl1, hd, take_succ_get hi]
    simp) (by
    simp only [List.take_length, List.drop_length, List.append_nil]
    exact h2 _)
  simpa using this
section
variable {n : Api_Net}
end
end Go.Eng
