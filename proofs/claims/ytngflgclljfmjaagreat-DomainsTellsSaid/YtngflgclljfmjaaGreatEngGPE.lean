/- Part of the proof of DomainsTells: plain laws of the printed mirrors. No conditions. -/
import Derived.Test.YtngflgclljfmjaaGreatEngGP1
import Derived.Test.YtngflgclljfmjaaGreatMAM
set_option linter.unusedVariables false
set_option linter.unusedSectionVars false
set_option linter.unusedSimpArgs false
namespace Go.Eng
open Go Classical
attribute [local congr] ite_cg
theorem seqB_dec {x y : ByteArray} : seqB x y = decide (x = y) := by
  unfold seqB
  rw [Bool.eq_iff_iff]
  simp only [beq_iff_eq, decide_eq_true_eq]
  constructor
  · intro h
    rw [ByteArray.toList_eq, ByteArray.toList_eq] at h
    obtain ⟨⟨x⟩⟩ := x
    obtain ⟨⟨y⟩⟩ := y
    simpa using h
  · intro h; rw [h]

theorem list_eqI {α : Type} [Inhabited α] {l r : List α} : l = r ↔ l.length = r.length ∧ EachP l (fun i x => x = getI r i) := by
  constructor
  · intro h; subst h; exact ⟨rfl, fun i hi => rfl⟩
  · rintro ⟨h, he⟩
    apply List.ext_getElem h
    intro i h1 h2
    have := he i ⟨by omega, by omega⟩
    rwa [getI_nat (List.getElem?_eq_getElem h1), getI_nat (List.getElem?_eq_getElem h2)] at this
theorem loop_eq {α : Type} [Inhabited α] {f : Int → Option (Int ⊕ (Unit ⊕ Unit))} (l r : List α) (hl : l.length = r.length) (hb : Few l)
    (h1 : ∀ i : Int, 0 ≤ i → i < l.length → inL l i → inL r i → f i = some (if getI l i = getI r i then .inl (i + 1) else .inr (.inl ()))) (h2 : f l.length = some (.inr (.inr ()))) :
    loopM f 0 = if l = r then some (.inr ()) else some (.inl ()) := by
  rw [loop_each l (fun i x => x = getI r i) (.inl ()) (.inr ()) hb (fun i a b c => h1 i a b c ⟨a, by omega⟩) h2]
  simp only [list_eqI, hl, true_and]
end Go.Eng

set_option linter.unusedVariables false
set_option linter.unusedSectionVars false
set_option linter.unusedSimpArgs false
namespace Go.Eng
open Go Classical

inductive Conn (E : Int → Int → Prop) : Int → Int → Prop
  | refl (x : Int) : Conn E x x
  | edge {x y : Int} (h : E x y) : Conn E x y
  | symm {x y : Int} (h : Conn E x y) : Conn E y x
  | trans {x y z : Int} (h : Conn E x y) (g : Conn E y z) : Conn E x z

section
variable {E F : Int → Int → Prop}
theorem Conn.mono (h : ∀ x y, E x y → F x y) {x y : Int} (c : Conn E x y) : Conn F x y := by
  induction c with
  | refl x => exact .refl x
  | edge e => exact .edge (h _ _ e)
  | symm _ ih => exact ih.symm
  | trans _ _ i1 i2 => exact i1.trans i2
theorem Conn.congr (h : ∀ x y, E x y ↔ F x y) {x y : Int} : Conn E x y ↔ Conn F x y := ⟨Conn.mono fun x y => (h x y).1, Conn.mono fun x y => (h x y).2⟩
theorem Conn.sub (h : ∀ x y, E x y → Conn F x y) {x y : Int} (c : Conn E x y) : Conn F x y := by
  induction c with
  | refl x => exact .refl x
  | edge e => exact h _ _ e
  | symm _ ih => exact ih.symm
  | trans _ _ i1 i2 => exact i1.trans i2
theorem Conn.inv {β : Type} {T : Int → β} (h : ∀ x y, E x y → T x = T y) {x y : Int} (c : Conn E x y) : T x = T y := by
  induction c with
  | refl x => rfl
  | edge e => exact h _ _ e
  | symm _ ih => exact ih.symm
  | trans _ _ i1 i2 => exact i1.trans i2
theorem Conn.set {P : Int → Prop} (h : ∀ x y, E x y → (P x ↔ P y)) {x y : Int} (c : Conn E x y) : P x ↔ P y := by
  induction c with
  | refl x => exact Iff.rfl
  | edge e => exact h _ _ e
  | symm _ ih => exact ih.symm
  | trans _ _ i1 i2 => exact i1.trans i2
end

structure LeastT (E : Int → Int → Prop) (T : Int → Int) (N : Int) : Prop where
  lo : ∀ x, 0 ≤ x → x < N → 0 ≤ T x
  le : ∀ x, 0 ≤ x → x < N → T x ≤ x
  conn : ∀ x, 0 ≤ x → x < N → Conn E x (T x)
  same : ∀ x y, 0 ≤ x → x < N → 0 ≤ y → y < N → Conn E x y → T x = T y
theorem LeastT.uniq {E F : Int → Int → Prop} {T U : Int → Int} {N : Int} (h : LeastT E T N) (g : LeastT F U N) (e : ∀ x y, Conn E x y ↔ Conn F x y) {x : Int} (h0 : 0 ≤ x) (h1 : x < N) : T x = U x := by
  have a1 := h.lo x h0 h1
  have a2 := h.le x h0 h1
  have b1 := g.lo x h0 h1
  have b2 := g.le x h0 h1
  have c1 := g.same x (T x) h0 h1 a1 (by omega) ((e _ _).1 (h.conn x h0 h1))
  have c2 := h.same x (U x) h0 h1 b1 (by omega) ((e _ _).2 (g.conn x h0 h1))
  have d1 := g.le (T x) a1 (by omega)
  have d2 := h.le (U x) b1 (by omega)
  omega
structure Lab (f : List Int) (T : Int → Int) : Prop where
  lo : ∀ i, inL f i → 0 ≤ getI f i
  le : ∀ i, inL f i → getI f i ≤ i
  tlo : ∀ i, inL f i → 0 ≤ T i
  tle : ∀ i, inL f i → T i ≤ i
  root : ∀ i, inL f i → getI f (T i) = T i
  step : ∀ i, inL f i → T (getI f i) = T i
  self : ∀ i, inL f i → getI f i = i → T i = i

theorem inL_set {α : Type} {l : List α} {k : Nat} {x : α} {i : Int} : inL (l.set k x) i ↔ inL l i := by simp [inL]
theorem getI_set {α : Type} [Inhabited α] {l : List α} {k i : Int} {x : α} (hk : inL l k) (hi : inL l i) : getI (l.set k.toNat x) i = if i = k then x else getI l i := by
  unfold getI
  have h1 := hk.1; have h2 := hi.1; have h3 := hk.2; have h4 := hi.2
  by_cases h : i = k
  · subst h
    rw [List.getElem?_set_self (by omega)]; simp
  · rw [List.getElem?_set_ne (by omega)]; simp [h]
section
variable {f : List Int} {T : Int → Int}
theorem Lab.fin (h : Lab f T) {i : Int} (hi : inL f i) : inL f (getI f i) := ⟨h.lo i hi, by have := h.le i hi; have := hi.2; omega⟩
end
/-! ### Chains of sets -/
end Go.Eng

set_option linter.unusedVariables false
set_option linter.unusedSectionVars false
set_option linter.unusedSimpArgs false
namespace Go.Eng
open Go Classical

theorem LeastT.congr {E F : Int → Int → Prop} {T : Int → Int} {N : Int} (h : LeastT E T N) (e : ∀ x y, Conn E x y ↔ Conn F x y) : LeastT F T N :=
  ⟨h.lo, h.le, fun x a b => (e _ _).1 (h.conn x a b), fun x y a b c d g => h.same x y a b c d ((e _ _).2 g)⟩
theorem LeastT.congrE {E F : Int → Int → Prop} {T : Int → Int} {N : Int} (h : LeastT E T N) (e : ∀ x y, E x y ↔ F x y) : LeastT F T N := h.congr fun _ _ => Conn.congr e
structure FOK (E : Int → Int → Prop) (N : Nat) (f : List Int) : Prop where
  len : f.length = N
  lab : ∃ T, Lab f T ∧ LeastT E T N
  rng : ∀ x y, E x y → (0 ≤ x ∧ x < (N : Int)) ∧ 0 ≤ y ∧ y < (N : Int)
theorem FOK.congr {E F : Int → Int → Prop} {N : Nat} {f : List Int} (h : FOK E N f) (e : ∀ x y, E x y ↔ F x y) : FOK F N f := by
  obtain ⟨T, a, b⟩ := h.lab
  exact ⟨h.len, ⟨T, a, b.congrE e⟩, fun x y g => h.rng x y ((e x y).2 g)⟩
end Go.Eng

set_option linter.unusedVariables false
set_option linter.unusedSectionVars false
set_option linter.unusedSimpArgs false
namespace Go.Eng
open Go Classical
attribute [local congr] ite_cg
section
variable {n : Api_Net}
end
end Go.Eng

set_option linter.unusedVariables false
set_option linter.unusedSectionVars false
set_option linter.unusedSimpArgs false
namespace Go.Eng
open Go Classical
attribute [local congr] ite_cg

section
variable {n : Api_Net}
noncomputable def devI (n : Api_Net) (s : ByteArray) : Int := fstI n.devices fun d => d.name = s
noncomputable def portI (n : Api_Net) (d : Int) (s : ByteArray) : Int := fstI n.ports fun p => p.dev = d ∧ p.name = s
end
end Go.Eng

set_option linter.unusedVariables false
set_option linter.unusedSectionVars false
set_option linter.unusedSimpArgs false
namespace Go.Eng
open Go Classical
attribute [local congr] ite_cg
section
/-! ### A copy -/
end
end Go.Eng

set_option linter.unusedVariables false
set_option linter.unusedSectionVars false
set_option linter.unusedSimpArgs false
namespace Go.Eng
open Go Classical
attribute [local congr] ite_cg

structure UsedP (l u : Api_Line) (ok : Bool) (Q : Prop) : Prop where
  eq : stmt_used l = some (u, ok)
  few1 : Few u.tagged
  few2 : Few u.imports
  few3 : Few u.exports
  few4 : Few u.addrs
  fact : ok = true → Q
end Go.Eng

set_option linter.unusedVariables false
set_option linter.unusedSectionVars false
set_option linter.unusedSimpArgs false
namespace Go.Eng
open Go Classical
attribute [local congr] ite_cg
end Go.Eng

set_option linter.unusedVariables false
set_option linter.unusedSectionVars false
set_option linter.unusedSimpArgs false
namespace Go.Eng
open Go Classical
attribute [local congr] ite_cg

/-! ### One bit of a number -/
theorem gather_filter {l : List Int} {K : Int → Bool} : gatherI l (fun _ p => K p = true) (fun _ p => p) = l.filter K := by
  unfold gatherI
  have key : ∀ (l : List Int) (k : Nat), (l.zipIdx k).filterMap (fun q => if K q.1 = true then some q.1 else none) = l.filter K := by
    intro l
    induction l with
    | nil => intro k; rfl
    | cons x l ih =>
      intro k
      rw [List.zipIdx_cons, List.filterMap_cons, List.filter_cons, ih]
      cases h : K x <;> simp [h]
  rw [← key l 0]
  congr 1
  funext q
  split <;> rename_i h <;> simp [h]
/-! ### Bytes of an address -/
end Go.Eng

set_option linter.unusedVariables false
set_option linter.unusedSectionVars false
set_option linter.unusedSimpArgs false
namespace Go.Eng
open Go Classical
attribute [local congr] ite_cg
section
variable {n : Api_Net}
noncomputable def statI (n : Api_Net) (d x : Int) : Int := fstI n.statics fun s => s.domain = d ∧ s.mac = x
noncomputable def statP (n : Api_Net) (d x : Int) : Int := if 0 ≤ statI n d x then (getI n.statics (statI n d x)).port else -1
theorem statI_in {d x : Int} (h : 0 ≤ statI n d x) : inL n.statics (statI n d x) := fstI_inL.1 h
theorem domains_entry_spec (hs : SmN n) {d x : Int} : domains_entry n d x = some (statI n d x) := by
  unfold domains_entry slices_IndexFunc_Static_entry_1
  rw [loop_first n.statics (fun s => s.domain = d ∧ s.mac = x) hs.statics (fun i h0 h1 h2 => by
    have := hs.statics
    simp (disch := omega) only [slices_IndexFunc_Static_entry_1_L1, domains_entry_1, h1, nth_getI h2, wr64, bind_ite, Option.bind_some, dif1, dif2, dif3, dif4, dif5, dif6, dif7, dnot, ibeq, ibne, decide_eq_true_eq, if_not2, ge_iff_le, gt_iff_lt, fst_ret, Bool.false_eq_true, decide_false, mrg1, mrg2, mrg3, mrg4, mrg5, mrg6, mrg7, decide_true, if_true]; first | exact fpos Iff.rfl | exact fneg Iff.rfl) (by simp [slices_IndexFunc_Static_entry_1_L1])]
  simp only [bind_ite, Option.bind_some, dif1, dif2, dif3, dif4, dif5, dif6, dif7, dnot, ibeq, ibne, decide_eq_true_eq, if_not2, ge_iff_le, gt_iff_lt, fst_ret, Bool.false_eq_true, decide_false]
  rfl
theorem domains_Lookup_spec (hs : SmN n) (hr : RightP n) {d x : Int} : domains_Lookup n d x = some (statP n d x) := by
  unfold domains_Lookup statP
  simp only [domains_entry_spec hs, names_Right_spec hs, hr, bind_ite, Option.bind_some, dif1, dif2, dif3, dif4, dif5, dif6, dif7, dnot, ibeq, ibne, decide_eq_true_eq, if_not2, ge_iff_le, gt_iff_lt, fst_ret, Bool.false_eq_true, decide_false]
  by_cases h : 0 ≤ statI n d x
  · have h1 : ¬ statI n d x < 0 := by omega
    simp [h, h1, nth_getI (statI_in h)]
  · have h1 : statI n d x < 0 := by omega
    simp [h, h1]
theorem r18Lookup_spec (hs : SmN n) {d x : Int} : palingref18_Lookup n d x = some (statP n d x) := by
  unfold palingref18_Lookup statP
  rw [loop_firstv n.statics (fun s => s.domain = d ∧ s.mac = x) (fun _ s => s.port) hs.statics (fun i h0 h1 h2 => by
    have := hs.statics
    simp (disch := omega) only [palingref18_Lookup_L1, h1, nth_getI h2, wr64, bind_ite, Option.bind_some, dif1, dif2, dif3, dif4, dif5, dif6, dif7, dnot, ibeq, ibne, decide_eq_true_eq, if_not2, ge_iff_le, gt_iff_lt, fst_ret, Bool.false_eq_true, decide_false, mrg1, mrg2, mrg3, mrg4, mrg5, mrg6, mrg7, decide_true, if_true]; exact fpos Iff.rfl) (by simp [palingref18_Lookup_L1])]
  by_cases h : 0 ≤ statI n d x
  · have h' : 0 ≤ fstI n.statics (fun s => s.domain = d ∧ s.mac = x) := h
    simp only [h, h', if_true, Option.bind_some]; rfl
  · have h' : ¬ 0 ≤ fstI n.statics (fun s => s.domain = d ∧ s.mac = x) := h
    simp only [h, h', if_false, Option.bind_some]
end
end Go.Eng
