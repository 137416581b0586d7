/- Plain laws of chapter 21 (comps): which domains hang together. -/
import Derived.Test.YtlinloabahbioaaEngL2
import Derived.Test.YtlinloabahbioaaEngR15b
import Derived.Test.YtlinloabahbioaaEngF3
set_option linter.unusedVariables false
set_option linter.unusedSectionVars false
set_option linter.unusedSimpArgs false
namespace Go.Eng
open Go Classical
attribute [local congr] ite_cg
section
variable {n : Api_Net}
/-- The domain on the other side. -/
noncomputable def toDom (n : Api_Net) (p v : Int) : Int := domIx n.domains (getI n.ports (othI n p)).dev (toI n p (othI n p) v)
def OkX (n : Api_Net) (p v : Int) : Prop := 0 ≤ othI n p ∧ MemP (getI n.ports p) v ∧ toI n p (othI n p) v ≠ 0
theorem crossI_ok {p v : Int} : (crossI n p v).2.2 = true ↔ OkX n p v := by
  unfold crossI OkX
  by_cases h : 0 ≤ othI n p ∧ MemP (getI n.ports p) v ∧ toI n p (othI n p) v ≠ 0
  · rw [if_pos h]; simp [h]
  · rw [if_neg h]; simp [h]
theorem dom_of_mem (hr : RightP n) {p v : Int} (hp : inL n.ports p) (hm : MemP (getI n.ports p) v) :
    inL n.domains (domIx n.domains (getI n.ports p).dev v) ∧ (getI n.domains (domIx n.domains (getI n.ports p).dev v)).dev = (getI n.ports p).dev ∧ (getI n.domains (domIx n.domains (getI n.ports p).dev v)).vlan = v := by
  have hP := hr.ports p hp
  have h0 : 0 ≤ domIx n.domains (getI n.ports p).dev v := by
    obtain ⟨hv, h | h⟩ := hm
    · subst h
      exact hP.2.2.2.2.2.2.2.1 (by have := hP.2.1; omega)
    · exact hP.2.2.2.2.2.2.1 v h
  have h1 := fstI_is (l := n.domains) (P := fun d => d.dev = (getI n.ports p).dev ∧ d.vlan = v) h0
  exact ⟨fstI_inL.1 h0, h1.1, h1.2⟩
theorem to_mem {p v : Int} (h : OkX n p v) : MemP (getI n.ports (othI n p)) (toI n p (othI n p) v) := by
  obtain ⟨_, hm, hz⟩ := h
  unfold toI at hz ⊢
  split at hz
  · rename_i h1; rw [if_pos h1]; exact ⟨hz, .inl rfl⟩
  · rename_i h1; rw [if_neg h1]
    split at hz
    · rename_i h2; rw [if_pos h2]; exact ⟨hm.1, .inr h2⟩
    · exact absurd rfl hz
theorem toDom_in (hr : RightP n) {p v : Int} (h : OkX n p v) : inL n.domains (toDom n p v) := (dom_of_mem hr (othI_othP h.1).iq (to_mem h)).1

/-- Steps by links, as ports have them, and as domains have them; by peers; by all. -/
def EL (n : Api_Net) (x y : Int) : Prop := ∃ p v, inL n.ports p ∧ (v ∈ (getI n.ports p).tagged ∨ v = (getI n.ports p).native) ∧ OkX n p v ∧ x = domIx n.domains (getI n.ports p).dev v ∧ y = toDom n p v
def ER (n : Api_Net) (x y : Int) : Prop := inL n.domains x ∧ ∃ p ∈ membersL n x, OkX n p (getI n.domains x).vlan ∧ y = toDom n p (getI n.domains x).vlan
def EP (n : Api_Net) (x y : Int) : Prop := inL n.domains x ∧ y ∈ (getI n.domains x).peers
theorem mem_membersL {k p : Int} : p ∈ membersL n k ↔ inL n.ports p ∧ InDom n k (getI n.ports p) := by
  unfold membersL
  rw [mem_gatherI]
  constructor
  · rintro ⟨i, h1, h2, rfl⟩; exact ⟨h1, h2⟩
  · rintro ⟨h1, h2⟩; exact ⟨p, h1, h2, rfl⟩
theorem domIx_self (hr : RightP n) {x : Int} (hx : inL n.domains x) : domIx n.domains (getI n.domains x).dev (getI n.domains x).vlan = x := (hr.bare x hx).2.2.2.2.2.2
theorem EL_iff_ER (hr : RightP n) {x y : Int} : EL n x y ↔ ER n x y := by
  constructor
  · rintro ⟨p, v, hp, hv, ho, rfl, rfl⟩
    obtain ⟨h1, h2, h3⟩ := dom_of_mem hr hp ho.2.1
    refine ⟨h1, p, mem_membersL.2 ⟨hp, by rw [InDom, h2, h3]; exact ⟨rfl, ho.2.1⟩⟩, ?_, ?_⟩
    · rw [h3]; exact ho
    · rw [h3]
  · rintro ⟨hx, p, hp, ho, rfl⟩
    obtain ⟨hp, hd⟩ := mem_membersL.1 hp
    refine ⟨p, (getI n.domains x).vlan, hp, hd.2.2.symm, ho, ?_, rfl⟩
    rw [hd.1, domIx_self hr hx]
theorem ER_in (hr : RightP n) {x y : Int} (h : ER n x y) : inL n.domains x ∧ inL n.domains y := by
  obtain ⟨hx, p, hp, ho, rfl⟩ := h
  exact ⟨hx, toDom_in hr ho⟩
theorem EP_in (hr : RightP n) {x y : Int} (h : EP n x y) : inL n.domains x ∧ inL n.domains y := by
  obtain ⟨hx, hy⟩ := h
  obtain ⟨j, hj, rfl⟩ := mem_getI hy
  exact ⟨hx, (hr.peers x hx j hj).1.1⟩
def EA (n : Api_Net) (x y : Int) : Prop := ER n x y ∨ EP n x y
theorem EA_in (hr : RightP n) {x y : Int} (h : EA n x y) : inL n.domains x ∧ inL n.domains y := h.elim (ER_in hr) (EP_in hr)
end
end Go.Eng
