/- Plain laws of chapter 17 (links): the other side. -/
import Derived.Test.YtlinloabahbioaaEngP15
import Derived.Test.YtlinloabahbioaaEngP15d
set_option linter.unusedVariables false
set_option linter.unusedSectionVars false
set_option linter.unusedSimpArgs false
namespace Go.Eng
open Go Classical
attribute [local congr] ite_cg
variable {n : Api_Net}

/-- The port on the other side; -1. -/
noncomputable def othI (n : Api_Net) (p : Int) : Int :=
  if RightP n ∧ inL n.ports p ∧ 0 ≤ (getI n.ports p).link then
    (if (getI n.links (getI n.ports p).link).a = p then (getI n.links (getI n.ports p).link).b else (getI n.links (getI n.ports p).link).a)
  else -1

theorem RightP.link (h : RightP n) {p : Int} (hp : inL n.ports p) (hl : 0 ≤ (getI n.ports p).link) :
    inL n.links (getI n.ports p).link ∧ ((getI n.links (getI n.ports p).link).a = p ∨ (getI n.links (getI n.ports p).link).b = p) := by
  have := (h.ports p hp).2.2.2.2.2.2.2.2
  rcases this with h1 | h1
  · omega
  · exact h1

theorem links_Other_spec (hs : SmN n) {p : Int} : links_Other n p = some (othI n p) := by
  unfold links_Other othI
  by_cases hr : RightP n
  case neg =>
    by_cases h1 : p < 0
    · simp [h1, hr]
    by_cases h2 : (n.ports.length : Int) ≤ p
    · simp [h1, h2, hr]
    have hp : inL n.ports p := ⟨by omega, by omega⟩
    simp only [names_Right_spec hs, hr, nth_getI hp, bind_ite, Option.bind_some, dif1, dif2, dif3, dif4, dif5, dif6, dif7, dnot, ibeq, ibne, decide_eq_true_eq, if_not2, ge_iff_le, gt_iff_lt, fst_ret, Bool.false_eq_true, decide_false]
    simp
  by_cases hp : inL n.ports p
  case neg =>
    have : p < 0 ∨ (n.ports.length : Int) ≤ p := by unfold inL at hp; omega
    simp only [hp, bind_ite, Option.bind_some, dif1, dif2, dif3, dif4, dif5, dif6, dif7, dnot, ibeq, ibne, decide_eq_true_eq, if_not2, ge_iff_le, gt_iff_lt, fst_ret, Bool.false_eq_true, decide_false]
    rcases this with h | h <;> simp [h]
  have h1 : ¬ p < 0 := by have := hp.1; omega
  have h2 : ¬ (n.ports.length : Int) ≤ p := by have := hp.2; omega
  by_cases hl : 0 ≤ (getI n.ports p).link
  · have hk := hr.link hp hl
    have h3 : ¬ (getI n.ports p).link < 0 := by omega
    simp only [names_Right_spec hs, hr, nth_getI hp, nth_getI hk.1, hp, hl, h1, h2, h3, bind_ite, Option.bind_some, dif1, dif2, dif3, dif4, dif5, dif6, dif7, dnot, ibeq, ibne, decide_eq_true_eq, if_not2, ge_iff_le, gt_iff_lt, fst_ret, Bool.false_eq_true, decide_false, if_false, if_true, and_self]
    split <;> rfl
  · have h3 : (getI n.ports p).link < 0 := by omega
    simp only [nth_getI hp, hl, h1, h2, h3, bind_ite, Option.bind_some, dif1, dif2, dif3, dif4, dif5, dif6, dif7, dnot, ibeq, ibne, decide_eq_true_eq, if_not2, ge_iff_le, gt_iff_lt, fst_ret, Bool.false_eq_true, decide_false, if_false, if_true, and_false]

theorem othI_right {p : Int} (h : 0 ≤ othI n p) : RightP n ∧ inL n.ports p ∧ 0 ≤ (getI n.ports p).link := by
  unfold othI at h
  split at h
  · assumption
  · omega

structure OthP (n : Api_Net) (p q : Int) : Prop where
  ip : inL n.ports p
  iq : inL n.ports q
  ik : inL n.links (getI n.ports p).link
  link : (getI n.ports q).link = (getI n.ports p).link
  dev : (getI n.ports q).dev ≠ (getI n.ports p).dev
  ends : (p = (getI n.links (getI n.ports p).link).a ∧ q = (getI n.links (getI n.ports p).link).b) ∨ (p = (getI n.links (getI n.ports p).link).b ∧ q = (getI n.links (getI n.ports p).link).a)

theorem othI_othP {p : Int} (h : 0 ≤ othI n p) : OthP n p (othI n p) := by
  have hh := othI_right h
  obtain ⟨hr, hp, hl⟩ := hh
  obtain ⟨hk, he⟩ := hr.link hp hl
  have hL := hr.links _ hk
  obtain ⟨ha, hb, hd, la, lb⟩ := hL
  have heq : othI n p = if (getI n.links (getI n.ports p).link).a = p then (getI n.links (getI n.ports p).link).b else (getI n.links (getI n.ports p).link).a := by
    unfold othI; rw [if_pos ⟨hr, hp, hl⟩]
  have hne : (getI n.links (getI n.ports p).link).a ≠ (getI n.links (getI n.ports p).link).b := fun e => hd (by rw [e])
  by_cases h1 : (getI n.links (getI n.ports p).link).a = p
  · rw [if_pos h1] at heq
    rw [heq]
    exact ⟨hp, hb, hk, by rw [lb], by rw [h1] at hd; exact fun e => hd e.symm, .inl ⟨h1.symm, rfl⟩⟩
  · rw [if_neg h1] at heq
    have h2 : (getI n.links (getI n.ports p).link).b = p := he.resolve_left h1
    rw [heq]
    exact ⟨hp, ha, hk, by rw [la], by rw [h2] at hd; exact hd, .inr ⟨h2.symm, rfl⟩⟩

theorem OthP.back (hr : RightP n) {p q : Int} (h : OthP n p q) : othI n q = p := by
  unfold othI
  have h0 := h.ik.1
  rw [if_pos ⟨hr, h.iq, by rw [h.link]; exact h0⟩, h.link]
  have hd := h.dev
  rcases h.ends with ⟨e1, e2⟩ | ⟨e1, e2⟩
  · rw [if_neg, ← e1]
    intro e
    rw [← e1] at e
    exact hd (by rw [e])
  · rw [if_pos e2.symm, ← e1]

/-- Which VLAN it is on the other side; 0. -/
noncomputable def toI (n : Api_Net) (p q v : Int) : Int := if v = (getI n.ports p).native then (getI n.ports q).native else if v ∈ (getI n.ports q).tagged then v else 0
noncomputable def crossI (n : Api_Net) (p v : Int) : Int × Int × Bool :=
  if 0 ≤ othI n p ∧ MemP (getI n.ports p) v ∧ toI n p (othI n p) v ≠ 0 then (othI n p, toI n p (othI n p) v, true) else (0, 0, false)

theorem links_Cross_spec (hs : SmN n) {p v : Int} : links_Cross n p v = some (crossI n p v) := by
  unfold links_Cross crossI
  simp only [links_Other_spec hs, bind_ite, Option.bind_some, dif1, dif2, dif3, dif4, dif5, dif6, dif7, dnot, ibeq, ibne, decide_eq_true_eq, if_not2, ge_iff_le, gt_iff_lt, fst_ret, Bool.false_eq_true, decide_false]
  by_cases h : 0 ≤ othI n p
  case neg =>
    have : othI n p < 0 := by omega
    simp [h, this]
  have hO := othI_othP h
  have h1 : ¬ othI n p < 0 := by omega
  have f1 : Few (getI n.ports p).tagged := hs.tagged _ (getI_mem hO.ip)
  have f2 : Few (getI n.ports (othI n p)).tagged := hs.tagged _ (getI_mem hO.iq)
  simp only [h1, h, nth_getI hO.ip, nth_getI hO.iq, Member_spec f1, Contains_int_spec f2, bind_ite, Option.bind_some, dif1, dif2, dif3, dif4, dif5, dif6, dif7, dnot, ibeq, ibne, decide_eq_true_eq, if_not2, ge_iff_le, gt_iff_lt, fst_ret, Bool.false_eq_true, decide_false, if_false, true_and]
  by_cases hm : MemP (getI n.ports p) v
  case neg => simp [hm]
  simp only [hm, if_true, true_and]
  unfold toI
  by_cases h2 : v = (getI n.ports p).native
  · simp only [h2, if_true]
    split <;> simp_all
  · simp only [h2, if_false]
    by_cases h3 : v ∈ (getI n.ports (othI n p)).tagged
    · simp only [h3, if_true]
      split <;> simp_all
    · simp [h3]

end Go.Eng
