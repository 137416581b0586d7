/- Plain laws of chapter 35 (reach): the hops of a domain, on both sides. -/
import Derived.Test.YtlinloabahbioaaEngW0
import Derived.Test.YtlinloabahbioaaEngPE
import Derived.Test.YtlinloabahbioaaEngP21o
import Derived.Test.YtlinloabahbioaaEngP15m
set_option linter.unusedVariables false
set_option linter.unusedSectionVars false
set_option linter.unusedSimpArgs false
namespace Go.Eng
open Go Classical
attribute [local congr] ite_cg

theorem linT {α : Type} {l : List α} {i : Int} (h : inL l i) : lin l i = true := by rw [lin_dec]; exact decide_eq_true h
/-- A list's images are put behind what is there. -/
theorem loop_map {α β ρ : Type} [Inhabited α] {f : List β × Int → Option ((List β × Int) ⊕ ρ)} (l : List α) (e : α → β) (s0 : List β) {out : List β → ρ} (hb : Few l)
    (h1 : ∀ (i : Int) (s : List β), inL l i → (s.length : Int) = s0.length + i → f (s, i) = some (.inl (s ++ [e (getI l i)], i + 1))) (h2 : ∀ s, f (s, l.length) = some (.inr (out s))) :
    loopM f (s0, 0) = some (out (s0 ++ l.map e)) := by
  have := loopM_trace (f := f) (r := out (s0 ++ l.map e)) (fun i => (s0 ++ (l.take i).map e, (i : Int))) l.length (by unfold Few at hb; omega) (fun i hi => by
    have hx : l[i]? = some l[i] := List.getElem?_eq_getElem hi
    have hl : (l.take i).length = i := by simp; omega
    have h := h1 (i : Int) (s0 ++ (l.take i).map e) (inL_nat hx) (by simp; omega)
    rw [getI_nat hx] at h
    rw [h, List.take_add_one, hx]
    simp only [List.map_append, Option.toList_some, List.map_cons, List.map_nil, List.append_assoc, Int.natCast_add, Int.natCast_one]) (by simp only [List.take_length]; exact h2 _)
  simpa using this

def toldH (h : Reach_Hop) : Palingref35_Hop := ⟨h.kind, h.port, h.domain, h.addr⟩
theorem toldH_inj {a b : Reach_Hop} (h : toldH a = toldH b) : a = b := by cases a; cases b; simpa [toldH] using h
theorem told_map_inj : ∀ {a b : List Reach_Hop}, a.map toldH = b.map toldH → a = b
  | [], [], _ => rfl
  | [], _ :: _, h => by simp at h
  | _ :: _, [], h => by simp at h
  | x :: a, y :: b, h => by simp only [List.map_cons, List.cons.injEq] at h; rw [toldH_inj h.1, told_map_inj h.2]
theorem Told_spec {l : List Reach_Hop} (hl : Few l) : palinglaw35_Told l = some (l.map toldH) := by
  unfold palinglaw35_Told
  have := loop_map (f := fun s : (List Palingref35_Hop) × Int => match s with | (l2, v3) => palinglaw35_Told_L1 l l2 v3) l toldH [] (out := fun s => s) hl (fun i s hi hlen => by
    have h1 := hi.2
    have hlf := hl
    unfold Few at hlf
    simp only [palinglaw35_Told_L1, h1, decide_true, if_true, nth_getI hi, Option.bind_some, wr64 (n := i + 1) (by have := hi.1; omega) (by omega), toldH]
    rw [if_pos (roomy_few (by simp at hlen ⊢; have := hi.1; omega))]) (fun s => by simp [palinglaw35_Told_L1])
  rw [this]; simp
theorem eqH_dec {x y : Palingref35_Hop} : eq_Palingref35_Hop x y = decide (x = y) := by
  cases x; cases y
  rw [Bool.eq_iff_iff]
  simp [eq_Palingref35_Hop]
theorem rSameH_spec {l r : List Palingref35_Hop} (hb : Few l) : palingref35_Same l r = some (decide (l = r)) := by
  simp only [palingref35_Same, bind_ite, Option.bind_some, dif1, dif2, dif3, dif4, dif5, dif6, dif7, dnot, ibeq, ibne, decide_eq_true_eq, if_not2, ge_iff_le, gt_iff_lt, fst_ret, Bool.false_eq_true, decide_false]
  by_cases h : (l.length : Int) = r.length
  · have hl : l.length = r.length := by omega
    rw [if_pos h, loop_eq l r hl hb (fun i i1 i2 hi hj => by
      unfold Few at hb
      simp only [palingref35_Same_L1, i2, decide_true, if_true, nth_getI hi, nth_getI hj, Option.bind_some, wr64 (n := i + 1) (by omega) (by omega), eqH_dec]
      by_cases e : getI l i = getI r i
      · simp [e]
      · simp [e]) (by simp [palingref35_Same_L1])]
    by_cases e : l = r
    · simp [e]
    · simp [e]
  · rw [if_neg h, decide_eq_false (fun e => h (by rw [e]))]

section
variable {n : Api_Net}
/-- The hops of a domain. -/
noncomputable def hopsI (n : Api_Net) (d : Int) : List Reach_Hop :=
  gatherI (membersL n d) (fun _ p => OkX n p (getI n.domains d).vlan) (fun _ p => ⟨1, p, toDom n p (getI n.domains d).vlan, 0⟩) ++ (getI n.domains d).peers.map (fun k => ⟨2, 0, k, 0⟩)
theorem hopsI_len (hg : BndN n 200 100) {d : Int} (hd : inL n.domains d) : (hopsI n d).length ≤ 300 := by
  unfold hopsI
  have h1 : (gatherI (membersL n d) (fun _ p => OkX n p (getI n.domains d).vlan) (fun _ p => (⟨1, p, toDom n p (getI n.domains d).vlan, 0⟩ : Reach_Hop))).length ≤ n.ports.length := Nat.le_trans gatherI_len membersL_len
  have h2 := hg.ports
  have h3 := hg.peers _ (getI_mem hd)
  simp; omega
theorem place_spec (hs : SmN n) {d : Int} : reach_place n d = some (decide (inL n.domains d ∧ RightP n)) := by
  unfold reach_place
  rw [names_Right_spec hs]
  by_cases h1 : d ≥ 0
  · by_cases h2 : d < (n.domains.length : Int)
    · rw [if_pos (by simpa using h1), if_pos (by simpa using h2)]
      exact sdec ⟨fun h => ⟨⟨h1, h2⟩, h⟩, fun h => h.2⟩
    · rw [if_pos (by simpa using h1), if_neg (by simpa using h2)]
      exact (congrArg some (decide_eq_false (p := inL n.domains d ∧ RightP n) (fun h => h2 h.1.2))).symm
  · rw [if_neg (by simpa using h1)]
    exact (congrArg some (decide_eq_false (p := inL n.domains d ∧ RightP n) (fun h => h1 h.1.1))).symm
theorem Fits_spec (hs : SmN n) {d : Int} : palingref35_Fits n d = some (decide (inL n.domains d ∧ RightP n)) := by
  simp only [palingref35_Fits, rRight_spec hs, rPlace_spec, Option.bind_some, decide_eq_true_eq]
  by_cases h : RightP n
  · simp only [h, if_true, and_true]
  · simp only [h, if_false, and_false, decide_false]
theorem reach_Hops_no (hs : SmN n) {d : Int} (h : ¬ (inL n.domains d ∧ RightP n)) : reach_Hops n d = some [] := by
  simp only [reach_Hops, place_spec hs, Option.bind_some, decide_eq_false h, Bool.not_false, if_true]
theorem reach_Hops_spec (hg : BndN n 200 100) (hr : RightP n) {d : Int} (hd : inL n.domains d) : reach_Hops n d = some (hopsI n d) := by
  have hs := hg.sm
  have hml : (membersL n d).length ≤ 200 := Nat.le_trans membersL_len hg.ports
  have hpl := hg.peers _ (getI_mem hd)
  simp only [reach_Hops, place_spec hs, Option.bind_some, decide_eq_true (show inL n.domains d ∧ RightP n from ⟨hd, hr⟩), Bool.not_true, Bool.false_eq_true, if_false, names_Members_spec hs, if_pos (show RightP n ∧ inL n.domains d from ⟨hr, hd⟩), nth_getI hd]
  have e1 := loop_gather (f := fun s : (List Reach_Hop) × Int => match s with | (l9, v10) => reach_Hops_L1 n d (membersL n d) l9 v10) (membersL n d) (fun _ p => OkX n p (getI n.domains d).vlan) (fun _ p => (⟨1, p, toDom n p (getI n.domains d).vlan, 0⟩ : Reach_Hop)) (out := fun s => s) (by unfold Few; omega) (fun i s i0 i1 hi hsl => by
    simp only [reach_Hops_L1, i1, decide_true, if_true, linT hi, getI_get? hi, Option.bind_some, nth_getI hd, links_Domain_ok hs hr, wr64 (n := i + 1) (by omega) (by omega)]
    by_cases ho : OkX n (getI (membersL n d) i) (getI n.domains d).vlan
    · simp only [if_pos ho, if_true]
      rw [if_pos (roomy_few (by simp; omega))]
    · simp only [if_neg ho, Bool.false_eq_true, if_false]) (fun s => by simp [reach_Hops_L1])
  rw [e1]
  simp only [Option.bind_some]
  have hgl : (gatherI (membersL n d) (fun _ p => OkX n p (getI n.domains d).vlan) (fun _ p => (⟨1, p, toDom n p (getI n.domains d).vlan, 0⟩ : Reach_Hop))).length ≤ 200 := Nat.le_trans gatherI_len hml
  have e2 := loop_map (f := fun s : (List Reach_Hop) × Int => match s with | (l30, v31) => reach_Hops_L2 (getI n.domains d) l30 v31) (getI n.domains d).peers (fun k => (⟨2, 0, k, 0⟩ : Reach_Hop)) (gatherI (membersL n d) (fun _ p => OkX n p (getI n.domains d).vlan) (fun _ p => (⟨1, p, toDom n p (getI n.domains d).vlan, 0⟩ : Reach_Hop))) (out := fun s => s) (by unfold Few; omega) (fun i s hi hlen => by
    have i0 := hi.1; have i1 := hi.2
    simp only [reach_Hops_L2, i1, decide_true, if_true, nth_getI hi, Option.bind_some, wr64 (n := i + 1) (by omega) (by omega)]
    rw [if_pos (roomy_few (by simp; omega))]) (fun s => by simp [reach_Hops_L2])
  rw [e2]
  rfl
theorem rHops_spec (hg : BndN n 200 100) (hr : RightP n) {d : Int} (hd : inL n.domains d) : palingref35_Hops n d = some ((hopsI n d).map toldH) := by
  have hs := hg.sm
  have hml : (membersL n d).length ≤ 200 := Nat.le_trans membersL_len hg.ports
  have hpl := hg.peers _ (getI_mem hd)
  simp only [palingref35_Hops, rMembers_spec hs, if_pos hd, Option.bind_some]
  have e1 := loop_gather (f := fun s : (List Palingref35_Hop) × Int => match s with | (l6, v7) => palingref35_Hops_L1 n d (membersL n d) l6 v7) (membersL n d) (fun _ p => OkX n p (getI n.domains d).vlan) (fun _ p => (⟨1, p, toDom n p (getI n.domains d).vlan, 0⟩ : Palingref35_Hop)) (out := fun s => s) (by unfold Few; omega) (fun i s i0 i1 hi hsl => by
    simp only [palingref35_Hops_L1, i1, decide_true, if_true, linT hi, getI_get? hi, Option.bind_some, nth_getI hd, rDomain_ok hs hr, wr64 (n := i + 1) (by omega) (by omega)]
    by_cases ho : OkX n (getI (membersL n d) i) (getI n.domains d).vlan
    · simp only [if_pos ho, if_true]
      rw [if_pos (roomy_few (by simp; omega))]
    · simp only [if_neg ho, Bool.false_eq_true, if_false]) (fun s => by simp [palingref35_Hops_L1])
  rw [e1]
  simp only [Option.bind_some]
  have hgl : (gatherI (membersL n d) (fun _ p => OkX n p (getI n.domains d).vlan) (fun _ p => (⟨1, p, toDom n p (getI n.domains d).vlan, 0⟩ : Palingref35_Hop))).length ≤ 200 := Nat.le_trans gatherI_len hml
  have e2 := loop_map (f := fun s : (List Palingref35_Hop) × Int => match s with | (l27, v28) => palingref35_Hops_L2 n d l27 v28) (getI n.domains d).peers (fun k => (⟨2, 0, k, 0⟩ : Palingref35_Hop)) (gatherI (membersL n d) (fun _ p => OkX n p (getI n.domains d).vlan) (fun _ p => (⟨1, p, toDom n p (getI n.domains d).vlan, 0⟩ : Palingref35_Hop))) (out := fun s => s) (by unfold Few; omega) (fun i s hi hlen => by
    have i0 := hi.1; have i1 := hi.2
    simp only [palingref35_Hops_L2, i1, decide_true, if_true, nth_getI hi, nth_getI hd, Option.bind_some, wr64 (n := i + 1) (by omega) (by omega)]
    rw [if_pos (roomy_few (by simp; omega))]) (fun s => by simp [palingref35_Hops_L2, nth_getI hd])
  rw [e2]
  simp only [Option.bind_some, hopsI, List.map_append, List.map_map]
  congr 2
  unfold gatherI
  rw [List.map_filterMap]
  congr 1
  funext q
  split <;> rfl
theorem mem_hopsI {d : Int} {h : Reach_Hop} : h ∈ hopsI n d ↔ (∃ p ∈ membersL n d, OkX n p (getI n.domains d).vlan ∧ h = ⟨1, p, toDom n p (getI n.domains d).vlan, 0⟩) ∨ ∃ k ∈ (getI n.domains d).peers, h = ⟨2, 0, k, 0⟩ := by
  unfold hopsI
  rw [List.mem_append, mem_gatherI, List.mem_map]
  constructor
  · rintro (⟨i, hi, h1, rfl⟩ | ⟨k, hk, rfl⟩)
    · exact .inl ⟨_, getI_mem hi, h1, rfl⟩
    · exact .inr ⟨k, hk, rfl⟩
  · rintro (⟨p, hp, h1, rfl⟩ | ⟨k, hk, rfl⟩)
    · obtain ⟨i, hi, rfl⟩ := mem_getI hp
      exact .inl ⟨i, hi, h1, rfl⟩
    · exact .inr ⟨k, hk, rfl⟩
theorem hops_in (hr : RightP n) : HIn (fun h : Reach_Hop => h.domain) (hopsI n) n.domains.length := by
  intro d d0 d1 h hh
  have hd : inL n.domains d := ⟨d0, d1⟩
  rcases mem_hopsI.1 hh with ⟨p, _, ho, rfl⟩ | ⟨k, hk, rfl⟩
  · exact toDom_in hr ho
  · exact (peer_sym hr hd hk).1
theorem hops_EA {d j : Int} (hd : inL n.domains d) : (∃ h ∈ hopsI n d, h.domain = j) ↔ EA n d j := by
  constructor
  · rintro ⟨h, hh, rfl⟩
    rcases mem_hopsI.1 hh with ⟨p, hp, ho, rfl⟩ | ⟨k, hk, rfl⟩
    · exact .inl ⟨hd, p, hp, ho, rfl⟩
    · exact .inr ⟨hd, hk⟩
  · rintro (⟨_, p, hp, ho, rfl⟩ | ⟨_, hk⟩)
    · exact ⟨_, mem_hopsI.2 (.inl ⟨p, hp, ho, rfl⟩), rfl⟩
    · exact ⟨_, mem_hopsI.2 (.inr ⟨j, hk, rfl⟩), rfl⟩
/-- What crosses a link crosses it back. -/
theorem okx_back (hr : RightP n) {p v : Int} (h : OkX n p v) : OkX n (othI n p) (toI n p (othI n p) v) ∧ othI n (othI n p) = p ∧ toI n (othI n p) p (toI n p (othI n p) v) = v := by
  have hO := othI_othP h.1
  have hb := hO.back hr
  have hm := to_mem h
  obtain ⟨_, hm0, hz⟩ := h
  have hp0 := hO.ip.1
  have u2 := (hr.ports _ hO.iq).2.2.2.2.1
  have key : toI n (othI n p) p (toI n p (othI n p) v) = v := by
    generalize othI n p = q at *
    have hm2 := hm0.2
    unfold toI at hz ⊢
    by_cases h1 : v = (getI n.ports p).native
    · rw [if_pos h1, if_pos rfl, h1]
    · rw [if_neg h1] at hz ⊢
      by_cases h2 : v ∈ (getI n.ports q).tagged
      · rw [if_pos h2, if_neg (fun e => by rw [e] at h2; exact u2 h2), if_pos (hm2.resolve_left h1)]
      · rw [if_neg h2] at hz; exact absurd rfl hz
  refine ⟨⟨by rw [hb]; exact hp0, hm, ?_⟩, hb, key⟩
  rw [hb, key]; exact hm0.1
theorem ER_symm (hr : RightP n) {x y : Int} (h : ER n x y) : ER n y x := by
  obtain ⟨hx, p, hp, ho, rfl⟩ := h
  obtain ⟨h1, h2, h3⟩ := mem_membersL.1 hp
  obtain ⟨b1, b2, b3⟩ := okx_back hr ho
  obtain ⟨d1, d2, d3⟩ := dom_of_mem hr (othI_othP ho.1).iq (to_mem ho)
  have dd : toDom n p (getI n.domains x).vlan = domIx n.domains (getI n.ports (othI n p)).dev (toI n p (othI n p) (getI n.domains x).vlan) := rfl
  rw [dd]
  refine ⟨d1, othI n p, mem_membersL.2 ⟨(othI_othP ho.1).iq, by rw [InDom, d2, d3]; exact ⟨rfl, to_mem ho⟩⟩, by rw [d3]; exact b1, ?_⟩
  rw [d3, toDom, b2, b3, h2]
  exact (domIx_self hr hx).symm
theorem EA_symm (hr : RightP n) {x y : Int} (h : EA n x y) : EA n y x := by
  rcases h with h | ⟨hx, hy⟩
  · exact .inl (ER_symm hr h)
  · have := peer_sym hr hx hy
    exact .inr ⟨this.1, this.2.2⟩
theorem hops_symm (hr : RightP n) : ∀ (i : Int) (h : Reach_Hop), 0 ≤ i → i < (n.domains.length : Int) → h ∈ hopsI n i → ∃ h' ∈ hopsI n h.domain, h'.domain = i := by
  intro i h i0 i1 hh
  have hi : inL n.domains i := ⟨i0, i1⟩
  have := EA_symm hr ((hops_EA hi).1 ⟨h, hh, rfl⟩)
  exact (hops_EA (EA_in hr this).1).2 this
end
end Go.Eng
