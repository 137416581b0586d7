/- Plain laws of nets that may be, changed: an interface. -/
import Derived.Test.YtgemllooojijnaaGreatEngPR
set_option linter.unusedVariables false
set_option linter.unusedSectionVars false
set_option linter.unusedSimpArgs false
namespace Go.Eng
open Go Classical
attribute [local congr] ite_cg
theorem pigeon : ∀ (N k : Nat) (f : Nat → Nat), (∀ i, i < k → f i < N) → (∀ i j, i < k → j < k → f i = f j → i = j) → k ≤ N
  | 0, k, f, h, _ => by
    cases k with
    | zero => omega
    | succ k => have := h 0 (by omega); omega
  | N + 1, k, f, h, inj => by
    cases k with
    | zero => omega
    | succ k =>
      have := pigeon N k (fun i => if f i = N then f k else f i) (fun i hi => by
        have h1 := h i (by omega); have h2 := h k (by omega)
        by_cases e : f i = N
        · have : f k ≠ N := fun e2 => by have := inj i k (by omega) (by omega) (by omega); omega
          simp only [e, if_true]; omega
        · simp only [e, if_false]; omega) (fun i j hi hj e => by
        by_cases e1 : f i = N <;> by_cases e2 : f j = N <;> simp only [e1, e2, if_true, if_false] at e
        · exact inj i j (by omega) (by omega) (by omega)
        · have := inj k j (by omega) (by omega) e; omega
        · have := inj i k (by omega) (by omega) e; omega
        · exact inj i j (by omega) (by omega) e)
      omega
section
variable {n : Api_Net}
theorem irbs_few (hr : RightP n) {k : Int} (hk : inL n.domains k) (hz : (getI n.domains k).irb = -1) : n.irbs.length + 1 ≤ n.domains.length := by
  refine pigeon _ _ (fun i => if i < n.irbs.length then (getI n.irbs (i : Int)).domain.toNat else k.toNat) (fun i hi => ?_) (fun i j hi hj e => ?_)
  · by_cases c : i < n.irbs.length
    · simp only [c, if_true]
      have := (hr.irbs (i : Int) ⟨by omega, by omega⟩).1
      have h1 := this.1; have h2 := this.2; omega
    · simp only [c, if_false]
      have h1 := hk.1; have h2 := hk.2; omega
  · have key : ∀ i : Nat, i < n.irbs.length → inL n.domains (getI n.irbs (i : Int)).domain ∧ (getI n.domains (getI n.irbs (i : Int)).domain).irb = i := fun i c => by
      have := hr.irbs (i : Int) ⟨by omega, by omega⟩
      exact ⟨this.1, this.2.2.2.1⟩
    by_cases c : i < n.irbs.length <;> by_cases d : j < n.irbs.length <;> simp only [c, d, if_true, if_false] at e
    · obtain ⟨a1, a2⟩ := key i c; obtain ⟨b1, b2⟩ := key j d
      have h1 := a1.1; have h2 := b1.1
      rw [show (getI n.irbs (i : Int)).domain = (getI n.irbs (j : Int)).domain by omega] at a2
      omega
    · obtain ⟨a1, a2⟩ := key i c
      have h1 := a1.1; have h2 := hk.1
      rw [show (getI n.irbs (i : Int)).domain = k by omega] at a2
      omega
    · obtain ⟨a1, a2⟩ := key j d
      have h1 := a1.1; have h2 := hk.1
      rw [show (getI n.irbs (j : Int)).domain = k by omega] at a2
      omega
    · omega
/-- With an interface. -/
theorem right_irb (hr : RightP n) {k : Int} (hk : inL n.domains k) (hz : (getI n.domains k).irb = -1) {x : Api_Irb} (hd : x.domain = k) (hv : inL n.vrfs x.vrf) (hdev : (getI n.domains k).dev = (getI n.vrfs x.vrf).dev) (hb : 1 ≤ x.net.bits ∧ x.net.bits ≤ 30) :
    RightP { n with domains := n.domains.set k.toNat { getI n.domains k with irb := (n.irbs.length : Int) }, irbs := n.irbs ++ [x] } := by
  obtain ⟨a1, b, c, d, e, f, g, h⟩ := hr.few
  have hfew := irbs_few hr hk hz
  have hg : ∀ {i}, inL n.domains i → getI (n.domains.set k.toNat { getI n.domains k with irb := (n.irbs.length : Int) }) i = if i = k then { getI n.domains k with irb := (n.irbs.length : Int) } else getI n.domains i := fun hi => getI_setI hk hi
  have hdv : ∀ {i}, inL n.domains i → (getI (n.domains.set k.toNat { getI n.domains k with irb := (n.irbs.length : Int) }) i).dev = (getI n.domains i).dev := fun {i} hi => by
    rw [hg hi]; by_cases q : i = k
    · rw [if_pos q, q]
    · rw [if_neg q]
  have hvlan : ∀ {i}, inL n.domains i → (getI (n.domains.set k.toNat { getI n.domains k with irb := (n.irbs.length : Int) }) i).vlan = (getI n.domains i).vlan := fun {i} hi => by
    rw [hg hi]; by_cases q : i = k
    · rw [if_pos q, q]
    · rw [if_neg q]
  have hvni : ∀ {i}, inL n.domains i → (getI (n.domains.set k.toNat { getI n.domains k with irb := (n.irbs.length : Int) }) i).vni = (getI n.domains i).vni := fun {i} hi => by
    rw [hg hi]; by_cases q : i = k
    · rw [if_pos q, q]
    · rw [if_neg q]
  have hpeers : ∀ {i}, inL n.domains i → (getI (n.domains.set k.toNat { getI n.domains k with irb := (n.irbs.length : Int) }) i).peers = (getI n.domains i).peers := fun {i} hi => by
    rw [hg hi]; by_cases q : i = k
    · rw [if_pos q, q]
    · rw [if_neg q]
  have hix : ∀ a b, domIx (n.domains.set k.toNat { getI n.domains k with irb := (n.irbs.length : Int) }) a b = domIx n.domains a b := fun a b =>
    (fstI_congr (by simp) fun i hi => by rw [hdv hi, hvlan hi]).symm
  refine ⟨⟨a1, b, c, by simp; omega, e, f, g, by simp; omega⟩, fun i hi => ?_, fun i hi => ?_, eachP_mono hr.ports fun i hi q => ?_, hr.links, eachP_mono hr.statics fun i hi q => ?_, hr.floods, hr.vrfs, eachP_app1.2 ⟨eachP_mono hr.irbs fun i hi q => ?_, ?_⟩⟩
  · have hi' := inL_setI.1 hi
    obtain ⟨q1, q2, q3, q4, q5, q6, q7⟩ := hr.bare i hi'
    unfold BareP
    simp only
    rw [hix, hdv hi', hvlan hi', hvni hi']
    refine ⟨q1, q2, q3, q4, q5, ?_, q7⟩
    rw [hg hi']
    by_cases q : i = k
    · rw [if_pos q]
      refine .inr ⟨inL_app1.2 (.inr rfl), ?_⟩
      simp only
      rw [getI_last, hd, q]
    · rw [if_neg q]
      rcases q6 with q6 | ⟨q6, q8⟩
      · exact .inl q6
      · exact .inr ⟨inL_app q6, by rw [getI_app q6]; exact q8⟩
  · have hi' := inL_setI.1 hi
    have hp := hr.peers i hi'
    simp only
    unfold PeersP
    rw [hpeers hi']
    intro j hj
    obtain ⟨⟨q1, q2, q3, q4, q5, q6, q7, q8, q9⟩, q10⟩ := hp j hj
    refine ⟨⟨inL_setI.2 q1, q2, ?_, ?_, ?_, ?_, ?_, ?_, ?_⟩, q10⟩ <;> try simp only
    · rw [hdv q1]; exact q3
    · rw [hdv q1, hdv hi']; exact q4
    · rw [hvni q1, hvni hi']; exact q5
    · rw [hvni hi']; exact q6
    · rw [hdv q1]; exact q7
    · rw [hdv hi']; exact q8
    · rw [hpeers q1]; exact q9
  · obtain ⟨q1, q2, q3, q4, q5, q6, q7, q8, q9⟩ := q
    refine ⟨q1, q2, q3, q4, q5, q6, fun v hv => ?_, fun h0 => ?_, q9⟩
    · simp only; rw [hix]; exact q7 v hv
    · simp only; rw [hix]; exact q8 h0
  · obtain ⟨q1, q2, q3, q4⟩ := q
    refine ⟨inL_setI.2 q1, q2, ?_, ?_⟩
    · simp only; rw [hdv q1]; exact q3
    · simp only; rw [hvlan q1]; exact q4
  · obtain ⟨q1, q2, q3, q4, q5⟩ := q
    refine ⟨inL_setI.2 q1, q2, ?_, ?_, q5⟩
    · simp only; rw [hdv q1]; exact q3
    · simp only
      rw [hg q1]
      have : (getI n.irbs i).domain ≠ k := fun e => by
        rw [e, hz] at q4; have := hi.1; omega
      rw [if_neg this]; exact q4
  · refine ⟨?_, hv, ?_, ?_, hb⟩
    · rw [hd]; exact inL_setI.2 hk
    · rw [hd]; simp only; rw [hdv hk]; exact hdev
    · rw [hd]; simp only; rw [hg hk, if_pos rfl]
end
end Go.Eng
