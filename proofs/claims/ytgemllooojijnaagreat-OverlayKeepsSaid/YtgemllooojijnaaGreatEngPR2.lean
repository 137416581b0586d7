/- Plain laws of nets that may be, changed: a VNI. -/
import Derived.Test.YtgemllooojijnaaGreatEngPR
set_option linter.unusedVariables false
set_option linter.unusedSectionVars false
set_option linter.unusedSimpArgs false
namespace Go.Eng
open Go Classical
attribute [local congr] ite_cg
section
variable {n : Api_Net}
/-- With a domain's VNI. -/
theorem right_vni (hr : RightP n) {k : Int} (hk : inL n.domains k) (hz : (getI n.domains k).vni = 0) {v r : Int} (h1 : 1 ≤ v) (h2 : v ≤ 16777215) :
    RightP { n with domains := n.domains.set k.toNat { getI n.domains k with vni := v, row := r } } := by
  obtain ⟨a1, b, c, d, e, f, g, h⟩ := hr.few
  have hg : ∀ {i}, inL n.domains i → getI (n.domains.set k.toNat { getI n.domains k with vni := v, row := r }) i = if i = k then { getI n.domains k with vni := v, row := r } else getI n.domains i := fun hi => getI_setI hk hi
  have hdev : ∀ {i}, inL n.domains i → (getI (n.domains.set k.toNat { getI n.domains k with vni := v, row := r }) i).dev = (getI n.domains i).dev := fun {i} hi => by
    rw [hg hi]; by_cases q : i = k
    · rw [if_pos q, q]
    · rw [if_neg q]
  have hvlan : ∀ {i}, inL n.domains i → (getI (n.domains.set k.toNat { getI n.domains k with vni := v, row := r }) i).vlan = (getI n.domains i).vlan := fun {i} hi => by
    rw [hg hi]; by_cases q : i = k
    · rw [if_pos q, q]
    · rw [if_neg q]
  have hirb : ∀ {i}, inL n.domains i → (getI (n.domains.set k.toNat { getI n.domains k with vni := v, row := r }) i).irb = (getI n.domains i).irb := fun {i} hi => by
    rw [hg hi]; by_cases q : i = k
    · rw [if_pos q, q]
    · rw [if_neg q]
  have hix : ∀ a b, domIx (n.domains.set k.toNat { getI n.domains k with vni := v, row := r }) a b = domIx n.domains a b := fun a b =>
    (fstI_congr (by simp) fun i hi => by rw [hdev hi, hvlan hi]).symm
  refine ⟨⟨a1, b, c, by simp; omega, e, f, g, h⟩, fun i hi => ?_, fun i hi => ?_, eachP_mono hr.ports fun i hi q => ?_, hr.links, eachP_mono hr.statics fun i hi q => ?_, hr.floods, hr.vrfs, eachP_mono hr.irbs fun i hi q => ?_⟩
  · have hi' := inL_setI.1 hi
    obtain ⟨q1, q2, q3, q4, q5, q6, q7⟩ := hr.bare i hi'
    unfold BareP
    simp only
    rw [hix, hdev hi', hvlan hi', hirb hi']
    refine ⟨q1, q2, q3, ?_, ?_, q6, q7⟩
    · rw [hg hi']; split
      · simp only; omega
      · exact q4
    · rw [hg hi']; split
      · simp only; omega
      · exact q5
  · have hi' := inL_setI.1 hi
    have hp := hr.peers i hi'
    simp only
    rw [hg hi']
    by_cases q : i = k
    · rw [if_pos q]
      intro j hj
      subst q
      obtain ⟨⟨_, _, _, _, _, q6, _⟩, _⟩ := hp j hj
      exact absurd hz q6
    · rw [if_neg q]
      intro j hj
      obtain ⟨⟨q1, q2, q3, q4, q5, q6, q7, q8, q9⟩, q10⟩ := hp j hj
      have hne : getI (getI n.domains i).peers j ≠ k := fun e => by
        rw [e] at q5; rw [hz] at q5; exact q6 q5.symm
      have hs : getI (n.domains.set k.toNat { getI n.domains k with vni := v, row := r }) (getI (getI n.domains i).peers j) = getI n.domains (getI (getI n.domains i).peers j) := by rw [hg q1, if_neg hne]
      refine ⟨⟨inL_setI.2 q1, q2, ?_, ?_, ?_, q6, ?_, q8, ?_⟩, q10⟩ <;> simp only <;> rw [hs] <;> assumption
  · obtain ⟨q1, q2, q3, q4, q5, q6, q7, q8, q9⟩ := q
    refine ⟨q1, q2, q3, q4, q5, q6, fun v hv => ?_, fun h0 => ?_, q9⟩
    · simp only; rw [hix]; exact q7 v hv
    · simp only; rw [hix]; exact q8 h0
  · obtain ⟨q1, q2, q3, q4⟩ := q
    refine ⟨inL_setI.2 q1, q2, ?_, ?_⟩
    · simp only; rw [hdev q1]; exact q3
    · simp only; rw [hvlan q1]; exact q4
  · obtain ⟨q1, q2, q3, q4, q5⟩ := q
    refine ⟨inL_setI.2 q1, q2, ?_, ?_, q5⟩
    · simp only; rw [hdev q1]; exact q3
    · simp only; first | (rw [hirb q1]; exact q4) | exact q4
end
end Go.Eng
