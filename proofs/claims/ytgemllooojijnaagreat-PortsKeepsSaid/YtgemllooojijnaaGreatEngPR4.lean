/- Plain laws of nets that may be, changed: a port, and domains. -/
import Derived.Test.YtgemllooojijnaaGreatEngPR
set_option linter.unusedVariables false
set_option linter.unusedSectionVars false
set_option linter.unusedSimpArgs false
namespace Go.Eng
open Go Classical
attribute [local congr] ite_cg
section
variable {n : Api_Net}
theorem domIx_app {l : List Api_Domain} {x : Api_Domain} {a b : Int} : domIx (l ++ [x]) a b = if 0 ≤ domIx l a b then domIx l a b else if x.dev = a ∧ x.vlan = b then (l.length : Int) else -1 := by
  unfold domIx
  rw [fstI_app]
  by_cases h : 0 ≤ fstI l fun d => d.dev = a ∧ d.vlan = b
  · rw [if_pos h, if_pos h]
  · rw [if_neg h, if_neg h]
    by_cases h2 : x.dev = a ∧ x.vlan = b
    · rw [if_pos h2, if_pos h2]
    · rw [if_neg h2, if_neg h2]
/-- With a domain. -/
theorem right_dom (hr : RightP n) {x : Api_Domain} (hd : inL n.devices x.dev) (hv : 1 ≤ x.vlan ∧ x.vlan ≤ 4094) (h0 : x.vni = 0) (hi : x.irb = -1) (hp : x.peers = []) (hx : domIx n.domains x.dev x.vlan < 0) (hc : n.domains.length < 48) :
    RightP { n with domains := n.domains ++ [x] } := by
  obtain ⟨a1, b, c, d, e, f, g, h⟩ := hr.few
  refine ⟨⟨a1, b, c, by simp; omega, e, f, g, h⟩, eachP_app1.2 ⟨eachP_mono hr.bare fun i hi q => ?_, ?_⟩, eachP_app1.2 ⟨eachP_mono hr.peers fun i hi q j hj => ?_, ?_⟩, eachP_mono hr.ports fun i hi q => ?_, hr.links, eachP_mono hr.statics fun i hi q => ?_, hr.floods, hr.vrfs, eachP_mono hr.irbs fun i hi q => ?_⟩
  · obtain ⟨q1, q2, q3, q4, q5, q6, q7⟩ := q
    refine ⟨q1, q2, q3, q4, q5, q6, ?_⟩
    simp only
    rw [domIx_app, if_pos (by rw [q7]; exact hi.1), q7]
  · refine ⟨hd, hv.1, hv.2, by omega, by omega, .inl hi, ?_⟩
    simp only
    rw [domIx_app, if_neg (by omega), if_pos ⟨rfl, rfl⟩]
  · obtain ⟨⟨q1, q2, q3, q4, q5, q6, q7, q8, q9⟩, q10⟩ := q j hj
    refine ⟨⟨inL_app q1, q2, ?_, ?_, ?_, q6, ?_, q8, ?_⟩, q10⟩ <;> simp only <;> rw [getI_app q1] <;> assumption
  · intro j hj
    rw [hp] at hj
    have := hj.2; have := hj.1
    simp at *; omega
  · obtain ⟨q1, q2, q3, q4, q5, q6, q7, q8, q9⟩ := q
    refine ⟨q1, q2, q3, q4, q5, q6, fun v hv => ?_, fun h0 => ?_, q9⟩
    · simp only; rw [domIx_app, if_pos (q7 v hv)]; exact q7 v hv
    · simp only; rw [domIx_app, if_pos (q8 h0)]; exact q8 h0
  · obtain ⟨q1, q2, q3, q4⟩ := q
    refine ⟨inL_app q1, q2, ?_, ?_⟩ <;> simp only <;> rw [getI_app q1] <;> assumption
  · obtain ⟨q1, q2, q3, q4, q5⟩ := q
    refine ⟨inL_app q1, q2, ?_, ?_, q5⟩ <;> simp only <;> rw [getI_app q1] <;> assumption
/-- With a port. -/
theorem right_port (hr : RightP n) {p : Api_Port} (hp : PortP n n.ports.length p) (hc : n.ports.length < 40) : RightP { n with ports := n.ports ++ [p] } := by
  obtain ⟨a1, b, c, d, e, f, g, h⟩ := hr.few
  refine ⟨⟨a1, by simp; omega, c, d, e, f, g, h⟩, hr.bare, hr.peers, eachP_app1.2 ⟨hr.ports, hp⟩, eachP_mono hr.links fun i hi q => ?_, eachP_mono hr.statics fun i hi q => ?_, hr.floods, hr.vrfs, hr.irbs⟩
  · obtain ⟨q1, q2, q3, q4, q5⟩ := q
    refine ⟨inL_app q1, inL_app q2, ?_, ?_, ?_⟩ <;> simp only
    · rw [getI_app q1, getI_app q2]; exact q3
    · rw [getI_app q1]; exact q4
    · rw [getI_app q2]; exact q5
  · obtain ⟨q1, q2, q3, q4⟩ := q
    refine ⟨q1, inL_app q2, ?_, ?_⟩ <;> simp only <;> rw [getI_app q2] <;> assumption
/-- A domain put, if it is not there. -/
noncomputable def putD (dev : Int) (l : List Api_Domain) (v : Int) : List Api_Domain := if 0 < v ∧ domIx l dev v < 0 then l ++ [⟨dev, v, 0, -1, 0, []⟩] else l
theorem putD_len {dev v : Int} {l : List Api_Domain} : l.length ≤ (putD dev l v).length := by unfold putD; split <;> simp
theorem right_putD (hr : RightP n) {dev v : Int} (hd : inL n.devices dev) (hv : v ≤ 4094) (hc : (putD dev n.domains v).length ≤ 48) : RightP { n with domains := putD dev n.domains v } := by
  by_cases c : 0 < v ∧ domIx n.domains dev v < 0
  · have e : putD dev n.domains v = n.domains ++ [⟨dev, v, 0, -1, 0, []⟩] := if_pos c
    rw [e] at hc ⊢
    exact right_dom hr (x := ⟨dev, v, 0, -1, 0, []⟩) hd ⟨by simp only; omega, hv⟩ rfl rfl rfl c.2 (by simp at hc; omega)
  · have e : putD dev n.domains v = n.domains := if_neg c
    rw [e]; exact hr
theorem putD_ix {dev v : Int} {l : List Api_Domain} (hv : 0 < v) : 0 ≤ domIx (putD dev l v) dev v := by
  unfold putD
  by_cases c : domIx l dev v < 0
  · rw [if_pos ⟨hv, c⟩, domIx_app, if_neg (by omega), if_pos ⟨rfl, rfl⟩]; omega
  · rw [if_neg (fun h => c h.2)]; omega
theorem putD_keep {dev v a b : Int} {l : List Api_Domain} (h : 0 ≤ domIx l a b) : domIx (putD dev l v) a b = domIx l a b := by
  unfold putD
  split
  · rw [domIx_app, if_pos h]
  · rfl
theorem right_putDs {dev : Int} : ∀ (vs : List Int) (n : Api_Net), RightP n → inL n.devices dev → (∀ v ∈ vs, v ≤ 4094) → (vs.foldl (putD dev) n.domains).length ≤ 48 → RightP { n with domains := vs.foldl (putD dev) n.domains }
  | [], n, hr, _, _, _ => hr
  | v :: vs, n, hr, hd, hv, hc => by
    have hmono : ∀ (vs : List Int) (l : List Api_Domain), l.length ≤ (vs.foldl (putD dev) l).length := by
      intro vs
      induction vs with
      | nil => intro l; exact Nat.le_refl _
      | cons v vs ih => intro l; exact Nat.le_trans putD_len (ih _)
    rw [List.foldl_cons] at hc
    have h1 := right_putD hr (v := v) hd (hv v (by simp)) (Nat.le_trans (hmono vs _) hc)
    exact right_putDs vs { n with domains := putD dev n.domains v } h1 hd (fun x hx => hv x (by simp [hx])) hc
end
end Go.Eng
