/- Part of the proof of DomainsTells: plain laws of the printed mirrors. No conditions. -/
import Derived.Test.YtngflgclljfmjaaGreatEngGP1
import Derived.Test.YtngflgclljfmjaaGreatEngGPE
set_option linter.unusedVariables false
set_option linter.unusedSectionVars false
set_option linter.unusedSimpArgs false
namespace Go.Eng
open Go Classical
attribute [local congr] ite_cg
section
variable {n : Api_Net}
def InDom (n : Api_Net) (k : Int) (p : Api_Port) : Prop := p.dev = (getI n.domains k).dev ∧ MemP p (getI n.domains k).vlan
noncomputable def membersL (n : Api_Net) (k : Int) : List Int := gatherI n.ports (fun _ p => InDom n k p) (fun i _ => i)
end
end Go.Eng

set_option linter.unusedVariables false
set_option linter.unusedSectionVars false
set_option linter.unusedSimpArgs false
namespace Go.Eng
open Go Classical
attribute [local congr] ite_cg
section
variable {n : Api_Net}
theorem names_Members_spec (hs : SmN n) {k : Int} : names_Members n k = some (if RightP n ∧ inL n.domains k then membersL n k else []) := by
  by_cases hr : RightP n
  case neg => simp [names_Members, names_Right_spec hs, hr]
  by_cases hk : inL n.domains k
  case neg => simp [names_Members, names_Right_spec hs, place_Domain_spec, hr, hk]
  simp only [names_Members, names_Right_spec hs, place_Domain_spec, hr, hk, decide_true, and_self, if_true, Option.bind_some]
  rw [loop_gather n.ports (fun _ p => InDom n k p) (fun i _ => i) (out := id) hs.ports (fun i s h0 h1 h2 h3 => by
    have h4 := hs.ports
    have h5 : roomy 8 (s ++ [i]) = true := roomy_few (by simp; omega)
    simp (disch := omega) only [names_Members_L1, h1, nth_getI h2, nth_getI hk, Member_spec (hs.tagged _ (getI_mem h2)), wr64, h5, bind_ite, Option.bind_some, dif1, dif2, dif3, dif4, dif5, dif6, dif7, dnot, ibeq, ibne, decide_eq_true_eq, if_not2, ge_iff_le, gt_iff_lt, fst_ret, Bool.false_eq_true, decide_false, decide_true, if_true, InDom]
    grind) (fun s => by simp [names_Members_L1])]
  rfl

end
end Go.Eng

set_option linter.unusedVariables false
set_option linter.unusedSectionVars false
set_option linter.unusedSimpArgs false
namespace Go.Eng
open Go Classical
attribute [local congr] ite_cg
variable {n : Api_Net}

noncomputable def othI (n : Api_Net) (p : Int) : Int :=
  if RightP n ∧ inL n.ports p ∧ 0 ≤ (getI n.ports p).link then
    (if (getI n.links (getI n.ports p).link).a = p then (getI n.links (getI n.ports p).link).b else (getI n.links (getI n.ports p).link).a)
  else -1

theorem RightP.link (h : RightP n) {p : Int} (hp : inL n.ports p) (hl : 0 ≤ (getI n.ports p).link) :
    inL n.links (getI n.ports p).link ∧ ((getI n.links (getI n.ports p).link).a = p ∨ (getI n.links (getI n.ports p).link).b = p) := by
  have := (h.ports p hp).2.2.2.2.2.2.2.2
  rcases this with h1 | h1
  · omega
  · exact h1

structure OthP (n : Api_Net) (p q : Int) : Prop where
  ip : inL n.ports p
  iq : inL n.ports q
  ik : inL n.links (getI n.ports p).link
  link : (getI n.ports q).link = (getI n.ports p).link
  dev : (getI n.ports q).dev ≠ (getI n.ports p).dev
  ends : (p = (getI n.links (getI n.ports p).link).a ∧ q = (getI n.links (getI n.ports p).link).b) ∨ (p = (getI n.links (getI n.ports p).link).b ∧ q = (getI n.links (getI n.ports p).link).a)

theorem OthP.back (hr : RightP n) {p q : Int} (h : OthP n p q) : othI n q = p := by
  unfold othI
  have h0 := h.ik.1
  rw [if_pos ⟨hr, h.iq, by rw [h.link]; exact h0⟩, h.link]
  have hd := h.dev
  rcases h.ends with ⟨e1, e2⟩ | ⟨e1, e2⟩
  · rw [if_neg, ← e1]
    intro e
    rw [← e1] at e
    exact hd (by rw [e])
  · rw [if_pos e2.symm, ← e1]

end Go.Eng

set_option linter.unusedVariables false
set_option linter.unusedSectionVars false
set_option linter.unusedSimpArgs false
namespace Go.Eng
open Go Classical
attribute [local congr] ite_cg

theorem rPlace_spec {α : Type} {l : List α} {i : Int} : palingref15_Place i (l.length : Int) = some (decide (inL l i)) := by
  simp only [palingref15_Place, bind_ite, Option.bind_some, dif1, dif2, dif3, dif4, dif5, dif6, dif7, dnot, ibeq, ibne, decide_eq_true_eq, if_not2, ge_iff_le, gt_iff_lt, fst_ret, Bool.false_eq_true, decide_false]; exact sdec Iff.rfl

theorem rAt_spec {n : Api_Net} {a b : Int} (hl : Few n.domains) : palingref15_At n a b = some (domIx n.domains a b) := by
  unfold palingref15_At
  rw [loop_first n.domains (fun d => d.dev = a ∧ d.vlan = b) hl (fun i h0 h1 h2 => by
    simp (disch := omega) only [palingref15_At_L1, h1, nth_getI h2, wr64, bind_ite, Option.bind_some, dif1, dif2, dif3, dif4, dif5, dif6, dif7, dnot, ibeq, ibne, decide_eq_true_eq, if_not2, ge_iff_le, gt_iff_lt, fst_ret, Bool.false_eq_true, decide_false, mrg1, mrg2, mrg3, mrg4, mrg5, mrg6, mrg7, decide_true, if_true]; exact fpos Iff.rfl) (by simp [palingref15_At_L1])]
  simp only [bind_ite, Option.bind_some, dif1, dif2, dif3, dif4, dif5, dif6, dif7, dnot, ibeq, ibne, decide_eq_true_eq, if_not2, ge_iff_le, gt_iff_lt, fst_ret, Bool.false_eq_true, decide_false]
  rfl

theorem rIn_spec {l : List Int} {x : Int} (hl : Few l) : palingref15_In l x = some (decide (x ∈ l)) := by
  unfold palingref15_In
  rw [loop_each l (fun _ y => ¬ y = x) (.inl ()) (.inr ()) hl (fun i h0 h1 h2 => by
    simp (disch := omega) only [palingref15_In_L1, h1, nth_getI h2, wr64, bind_ite, Option.bind_some, dif1, dif2, dif3, dif4, dif5, dif6, dif7, dnot, ibeq, ibne, decide_eq_true_eq, if_not2, ge_iff_le, gt_iff_lt, fst_ret, Bool.false_eq_true, decide_false, mrg1, mrg2, mrg3, mrg4, mrg5, mrg6, mrg7, decide_true, if_true]; exact fpos Iff.rfl) (by simp [palingref15_In_L1])]
  simp only [bind_ite, Option.bind_some, dif1, dif2, dif3, dif4, dif5, dif6, dif7, dnot, ibeq, ibne, decide_eq_true_eq, if_not2, ge_iff_le, gt_iff_lt, fst_ret, Bool.false_eq_true, decide_false, eachP_mem]
  refine sdec ?_
  constructor
  · intro h
    apply Classical.byContradiction
    intro hn
    exact h fun y hy e => hn (e ▸ hy)
  · intro h hn
    exact hn x h rfl

theorem rRising3_spec {l : List Int} {a b : Int} (hl : Few l) : palingref03_Rising l a b = some (decide (RisingP l a b)) := by
  unfold palingref03_Rising
  rw [loop_each l (fun i x => a ≤ x ∧ x ≤ b ∧ (0 < i → getI l (i - 1) < x)) (.inl ()) (.inr ()) hl (fun i h0 h1 h2 => by
    by_cases hi : 0 < i
    · have h3 : inL l (i - 1) := ⟨by omega, by omega⟩
      simp (disch := omega) only [palingref03_Rising_L1, h1, hi, nth_getI h2, wr64, nth_getI h3, bind_ite, Option.bind_some, dif1, dif2, dif3, dif4, dif5, dif6, dif7, dnot, ibeq, ibne, decide_eq_true_eq, if_not2, ge_iff_le, gt_iff_lt, fst_ret, Bool.false_eq_true, decide_false, mrg1, mrg2, mrg3, mrg4, mrg5, mrg6, mrg7, decide_true, if_true]
      exact fneg (by grind)
    · simp (disch := omega) only [palingref03_Rising_L1, h1, hi, nth_getI h2, wr64, bind_ite, Option.bind_some, dif1, dif2, dif3, dif4, dif5, dif6, dif7, dnot, ibeq, ibne, decide_eq_true_eq, if_not2, ge_iff_le, gt_iff_lt, fst_ret, Bool.false_eq_true, decide_false, mrg1, mrg2, mrg3, mrg4, mrg5, mrg6, mrg7, decide_true, if_true, if_false]
      exact fneg (by grind)) (by simp [palingref03_Rising_L1])]
  simp only [bind_ite, Option.bind_some, dif1, dif2, dif3, dif4, dif5, dif6, dif7, dnot, ibeq, ibne, decide_eq_true_eq, if_not2, ge_iff_le, gt_iff_lt, fst_ret, Bool.false_eq_true, decide_false]
  refine sdec ?_
  unfold RisingP
  constructor
  · rintro ⟨h1, h2, h3⟩; exact ⟨h3, by omega, by omega⟩
  · rintro ⟨h1, h2, h3⟩; exact ⟨by omega, by omega, h1⟩

theorem rrising_spec {l : List Int} {b : Int} (hl : Few l) : palingref15_rising l b = some (decide (RiseP l b)) := by
  simp only [palingref15_rising, rRising3_spec hl, bind_ite, Option.bind_some, dif1, dif2, dif3, dif4, dif5, dif6, dif7, dnot, ibeq, ibne, decide_eq_true_eq, if_not2, ge_iff_le, gt_iff_lt, fst_ret, Bool.false_eq_true, decide_false]
  refine sdec ?_
  unfold RiseP
  cases l <;> simp; omega

theorem rMember_spec {p : Api_Port} {v : Int} (hp : Few p.tagged) : palingref15_Member p v = some (decide (MemP p v)) := by
  simp +contextual only [palingref15_Member, rIn_spec hp, bind_ite, Option.bind_some, dif1, dif2, dif3, dif4, dif5, dif6, dif7, dnot, ibeq, ibne, decide_eq_true_eq, if_not2, ge_iff_le, gt_iff_lt, fst_ret, Bool.false_eq_true, decide_false]
  exact sdec (by unfold MemP; grind)

section
variable {n : Api_Net}
theorem rdom1_spec (hs : SmN n) : loopM (palingref15_domains_L1 n) 0 = if EachP n.domains (BareP n) then some (.inr ()) else some (.inl ()) := by
  refine loop_each (ρ := Unit ⊕ Unit) n.domains (BareP n) (.inl ()) (.inr ()) hs.domains (fun i h0 h1 h2 => ?_) (by simp [palingref15_domains_L1])
  have := hs.domains
  by_cases c : inL n.irbs (getI n.domains i).irb <;>
    simp (disch := omega) only [palingref15_domains_L1, h1, nth_getI, h2, c, rPlace_spec, rAt_spec hs.domains, wr64, bind_ite, Option.bind_some, dif1, dif2, dif3, dif4, dif5, dif6, dif7, dnot, ibeq, ibne, decide_eq_true_eq, if_not2, ge_iff_le, gt_iff_lt, fst_ret, Bool.false_eq_true, decide_false, mrg1, mrg2, mrg3, mrg4, mrg5, mrg6, mrg7, decide_true, if_true, if_false, Classical.not_not, not_true_eq_false, not_false_eq_true] <;>
    (first | refine fpos ?_ | refine fneg ?_) <;> unfold BareP <;> grind

theorem rpeer_spec (hs : SmN n) (hb : EachP n.domains (BareP n)) {i k : Int} (hi : inL n.domains i) : palingref15_peer n i k = some (decide (PeerP n i (getI n.domains i) k)) := by
  have hp : inL n.domains k → Few (getI n.domains k).peers := fun h => hs.peers _ (getI_mem h)
  have hd : ∀ {j}, inL n.domains j → inL n.devices (getI n.domains j).dev := fun h => (hb _ h).1
  simp +contextual only [palingref15_peer, rPlace_spec, nth_getI, hi, hd, rIn_spec, hp, bind_ite, Option.bind_some, dif1, dif2, dif3, dif4, dif5, dif6, dif7, dnot, ibeq, ibne, decide_eq_true_eq, if_not2, ge_iff_le, gt_iff_lt, fst_ret, Bool.false_eq_true, decide_false]
  refine sdec ?_
  unfold PeerP vtepP
  grind

theorem rdom2_spec (hs : SmN n) (hb : EachP n.domains (BareP n)) : loopM (palingref15_domains_L2 n) 0 = if EachP n.domains (PeersP n) then some (.inr ()) else some (.inl ()) := by
  refine loop_each (ρ := Unit ⊕ Unit) n.domains (PeersP n) (.inl ()) (.inr ()) hs.domains (fun i h0 h1 h2 => ?_) (by simp [palingref15_domains_L2])
  have hd := hs.domains
  have hp := hs.peers _ (getI_mem h2)
  simp (disch := omega) only [palingref15_domains_L2, h1, nth_getI h2, wr64, bind_ite, Option.bind_some, dif1, dif2, dif3, dif4, dif5, dif6, dif7, dnot, ibeq, ibne, decide_eq_true_eq, if_not2, ge_iff_le, gt_iff_lt, fst_ret, Bool.false_eq_true, decide_false, decide_true, if_true]
  rw [loop_each (getI n.domains i).peers (fun j k => PeerP n i (getI n.domains i) k ∧ fstI (getI n.domains i).peers (fun y => k = y) = j) (.inl ()) (.inr ()) hp (fun j g0 g1 g2 => by
    have hs1 : slok (List.length (getI n.domains i).peers) 0 j = true := by rw [slok_dec]; exact decide_eq_true ⟨by omega, by omega, by omega⟩
    have hft : Few (List.drop (Int.toNat 0) (List.take j.toNat (getI n.domains i).peers)) := by simp [Few] at hp ⊢; omega
    simp (disch := omega) only [palingref15_domains_L3, g1, nth_getI g2, rpeer_spec hs hb h2, hs1, rIn_spec hft, wr64, bind_ite, Option.bind_some, dif1, dif2, dif3, dif4, dif5, dif6, dif7, dnot, ibeq, ibne, decide_eq_true_eq, if_not2, ge_iff_le, gt_iff_lt, fst_ret, Bool.false_eq_true, decide_false, mrg1, mrg2, mrg3, mrg4, mrg5, mrg6, mrg7, decide_true, if_true]
    refine fneg ?_
    rw [fst_take g2]
    simp
    grind) (by simp [palingref15_domains_L3])]
  simp only [bind_ite, Option.bind_some, dif1, dif2, dif3, dif4, dif5, dif6, dif7, dnot, ibeq, ibne, decide_eq_true_eq, if_not2, ge_iff_le, gt_iff_lt, fst_ret, Bool.false_eq_true, decide_false]
  exact fpos Iff.rfl

theorem rdomains_spec (hs : SmN n) : palingref15_domains n = some (decide (EachP n.domains (BareP n) ∧ EachP n.domains (PeersP n))) := by
  unfold palingref15_domains
  rw [rdom1_spec hs]
  by_cases hb : EachP n.domains (BareP n)
  · rw [rdom2_spec hs hb]
    simp only [hb, bind_ite, Option.bind_some, dif1, dif2, dif3, dif4, dif5, dif6, dif7, dnot, ibeq, ibne, decide_eq_true_eq, if_not2, ge_iff_le, gt_iff_lt, fst_ret, Bool.false_eq_true, decide_false, if_true, true_and]
  · simp [hb]

theorem rports_spec (hs : SmN n) : palingref15_ports n = some (decide (EachP n.ports (PortP n))) := by
  unfold palingref15_ports
  rw [loop_each n.ports (PortP n) (.inl ()) (.inr ()) hs.ports (fun i h0 h1 h2 => by
    have hp := hs.tagged _ (getI_mem h2)
    have hps := hs.ports
    have hl : loopM (palingref15_ports_L3 n i (getI n.ports i)) 0 = if ∀ v ∈ (getI n.ports i).tagged, 0 ≤ domIx n.domains (getI n.ports i).dev v then some (.inr ()) else some (.inl ()) := by
      rw [loop_each (getI n.ports i).tagged (fun _ v => 0 ≤ domIx n.domains (getI n.ports i).dev v) (.inl ()) (.inr ()) hp (fun j g0 g1 g2 => by
        simp (disch := omega) only [palingref15_ports_L3, rAt_spec hs.domains, nth_getI g2, wr64, g1, bind_ite, Option.bind_some, dif1, dif2, dif3, dif4, dif5, dif6, dif7, dnot, ibeq, ibne, decide_eq_true_eq, if_not2, ge_iff_le, gt_iff_lt, fst_ret, Bool.false_eq_true, decide_false, mrg1, mrg2, mrg3, mrg4, mrg5, mrg6, mrg7, decide_true, if_true]
        exact fneg (by omega)) (by simp [palingref15_ports_L3])]
      simp only [eachP_mem]
    have h3 : (((getI n.ports i).tagged.length : Int) = 0) ↔ (getI n.ports i).tagged = [] := by simp
    by_cases c : inL n.links (getI n.ports i).link <;>
    simp (disch := omega) only [palingref15_ports_L1, palingref15_ports_J2, h1, nth_getI h2, nth_getI, c, rPlace_spec, rAt_spec hs.domains, rrising_spec hp, rIn_spec hp, hl, h3, wr64, bind_ite, Option.bind_some, dif1, dif2, dif3, dif4, dif5, dif6, dif7, dnot, ibeq, ibne, decide_eq_true_eq, if_not2, ge_iff_le, gt_iff_lt, fst_ret, Bool.false_eq_true, decide_false, mrg1, mrg2, mrg3, mrg4, mrg5, mrg6, mrg7, decide_true, if_true, if_false, Classical.not_not, not_true_eq_false, not_false_eq_true] <;>
    (first | refine fpos ?_ | refine fneg ?_) <;> unfold PortP <;> simp only [c] <;> clear hl <;>
    generalize getI n.ports i = p <;>
    generalize (∀ v ∈ p.tagged, 0 ≤ domIx n.domains p.dev v) = A <;>
    generalize domIx n.domains p.dev p.native = B <;>
    generalize RiseP p.tagged 4094 = C <;>
    generalize inL n.devices p.dev = E <;>
    generalize (p.native ∈ p.tagged) = G <;>
    generalize (p.tagged = []) = F <;> grind) (by simp [palingref15_ports_L1])]
  simp only [bind_ite, Option.bind_some, dif1, dif2, dif3, dif4, dif5, dif6, dif7, dnot, ibeq, ibne, decide_eq_true_eq, if_not2, ge_iff_le, gt_iff_lt, fst_ret, Bool.false_eq_true, decide_false]

theorem rlinks_spec (hs : SmN n) : palingref15_links n = some (decide (EachP n.links (LinkP n))) := by
  unfold palingref15_links
  rw [loop_each n.links (LinkP n) (.inl ()) (.inr ()) hs.links (fun i h0 h1 h2 => by
    have := hs.links
    simp +contextual (disch := omega) only [palingref15_links_L1, h1, nth_getI, h2, rPlace_spec, wr64, bind_ite, Option.bind_some, dif1, dif2, dif3, dif4, dif5, dif6, dif7, dnot, ibeq, ibne, decide_eq_true_eq, if_not2, ge_iff_le, gt_iff_lt, fst_ret, Bool.false_eq_true, decide_false, decide_true, if_true]
    simp only [mrg1, mrg2, mrg3, mrg4, mrg5, mrg6, mrg7, Classical.not_not]
    first | refine fpos ?_ | refine fneg ?_
    unfold LinkP
    grind) (by simp [palingref15_links_L1])]
  simp only [bind_ite, Option.bind_some, dif1, dif2, dif3, dif4, dif5, dif6, dif7, dnot, ibeq, ibne, decide_eq_true_eq, if_not2, ge_iff_le, gt_iff_lt, fst_ret, Bool.false_eq_true, decide_false]

theorem rrest_spec (hs : SmN n) : palingref15_rest n = some (decide (EachP n.statics (fun _ x => StaticP n x) ∧ EachP n.floods (fun _ x => FloodP n x) ∧ EachP n.vrfs (fun _ x => VrfP n x) ∧ EachP n.irbs (IrbP n))) := by
  unfold palingref15_rest
  rw [loop_each n.statics (fun _ x => StaticP n x) (.inl ()) (.inr ()) hs.statics (fun i h0 h1 h2 => by
    have := hs.statics
    have hp : inL n.ports (getI n.statics i).port → ∀ v, palingref15_Member (getI n.ports (getI n.statics i).port) v = some (decide (MemP (getI n.ports (getI n.statics i).port) v)) := fun h v => rMember_spec (hs.tagged _ (getI_mem h))
    simp +contextual (disch := omega) only [palingref15_rest_L1, h1, nth_getI, h2, rPlace_spec, hp, wr64, bind_ite, Option.bind_some, dif1, dif2, dif3, dif4, dif5, dif6, dif7, dnot, ibeq, ibne, decide_eq_true_eq, if_not2, ge_iff_le, gt_iff_lt, fst_ret, Bool.false_eq_true, decide_false, decide_true, if_true]
    simp only [mrg1, mrg2, mrg3, mrg4, mrg5, mrg6, mrg7, Classical.not_not]
    first | refine fpos ?_ | refine fneg ?_
    unfold StaticP
    grind) (by simp [palingref15_rest_L1]),
   loop_each n.floods (fun _ x => FloodP n x) (.inl ()) (.inr ()) hs.floods (fun i h0 h1 h2 => by
    have := hs.floods
    simp +contextual (disch := omega) only [palingref15_rest_L2, h1, nth_getI, h2, rPlace_spec, wr64, bind_ite, Option.bind_some, dif1, dif2, dif3, dif4, dif5, dif6, dif7, dnot, ibeq, ibne, decide_eq_true_eq, if_not2, ge_iff_le, gt_iff_lt, fst_ret, Bool.false_eq_true, decide_false, decide_true, if_true]
    simp only [mrg1, mrg2, mrg3, mrg4, mrg5, mrg6, mrg7, Classical.not_not]
    first | refine fpos ?_ | refine fneg ?_
    unfold FloodP
    grind) (by simp [palingref15_rest_L2]),
   loop_each n.vrfs (fun _ x => VrfP n x) (.inl ()) (.inr ()) hs.vrfs (fun i h0 h1 h2 => by
    have := hs.vrfs
    simp +contextual (disch := omega) only [palingref15_rest_L3, h1, nth_getI, h2, rPlace_spec, rrising_spec (hs.imports _ (getI_mem h2)), rrising_spec (hs.exports _ (getI_mem h2)), wr64, bind_ite, Option.bind_some, dif1, dif2, dif3, dif4, dif5, dif6, dif7, dnot, ibeq, ibne, decide_eq_true_eq, if_not2, ge_iff_le, gt_iff_lt, fst_ret, Bool.false_eq_true, decide_false, decide_true, if_true]
    simp only [mrg1, mrg2, mrg3, mrg4, mrg5, mrg6, mrg7, Classical.not_not]
    first | refine fpos ?_ | refine fneg ?_
    unfold VrfP
    grind) (by simp [palingref15_rest_L3]),
   loop_each n.irbs (IrbP n) (.inl ()) (.inr ()) hs.irbs (fun i h0 h1 h2 => by
    have := hs.irbs
    simp +contextual (disch := omega) only [palingref15_rest_L4, h1, nth_getI, h2, rPlace_spec, wr64, bind_ite, Option.bind_some, dif1, dif2, dif3, dif4, dif5, dif6, dif7, dnot, ibeq, ibne, decide_eq_true_eq, if_not2, ge_iff_le, gt_iff_lt, fst_ret, Bool.false_eq_true, decide_false, decide_true, if_true]
    simp only [mrg1, mrg2, mrg3, mrg4, mrg5, mrg6, mrg7, Classical.not_not]
    first | refine fpos ?_ | refine fneg ?_
    unfold IrbP
    grind) (by simp [palingref15_rest_L4])]
  simp only [bind_ite, Option.bind_some, dif1, dif2, dif3, dif4, dif5, dif6, dif7, dnot, ibeq, ibne, decide_eq_true_eq, if_not2, ge_iff_le, gt_iff_lt, fst_ret, Bool.false_eq_true, decide_false]

theorem rRight_spec (hs : SmN n) : palingref15_Right n = some (decide (RightP n)) := by
  simp only [palingref15_Right, rdomains_spec hs, rports_spec hs, rlinks_spec hs, rrest_spec hs, bind_ite, Option.bind_some, dif1, dif2, dif3, dif4, dif5, dif6, dif7, dnot, ibeq, ibne, decide_eq_true_eq, if_not2, ge_iff_le, gt_iff_lt, fst_ret, Bool.false_eq_true, decide_false]
  refine sdec ?_
  rw [rightP_iff]
  unfold FewP
  constructor
  · rintro ⟨a, b, c, d, e, f, g, h, ⟨i, j⟩, k, l, m⟩; exact ⟨⟨by omega, by omega, by omega, by omega, by omega, by omega, by omega, by omega⟩, i, j, k, l, m⟩
  · rintro ⟨⟨a, b, c, d, e, f, g, h⟩, i, j, k, l, m⟩; exact ⟨by omega, by omega, by omega, by omega, by omega, by omega, by omega, by omega, ⟨i, j⟩, k, l, m⟩
end
end Go.Eng

set_option linter.unusedVariables false
set_option linter.unusedSectionVars false
set_option linter.unusedSimpArgs false
namespace Go.Eng
open Go Classical
attribute [local congr] ite_cg
variable {n : Api_Net}

end Go.Eng

set_option linter.unusedVariables false
set_option linter.unusedSectionVars false
set_option linter.unusedSimpArgs false
namespace Go.Eng
open Go Classical
attribute [local congr] ite_cg
section
theorem rInts_spec {l r : List Int} (hb : Few l) : palingref03_Ints l r = some (decide (l = r)) := by
  by_cases hl : l.length = r.length
  · have hli : ¬ ((l.length : Int) ≠ (r.length : Int)) := by omega
    simp only [palingref03_Ints, ibne, decide_eq_true_eq, if_neg hli]
    rw [loop_eq l r hl hb (fun i h0 h1 h2 h3 => by
      simp (disch := omega) only [palingref03_Ints_L1, h1, nth_getI h2, nth_getI h3, wr64, bind_ite, Option.bind_some, dif1, dif2, dif3, dif4, dif5, dif6, dif7, dnot, ibeq, ibne, decide_eq_true_eq, if_not2, ge_iff_le, gt_iff_lt, fst_ret, Bool.false_eq_true, decide_false, mrg1, mrg2, mrg3, mrg4, mrg5, mrg6, mrg7, decide_true, if_true]; exact fpos Iff.rfl) (by simp [palingref03_Ints_L1])]
    simp only [bind_ite, Option.bind_some, dif1, dif2, dif3, dif4, dif5, dif6, dif7, dnot, ibeq, ibne, decide_eq_true_eq, if_not2, ge_iff_le, gt_iff_lt, fst_ret, Bool.false_eq_true, decide_false]
  · have hli : ((l.length : Int) ≠ (r.length : Int)) := by omega
    have : ¬ l = r := fun e => hl (by rw [e])
    simp [palingref03_Ints, hli, this]
end
end Go.Eng

set_option linter.unusedVariables false
set_option linter.unusedSectionVars false
set_option linter.unusedSimpArgs false
namespace Go.Eng
open Go Classical
attribute [local congr] ite_cg
section
end
end Go.Eng

set_option linter.unusedVariables false
set_option linter.unusedSectionVars false
set_option linter.unusedSimpArgs false
namespace Go.Eng
open Go Classical
attribute [local congr] ite_cg
section
variable {n : Api_Net}
theorem membersL_in {k p : Int} (h : p ∈ membersL n k) : inL n.ports p := by
  obtain ⟨i, hi, _, rfl⟩ := mem_gatherI.1 h
  exact hi
theorem membersL_len {k : Int} : (membersL n k).length ≤ n.ports.length := gatherI_len
theorem rMembers_spec (hs : SmN n) {k : Int} : palingref15_Members n k = some (if inL n.domains k then membersL n k else []) := by
  by_cases hk : inL n.domains k
  case neg => simp [palingref15_Members, rPlace_spec, hk]
  simp only [palingref15_Members, rPlace_spec, hk, nth_getI hk, decide_true, Bool.not_true, Bool.false_eq_true, if_false, if_true, Option.bind_some]
  rw [loop_gather n.ports (fun _ p => InDom n k p) (fun i _ => i) (out := id) hs.ports (fun i s h0 h1 h2 h3 => by
    have h4 := hs.ports
    have h5 : roomy 8 (s ++ [i]) = true := roomy_few (by simp; omega)
    simp (disch := omega) only [palingref15_Members_L1, h1, nth_getI h2, rMember_spec (hs.tagged _ (getI_mem h2)), wr64, h5, bind_ite, Option.bind_some, dif1, dif2, dif3, dif4, dif5, dif6, dif7, dnot, ibeq, ibne, decide_eq_true_eq, if_not2, ge_iff_le, gt_iff_lt, fst_ret, Bool.false_eq_true, decide_false, decide_true, if_true, InDom]
    grind) (fun s => by simp [palingref15_Members_L1])]
  rfl

end
end Go.Eng

set_option linter.unusedVariables false
set_option linter.unusedSectionVars false
set_option linter.unusedSimpArgs false
namespace Go.Eng
open Go Classical
attribute [local congr] ite_cg

/-! ### Items deleted -/
theorem filter_none_lt {α : Type} [Inhabited α] {l : List α} {K : α → Bool} {i : Int} (h0 : 0 ≤ i) (h1 : i ≤ l.length) (h : ∀ j, inL l j → j < i → K (getI l j) = true) : l.take i.toNat = (l.take i.toNat).filter K := by
  symm; rw [List.filter_eq_self]
  intro x hx
  obtain ⟨k, hk, hlt, rfl⟩ := mem_take_getI.1 hx
  exact h k hk hlt
theorem take_succ_getI {α : Type} [Inhabited α] {l : List α} {i : Int} (h : inL l i) : l.take (i + 1).toNat = l.take i.toNat ++ [getI l i] := by
  have h0 := h.1
  rw [show (i + 1).toNat = i.toNat + 1 from by omega, List.take_add_one, getI_get? h]; rfl
theorem del_loop {α : Type} [Inhabited α] (l : List α) (K : α → Bool) {f : List α × Int × Int → Option ((List α × Int × Int) ⊕ (List α × Int))} (hb : Few l)
    (h1 : ∀ a i j, a.length = l.length → 0 ≤ i → i < j → inL l j → inL l i → getI a j = getI l j → f (a, i, j) = some (.inl (if K (getI l j) = true then (a.set i.toNat (getI l j), i + 1, j + 1) else (a, i, j + 1))))
    (h2 : ∀ a i, a.length = l.length → f (a, i, l.length) = some (.inr (a, i))) {i0 : Int} (hi0 : inL l i0) (hk : K (getI l i0) = false) (hlt : ∀ j, inL l j → j < i0 → K (getI l j) = true) :
    ∃ a i, loopM f (l, i0, i0 + 1) = some (a, i) ∧ a.length = l.length ∧ 0 ≤ i ∧ i ≤ l.length ∧ a.take i.toNat = l.filter K := by
  have hb' : l.length ≤ 1000000 := hb
  obtain ⟨r, e, q1, q2, q3, q4⟩ := loopM_rule (f := f)
    (fun s => s.1.length = l.length ∧ 0 ≤ s.2.1 ∧ s.2.1 < s.2.2 ∧ s.2.2 ≤ l.length ∧ s.1.take s.2.1.toNat = (l.take s.2.2.toNat).filter K ∧ ∀ j, inL l j → s.2.2 ≤ j → getI s.1 j = getI l j)
    (fun r => r.1.length = l.length ∧ 0 ≤ r.2 ∧ r.2 ≤ l.length ∧ r.1.take r.2.toNat = l.filter K) (fun s => (l.length - s.2.2).toNat) (s := (l, i0, i0 + 1)) (fun s hI => by
      obtain ⟨a, i, j⟩ := s
      obtain ⟨ha, i0, ij, jl, ht, hd⟩ := hI
      simp only at ha i0 ij jl ht hd ⊢
      by_cases hj : j = l.length
      · subst hj
        refine ⟨_, h2 a i ha, ha, i0, by omega, ?_⟩
        simpa using ht
      · have ji : inL l j := ⟨by omega, by omega⟩
        have ii : inL l i := ⟨by omega, by omega⟩
        refine ⟨_, h1 a i j ha i0 ij ji ii (hd j ji (Int.le_refl _)), ?_⟩
        by_cases hK : K (getI l j) = true
        · simp only [hK, if_true]
          have ii' : inL a i := ⟨i0, by omega⟩
          refine ⟨⟨by simpa using ha, by omega, by omega, by omega, ?_, fun k hk hjk => ?_⟩, by omega⟩
          · rw [take_succ_getI (inL_set.2 ii'), take_succ_getI ji, List.filter_append, ← ht, getI_set ii' ii', if_pos rfl, List.take_set_of_le (by omega)]
            simp [hK]
          · rw [getI_set ii' ⟨hk.1, by have := hk.2; omega⟩, if_neg (by omega)]
            exact hd k hk (by omega)
        · rw [if_neg hK]
          refine ⟨⟨ha, i0, by simp only; omega, by simp only; omega, ?_, fun k hk hjk => hd k hk (by simp only at hjk; omega)⟩, by simp only; omega⟩
          simp only
          rw [take_succ_getI ji, List.filter_append, ← ht]
          simp [hK]) ⟨rfl, hi0.1, by simp only; omega, by have := hi0.2; simp only; omega, by
        simp only
        rw [take_succ_getI hi0, List.filter_append, ← filter_none_lt hi0.1 (by have := hi0.2; omega) hlt]
        simp [hk], fun j _ _ => rfl⟩ (by have := hi0.1; have := hi0.2; simp only; omega)
  exact ⟨r.1, r.2, e, q1, q2, q3, q4⟩

/-! ### Ports that may be gone out at -/
section
variable {n : Api_Net} {fw : List Bool}
structure FwOk (n : Api_Net) (fw : List Bool) : Prop where
  right : RightP n
  len : fw.length = n.links.length
theorem FwOk.link (h : FwOk n fw) {p : Int} (hp : inL n.ports p) : (getI n.ports p).link = -1 ∨ inL fw (getI n.ports p).link := by
  rcases (h.right.ports p hp).2.2.2.2.2.2.2.2 with h1 | h1
  · exact .inl h1
  · right
    have := h1.1
    unfold inL at this ⊢
    rw [h.len]; exact this
structure OpenP (n : Api_Net) (fw : List Bool) (d frm : Int) : Prop where
  fw : FwOk n fw
  dom : inL n.domains d
  frm : frm = -1 ∨ frm = -2 ∨ frm ∈ membersL n d
end
end Go.Eng
