/- Part of the proof of OverlayMeshes: plain laws of the printed mirrors. No conditions. -/
import Derived.Test.YtcclngfmkodgjaaGreatEngGP1
import Derived.Test.YtcclngfmkodgjaaGreatEngPE
import Derived.Test.YtcclngfmkodgjaaGreatEngGF1
set_option linter.unusedVariables false
set_option linter.unusedSectionVars false
set_option linter.unusedSimpArgs false
namespace Go.Eng
open Go Classical
attribute [local congr] ite_cg

theorem rPlace_spec {α : Type} {l : List α} {i : Int} : palingref15_Place i (l.length : Int) = some (decide (inL l i)) := by
  simp only [palingref15_Place, bind_ite, Option.bind_some, dif1, dif2, dif3, dif4, dif5, dif6, dif7, dnot, ibeq, ibne, decide_eq_true_eq, if_not2, ge_iff_le, gt_iff_lt, fst_ret, Bool.false_eq_true, decide_false]; exact sdec Iff.rfl

theorem rAt_spec {n : Api_Net} {a b : Int} (hl : Few n.domains) : palingref15_At n a b = some (domIx n.domains a b) := by
  unfold palingref15_At
  rw [loop_first n.domains (fun d => d.dev = a ∧ d.vlan = b) hl (fun i h0 h1 h2 => by
    simp (disch := omega) only [palingref15_At_L1, h1, nth_getI h2, wr64, bind_ite, Option.bind_some, dif1, dif2, dif3, dif4, dif5, dif6, dif7, dnot, ibeq, ibne, decide_eq_true_eq, if_not2, ge_iff_le, gt_iff_lt, fst_ret, Bool.false_eq_true, decide_false, mrg1, mrg2, mrg3, mrg4, mrg5, mrg6, mrg7, decide_true, if_true]; exact fpos Iff.rfl) (by simp [palingref15_At_L1])]
  simp only [bind_ite, Option.bind_some, dif1, dif2, dif3, dif4, dif5, dif6, dif7, dnot, ibeq, ibne, decide_eq_true_eq, if_not2, ge_iff_le, gt_iff_lt, fst_ret, Bool.false_eq_true, decide_false]
  rfl

theorem rIn_spec {l : List Int} {x : Int} (hl : Few l) : palingref15_In l x = some (decide (x ∈ l)) := by
  unfold palingref15_In
  rw [loop_each l (fun _ y => ¬ y = x) (.inl ()) (.inr ()) hl (fun i h0 h1 h2 => by
    simp (disch := omega) only [palingref15_In_L1, h1, nth_getI h2, wr64, bind_ite, Option.bind_some, dif1, dif2, dif3, dif4, dif5, dif6, dif7, dnot, ibeq, ibne, decide_eq_true_eq, if_not2, ge_iff_le, gt_iff_lt, fst_ret, Bool.false_eq_true, decide_false, mrg1, mrg2, mrg3, mrg4, mrg5, mrg6, mrg7, decide_true, if_true]; exact fpos Iff.rfl) (by simp [palingref15_In_L1])]
  simp only [bind_ite, Option.bind_some, dif1, dif2, dif3, dif4, dif5, dif6, dif7, dnot, ibeq, ibne, decide_eq_true_eq, if_not2, ge_iff_le, gt_iff_lt, fst_ret, Bool.false_eq_true, decide_false, eachP_mem]
  refine sdec ?_
  constructor
  · intro h
    apply Classical.byContradiction
    intro hn
    exact h fun y hy e => hn (e ▸ hy)
  · intro h hn
    exact hn x h rfl

theorem rRising3_spec {l : List Int} {a b : Int} (hl : Few l) : palingref03_Rising l a b = some (decide (RisingP l a b)) := by
  unfold palingref03_Rising
  rw [loop_each l (fun i x => a ≤ x ∧ x ≤ b ∧ (0 < i → getI l (i - 1) < x)) (.inl ()) (.inr ()) hl (fun i h0 h1 h2 => by
    by_cases hi : 0 < i
    · have h3 : inL l (i - 1) := ⟨by omega, by omega⟩
      simp (disch := omega) only [palingref03_Rising_L1, h1, hi, nth_getI h2, wr64, nth_getI h3, bind_ite, Option.bind_some, dif1, dif2, dif3, dif4, dif5, dif6, dif7, dnot, ibeq, ibne, decide_eq_true_eq, if_not2, ge_iff_le, gt_iff_lt, fst_ret, Bool.false_eq_true, decide_false, mrg1, mrg2, mrg3, mrg4, mrg5, mrg6, mrg7, decide_true, if_true]
      exact fneg (by grind)
    · simp (disch := omega) only [palingref03_Rising_L1, h1, hi, nth_getI h2, wr64, bind_ite, Option.bind_some, dif1, dif2, dif3, dif4, dif5, dif6, dif7, dnot, ibeq, ibne, decide_eq_true_eq, if_not2, ge_iff_le, gt_iff_lt, fst_ret, Bool.false_eq_true, decide_false, mrg1, mrg2, mrg3, mrg4, mrg5, mrg6, mrg7, decide_true, if_true, if_false]
      exact fneg (by grind)) (by simp [palingref03_Rising_L1])]
  simp only [bind_ite, Option.bind_some, dif1, dif2, dif3, dif4, dif5, dif6, dif7, dnot, ibeq, ibne, decide_eq_true_eq, if_not2, ge_iff_le, gt_iff_lt, fst_ret, Bool.false_eq_true, decide_false]
  refine sdec ?_
  unfold RisingP
  constructor
  · rintro ⟨h1, h2, h3⟩; exact ⟨h3, by omega, by omega⟩
  · rintro ⟨h1, h2, h3⟩; exact ⟨by omega, by omega, h1⟩

theorem rrising_spec {l : List Int} {b : Int} (hl : Few l) : palingref15_rising l b = some (decide (RiseP l b)) := by
  simp only [palingref15_rising, rRising3_spec hl, bind_ite, Option.bind_some, dif1, dif2, dif3, dif4, dif5, dif6, dif7, dnot, ibeq, ibne, decide_eq_true_eq, if_not2, ge_iff_le, gt_iff_lt, fst_ret, Bool.false_eq_true, decide_false]
  refine sdec ?_
  unfold RiseP
  cases l <;> simp; omega

theorem rMember_spec {p : Api_Port} {v : Int} (hp : Few p.tagged) : palingref15_Member p v = some (decide (MemP p v)) := by
  simp +contextual only [palingref15_Member, rIn_spec hp, bind_ite, Option.bind_some, dif1, dif2, dif3, dif4, dif5, dif6, dif7, dnot, ibeq, ibne, decide_eq_true_eq, if_not2, ge_iff_le, gt_iff_lt, fst_ret, Bool.false_eq_true, decide_false]
  exact sdec (by unfold MemP; grind)

section
variable {n : Api_Net}
theorem rdom1_spec (hs : SmN n) : loopM (palingref15_domains_L1 n) 0 = if EachP n.domains (BareP n) then some (.inr ()) else some (.inl ()) := by
  refine loop_each (ρ := Unit ⊕ Unit) n.domains (BareP n) (.inl ()) (.inr ()) hs.domains (fun i h0 h1 h2 => ?_) (by simp [palingref15_domains_L1])
  have := hs.domains
  by_cases c : inL n.irbs (getI n.domains i).irb <;>
    simp (disch := omega) only [palingref15_domains_L1, h1, nth_getI, h2, c, rPlace_spec, rAt_spec hs.domains, wr64, bind_ite, Option.bind_some, dif1, dif2, dif3, dif4, dif5, dif6, dif7, dnot, ibeq, ibne, decide_eq_true_eq, if_not2, ge_iff_le, gt_iff_lt, fst_ret, Bool.false_eq_true, decide_false, mrg1, mrg2, mrg3, mrg4, mrg5, mrg6, mrg7, decide_true, if_true, if_false, Classical.not_not, not_true_eq_false, not_false_eq_true] <;>
    (first | refine fpos ?_ | refine fneg ?_) <;> unfold BareP <;> grind

theorem rpeer_spec (hs : SmN n) (hb : EachP n.domains (BareP n)) {i k : Int} (hi : inL n.domains i) : palingref15_peer n i k = some (decide (PeerP n i (getI n.domains i) k)) := by
  have hp : inL n.domains k → Few (getI n.domains k).peers := fun h => hs.peers _ (getI_mem h)
  have hd : ∀ {j}, inL n.domains j → inL n.devices (getI n.domains j).dev := fun h => (hb _ h).1
  simp +contextual only [palingref15_peer, rPlace_spec, nth_getI, hi, hd, rIn_spec, hp, bind_ite, Option.bind_some, dif1, dif2, dif3, dif4, dif5, dif6, dif7, dnot, ibeq, ibne, decide_eq_true_eq, if_not2, ge_iff_le, gt_iff_lt, fst_ret, Bool.false_eq_true, decide_false]
  refine sdec ?_
  unfold PeerP vtepP
  grind

theorem rdom2_spec (hs : SmN n) (hb : EachP n.domains (BareP n)) : loopM (palingref15_domains_L2 n) 0 = if EachP n.domains (PeersP n) then some (.inr ()) else some (.inl ()) := by
  refine loop_each (ρ := Unit ⊕ Unit) n.domains (PeersP n) (.inl ()) (.inr ()) hs.domains (fun i h0 h1 h2 => ?_) (by simp [palingref15_domains_L2])
  have hd := hs.domains
  have hp := hs.peers _ (getI_mem h2)
  simp (disch := omega) only [palingref15_domains_L2, h1, nth_getI h2, wr64, bind_ite, Option.bind_some, dif1, dif2, dif3, dif4, dif5, dif6, dif7, dnot, ibeq, ibne, decide_eq_true_eq, if_not2, ge_iff_le, gt_iff_lt, fst_ret, Bool.false_eq_true, decide_false, decide_true, if_true]
  rw [loop_each (getI n.domains i).peers (fun j k => PeerP n i (getI n.domains i) k ∧ fstI (getI n.domains i).peers (fun y => k = y) = j) (.inl ()) (.inr ()) hp (fun j g0 g1 g2 => by
    have hs1 : slok (List.length (getI n.domains i).peers) 0 j = true := by rw [slok_dec]; exact decide_eq_true ⟨by omega, by omega, by omega⟩
    have hft : Few (List.drop (Int.toNat 0) (List.take j.toNat (getI n.domains i).peers)) := by simp [Few] at hp ⊢; omega
    simp (disch := omega) only [palingref15_domains_L3, g1, nth_getI g2, rpeer_spec hs hb h2, hs1, rIn_spec hft, wr64, bind_ite, Option.bind_some, dif1, dif2, dif3, dif4, dif5, dif6, dif7, dnot, ibeq, ibne, decide_eq_true_eq, if_not2, ge_iff_le, gt_iff_lt, fst_ret, Bool.false_eq_true, decide_false, mrg1, mrg2, mrg3, mrg4, mrg5, mrg6, mrg7, decide_true, if_true]
    refine fneg ?_
    rw [fst_take g2]
    simp
    grind) (by simp [palingref15_domains_L3])]
  simp only [bind_ite, Option.bind_some, dif1, dif2, dif3, dif4, dif5, dif6, dif7, dnot, ibeq, ibne, decide_eq_true_eq, if_not2, ge_iff_le, gt_iff_lt, fst_ret, Bool.false_eq_true, decide_false]
  exact fpos Iff.rfl

theorem rdomains_spec (hs : SmN n) : palingref15_domains n = some (decide (EachP n.domains (BareP n) ∧ EachP n.domains (PeersP n))) := by
  unfold palingref15_domains
  rw [rdom1_spec hs]
  by_cases hb : EachP n.domains (BareP n)
  · rw [rdom2_spec hs hb]
    simp only [hb, bind_ite, Option.bind_some, dif1, dif2, dif3, dif4, dif5, dif6, dif7, dnot, ibeq, ibne, decide_eq_true_eq, if_not2, ge_iff_le, gt_iff_lt, fst_ret, Bool.false_eq_true, decide_false, if_true, true_and]
  · simp [hb]

theorem rports_spec (hs : SmN n) : palingref15_ports n = some (decide (EachP n.ports (PortP n))) := by
  unfold palingref15_ports
  rw [loop_each n.ports (PortP n) (.inl ()) (.inr ()) hs.ports (fun i h0 h1 h2 => by
    have hp := hs.tagged _ (getI_mem h2)
    have hps := hs.ports
    have hl : loopM (palingref15_ports_L3 n i (getI n.ports i)) 0 = if ∀ v ∈ (getI n.ports i).tagged, 0 ≤ domIx n.domains (getI n.ports i).dev v then some (.inr ()) else some (.inl ()) := by
      rw [loop_each (getI n.ports i).tagged (fun _ v => 0 ≤ domIx n.domains (getI n.ports i).dev v) (.inl ()) (.inr ()) hp (fun j g0 g1 g2 => by
        simp (disch := omega) only [palingref15_ports_L3, rAt_spec hs.domains, nth_getI g2, wr64, g1, bind_ite, Option.bind_some, dif1, dif2, dif3, dif4, dif5, dif6, dif7, dnot, ibeq, ibne, decide_eq_true_eq, if_not2, ge_iff_le, gt_iff_lt, fst_ret, Bool.false_eq_true, decide_false, mrg1, mrg2, mrg3, mrg4, mrg5, mrg6, mrg7, decide_true, if_true]
        exact fneg (by omega)) (by simp [palingref15_ports_L3])]
      simp only [eachP_mem]
    have h3 : (((getI n.ports i).tagged.length : Int) = 0) ↔ (getI n.ports i).tagged = [] := by simp
    by_cases c : inL n.links (getI n.ports i).link <;>
    simp (disch := omega) only [palingref15_ports_L1, palingref15_ports_J2, h1, nth_getI h2, nth_getI, c, rPlace_spec, rAt_spec hs.domains, rrising_spec hp, rIn_spec hp, hl, h3, wr64, bind_ite, Option.bind_some, dif1, dif2, dif3, dif4, dif5, dif6, dif7, dnot, ibeq, ibne, decide_eq_true_eq, if_not2, ge_iff_le, gt_iff_lt, fst_ret, Bool.false_eq_true, decide_false, mrg1, mrg2, mrg3, mrg4, mrg5, mrg6, mrg7, decide_true, if_true, if_false, Classical.not_not, not_true_eq_false, not_false_eq_true] <;>
    (first | refine fpos ?_ | refine fneg ?_) <;> unfold PortP <;> simp only [c] <;> clear hl <;>
    generalize getI n.ports i = p <;>
    generalize (∀ v ∈ p.tagged, 0 ≤ domIx n.domains p.dev v) = A <;>
    generalize domIx n.domains p.dev p.native = B <;>
    generalize RiseP p.tagged 4094 = C <;>
    generalize inL n.devices p.dev = E <;>
    generalize (p.native ∈ p.tagged) = G <;>
    generalize (p.tagged = []) = F <;> grind) (by simp [palingref15_ports_L1])]
  simp only [bind_ite, Option.bind_some, dif1, dif2, dif3, dif4, dif5, dif6, dif7, dnot, ibeq, ibne, decide_eq_true_eq, if_not2, ge_iff_le, gt_iff_lt, fst_ret, Bool.false_eq_true, decide_false]

theorem rlinks_spec (hs : SmN n) : palingref15_links n = some (decide (EachP n.links (LinkP n))) := by
  unfold palingref15_links
  rw [loop_each n.links (LinkP n) (.inl ()) (.inr ()) hs.links (fun i h0 h1 h2 => by
    have := hs.links
    simp +contextual (disch := omega) only [palingref15_links_L1, h1, nth_getI, h2, rPlace_spec, wr64, bind_ite, Option.bind_some, dif1, dif2, dif3, dif4, dif5, dif6, dif7, dnot, ibeq, ibne, decide_eq_true_eq, if_not2, ge_iff_le, gt_iff_lt, fst_ret, Bool.false_eq_true, decide_false, decide_true, if_true]
    simp only [mrg1, mrg2, mrg3, mrg4, mrg5, mrg6, mrg7, Classical.not_not]
    first | refine fpos ?_ | refine fneg ?_
    unfold LinkP
    grind) (by simp [palingref15_links_L1])]
  simp only [bind_ite, Option.bind_some, dif1, dif2, dif3, dif4, dif5, dif6, dif7, dnot, ibeq, ibne, decide_eq_true_eq, if_not2, ge_iff_le, gt_iff_lt, fst_ret, Bool.false_eq_true, decide_false]

theorem rrest_spec (hs : SmN n) : palingref15_rest n = some (decide (EachP n.statics (fun _ x => StaticP n x) ∧ EachP n.floods (fun _ x => FloodP n x) ∧ EachP n.vrfs (fun _ x => VrfP n x) ∧ EachP n.irbs (IrbP n))) := by
  unfold palingref15_rest
  rw [loop_each n.statics (fun _ x => StaticP n x) (.inl ()) (.inr ()) hs.statics (fun i h0 h1 h2 => by
    have := hs.statics
    have hp : inL n.ports (getI n.statics i).port → ∀ v, palingref15_Member (getI n.ports (getI n.statics i).port) v = some (decide (MemP (getI n.ports (getI n.statics i).port) v)) := fun h v => rMember_spec (hs.tagged _ (getI_mem h))
    simp +contextual (disch := omega) only [palingref15_rest_L1, h1, nth_getI, h2, rPlace_spec, hp, wr64, bind_ite, Option.bind_some, dif1, dif2, dif3, dif4, dif5, dif6, dif7, dnot, ibeq, ibne, decide_eq_true_eq, if_not2, ge_iff_le, gt_iff_lt, fst_ret, Bool.false_eq_true, decide_false, decide_true, if_true]
    simp only [mrg1, mrg2, mrg3, mrg4, mrg5, mrg6, mrg7, Classical.not_not]
    first | refine fpos ?_ | refine fneg ?_
    unfold StaticP
    grind) (by simp [palingref15_rest_L1]),
   loop_each n.floods (fun _ x => FloodP n x) (.inl ()) (.inr ()) hs.floods (fun i h0 h1 h2 => by
    have := hs.floods
    simp +contextual (disch := omega) only [palingref15_rest_L2, h1, nth_getI, h2, rPlace_spec, wr64, bind_ite, Option.bind_some, dif1, dif2, dif3, dif4, dif5, dif6, dif7, dnot, ibeq, ibne, decide_eq_true_eq, if_not2, ge_iff_le, gt_iff_lt, fst_ret, Bool.false_eq_true, decide_false, decide_true, if_true]
    simp only [mrg1, mrg2, mrg3, mrg4, mrg5, mrg6, mrg7, Classical.not_not]
    first | refine fpos ?_ | refine fneg ?_
    unfold FloodP
    grind) (by simp [palingref15_rest_L2]),
   loop_each n.vrfs (fun _ x => VrfP n x) (.inl ()) (.inr ()) hs.vrfs (fun i h0 h1 h2 => by
    have := hs.vrfs
    simp +contextual (disch := omega) only [palingref15_rest_L3, h1, nth_getI, h2, rPlace_spec, rrising_spec (hs.imports _ (getI_mem h2)), rrising_spec (hs.exports _ (getI_mem h2)), wr64, bind_ite, Option.bind_some, dif1, dif2, dif3, dif4, dif5, dif6, dif7, dnot, ibeq, ibne, decide_eq_true_eq, if_not2, ge_iff_le, gt_iff_lt, fst_ret, Bool.false_eq_true, decide_false, decide_true, if_true]
    simp only [mrg1, mrg2, mrg3, mrg4, mrg5, mrg6, mrg7, Classical.not_not]
    first | refine fpos ?_ | refine fneg ?_
    unfold VrfP
    grind) (by simp [palingref15_rest_L3]),
   loop_each n.irbs (IrbP n) (.inl ()) (.inr ()) hs.irbs (fun i h0 h1 h2 => by
    have := hs.irbs
    simp +contextual (disch := omega) only [palingref15_rest_L4, h1, nth_getI, h2, rPlace_spec, wr64, bind_ite, Option.bind_some, dif1, dif2, dif3, dif4, dif5, dif6, dif7, dnot, ibeq, ibne, decide_eq_true_eq, if_not2, ge_iff_le, gt_iff_lt, fst_ret, Bool.false_eq_true, decide_false, decide_true, if_true]
    simp only [mrg1, mrg2, mrg3, mrg4, mrg5, mrg6, mrg7, Classical.not_not]
    first | refine fpos ?_ | refine fneg ?_
    unfold IrbP
    grind) (by simp [palingref15_rest_L4])]
  simp only [bind_ite, Option.bind_some, dif1, dif2, dif3, dif4, dif5, dif6, dif7, dnot, ibeq, ibne, decide_eq_true_eq, if_not2, ge_iff_le, gt_iff_lt, fst_ret, Bool.false_eq_true, decide_false]

theorem rRight_spec (hs : SmN n) : palingref15_Right n = some (decide (RightP n)) := by
  simp only [palingref15_Right, rdomains_spec hs, rports_spec hs, rlinks_spec hs, rrest_spec hs, bind_ite, Option.bind_some, dif1, dif2, dif3, dif4, dif5, dif6, dif7, dnot, ibeq, ibne, decide_eq_true_eq, if_not2, ge_iff_le, gt_iff_lt, fst_ret, Bool.false_eq_true, decide_false]
  refine sdec ?_
  rw [rightP_iff]
  unfold FewP
  constructor
  · rintro ⟨a, b, c, d, e, f, g, h, ⟨i, j⟩, k, l, m⟩; exact ⟨⟨by omega, by omega, by omega, by omega, by omega, by omega, by omega, by omega⟩, i, j, k, l, m⟩
  · rintro ⟨⟨a, b, c, d, e, f, g, h⟩, i, j, k, l, m⟩; exact ⟨by omega, by omega, by omega, by omega, by omega, by omega, by omega, by omega, ⟨i, j⟩, k, l, m⟩
end
end Go.Eng

set_option linter.unusedVariables false
set_option linter.unusedSectionVars false
set_option linter.unusedSimpArgs false
namespace Go.Eng
open Go Classical
attribute [local congr] ite_cg
section
theorem rInts_spec {l r : List Int} (hb : Few l) : palingref03_Ints l r = some (decide (l = r)) := by
  by_cases hl : l.length = r.length
  · have hli : ¬ ((l.length : Int) ≠ (r.length : Int)) := by omega
    simp only [palingref03_Ints, ibne, decide_eq_true_eq, if_neg hli]
    rw [loop_eq l r hl hb (fun i h0 h1 h2 h3 => by
      simp (disch := omega) only [palingref03_Ints_L1, h1, nth_getI h2, nth_getI h3, wr64, bind_ite, Option.bind_some, dif1, dif2, dif3, dif4, dif5, dif6, dif7, dnot, ibeq, ibne, decide_eq_true_eq, if_not2, ge_iff_le, gt_iff_lt, fst_ret, Bool.false_eq_true, decide_false, mrg1, mrg2, mrg3, mrg4, mrg5, mrg6, mrg7, decide_true, if_true]; exact fpos Iff.rfl) (by simp [palingref03_Ints_L1])]
    simp only [bind_ite, Option.bind_some, dif1, dif2, dif3, dif4, dif5, dif6, dif7, dnot, ibeq, ibne, decide_eq_true_eq, if_not2, ge_iff_le, gt_iff_lt, fst_ret, Bool.false_eq_true, decide_false]
  · have hli : ((l.length : Int) ≠ (r.length : Int)) := by omega
    have : ¬ l = r := fun e => hl (by rw [e])
    simp [palingref03_Ints, hli, this]
end
end Go.Eng

set_option linter.unusedVariables false
set_option linter.unusedSectionVars false
set_option linter.unusedSimpArgs false
namespace Go.Eng
open Go Classical
attribute [local congr] ite_cg
variable {n : Api_Net}

noncomputable def othI (n : Api_Net) (p : Int) : Int :=
  if RightP n ∧ inL n.ports p ∧ 0 ≤ (getI n.ports p).link then
    (if (getI n.links (getI n.ports p).link).a = p then (getI n.links (getI n.ports p).link).b else (getI n.links (getI n.ports p).link).a)
  else -1

theorem RightP.link (h : RightP n) {p : Int} (hp : inL n.ports p) (hl : 0 ≤ (getI n.ports p).link) :
    inL n.links (getI n.ports p).link ∧ ((getI n.links (getI n.ports p).link).a = p ∨ (getI n.links (getI n.ports p).link).b = p) := by
  have := (h.ports p hp).2.2.2.2.2.2.2.2
  rcases this with h1 | h1
  · omega
  · exact h1

structure OthP (n : Api_Net) (p q : Int) : Prop where
  ip : inL n.ports p
  iq : inL n.ports q
  ik : inL n.links (getI n.ports p).link
  link : (getI n.ports q).link = (getI n.ports p).link
  dev : (getI n.ports q).dev ≠ (getI n.ports p).dev
  ends : (p = (getI n.links (getI n.ports p).link).a ∧ q = (getI n.links (getI n.ports p).link).b) ∨ (p = (getI n.links (getI n.ports p).link).b ∧ q = (getI n.links (getI n.ports p).link).a)

theorem OthP.back (hr : RightP n) {p q : Int} (h : OthP n p q) : othI n q = p := by
  unfold othI
  have h0 := h.ik.1
  rw [if_pos ⟨hr, h.iq, by rw [h.link]; exact h0⟩, h.link]
  have hd := h.dev
  rcases h.ends with ⟨e1, e2⟩ | ⟨e1, e2⟩
  · rw [if_neg, ← e1]
    intro e
    rw [← e1] at e
    exact hd (by rw [e])
  · rw [if_pos e2.symm, ← e1]

end Go.Eng

set_option linter.unusedVariables false
set_option linter.unusedSectionVars false
set_option linter.unusedSimpArgs false
namespace Go.Eng
open Go Classical
attribute [local congr] ite_cg
theorem eqDevice_dec {x y : Api_Device} : eq_Api_Device x y = decide (x = y) := by
  unfold eq_Api_Device; rw [seqB_dec, Bool.eq_iff_iff]; cases x; cases y; simp
theorem eqLink_dec {x y : Api_Link} : eq_Api_Link x y = decide (x = y) := by
  unfold eq_Api_Link; rw [Bool.eq_iff_iff]; cases x; cases y; simp
theorem eqStatic_dec {x y : Api_Static} : eq_Api_Static x y = decide (x = y) := by
  unfold eq_Api_Static; rw [Bool.eq_iff_iff]; cases x; cases y; simp
theorem eqPrefix_dec {x y : Api_Prefix} : eq_Api_Prefix x y = decide (x = y) := by
  unfold eq_Api_Prefix; rw [Bool.eq_iff_iff]; cases x; cases y; simp
theorem eqIrb_dec {x y : Api_Irb} : eq_Api_Irb x y = decide (x = y) := by
  unfold eq_Api_Irb; rw [eqPrefix_dec, Bool.eq_iff_iff]; cases x; cases y; simp
theorem port_eq {x y : Api_Port} : x = y ↔ x.row = y.row ∧ x.dev = y.dev ∧ x.native = y.native ∧ x.cost = y.cost ∧ x.link = y.link ∧ x.name = y.name ∧ x.tagged = y.tagged := by cases x; cases y; simp
theorem domain_eq {x y : Api_Domain} : x = y ↔ x.dev = y.dev ∧ x.vlan = y.vlan ∧ x.vni = y.vni ∧ x.irb = y.irb ∧ x.row = y.row ∧ x.peers = y.peers := by cases x; cases y; simp
theorem flood_eq {x y : Api_Flood} : x = y ↔ x.row = y.row ∧ x.dev = y.dev ∧ x.vni = y.vni ∧ x.addrs = y.addrs := by cases x; cases y; simp
theorem vrf_eq {x y : Api_Vrf} : x = y ↔ x.row = y.row ∧ x.dev = y.dev ∧ x.name = y.name ∧ x.imports = y.imports ∧ x.exports = y.exports := by cases x; cases y; simp
theorem net_eq {x y : Api_Net} : x = y ↔ x.devices = y.devices ∧ x.ports = y.ports ∧ x.links = y.links ∧ x.domains = y.domains ∧ x.statics = y.statics ∧ x.floods = y.floods ∧ x.vrfs = y.vrfs ∧ x.irbs = y.irbs := by cases x; cases y; simp

section
/-! ### A copy -/
theorem loop_setsame {α ρ : Type} [Inhabited α] {f : List α × Int → Option ((List α × Int) ⊕ ρ)} (l : List α) (out : List α → ρ) (hb : Few l)
    (h1 : ∀ i : Int, 0 ≤ i → i < l.length → inL l i → f (l, i) = some (.inl (l, i + 1))) (h2 : f (l, l.length) = some (.inr (out l))) : loopM f (l, 0) = some (out l) := by
  have hb' := hb
  unfold Few at hb'
  exact loopM_trace (fun i => (l, (i : Int))) l.length (by omega) (fun i hi => by rw [h1 i (by omega) (by omega) ⟨by omega, by omega⟩]; simp) h2
theorem set_getI {α : Type} [Inhabited α] {l : List α} {i : Int} (h : inL l i) : l.set i.toNat (getI l i) = l := by
  have h2 := getI_get? h
  apply List.ext_getElem?
  intro k
  rw [List.getElem?_set]
  split
  · rename_i e; subst e; split
    · exact h2.symm
    · have := h.2; have := h.1; omega
  · rfl

theorem roomyN {α : Type} {l : List α} {b : Nat} (h : Few l) (hb : b ≤ 100000000 := by decide) : roomy b l = true := roomy_few (by unfold Few at h; omega) hb
theorem Clone_Device_spec {l : List Api_Device} (h : Few l) : slices_Clone_Device l = some l := if_pos (roomyN h)
theorem Clone_Port_spec {l : List Api_Port} (h : Few l) : slices_Clone_Port l = some l := if_pos (roomyN h)
theorem Clone_Link_spec {l : List Api_Link} (h : Few l) : slices_Clone_Link l = some l := if_pos (roomyN h)
theorem Clone_Domain_spec {l : List Api_Domain} (h : Few l) : slices_Clone_Domain l = some l := if_pos (roomyN h)
theorem Clone_Static_spec {l : List Api_Static} (h : Few l) : slices_Clone_Static l = some l := if_pos (roomyN h)
theorem Clone_Flood_spec {l : List Api_Flood} (h : Few l) : slices_Clone_Flood l = some l := if_pos (roomyN h)
theorem Clone_Vrf_spec {l : List Api_Vrf} (h : Few l) : slices_Clone_Vrf l = some l := if_pos (roomyN h)
theorem Clone_Irb_spec {l : List Api_Irb} (h : Few l) : slices_Clone_Irb l = some l := if_pos (roomyN h)
theorem Clone_int_spec {l : List Int} (h : Few l) : slices_Clone_int l = some l := if_pos (roomyN h)
theorem Clone_uint32_spec {l : List Int} (h : Few l) : slices_Clone_uint32 l = some l := if_pos (roomyN h)
theorem names_Copy_spec {a : Api_Net} (hs : SmN a) : names_Copy a = some (a.devices, a.ports, a.links, a.domains, a.statics, a.floods, a.vrfs, a.irbs, a.ports.length, a.domains.length, a.floods.length, a.vrfs.length) := by
  simp only [names_Copy, Clone_Device_spec hs.devices, Clone_Port_spec hs.ports, Clone_Link_spec hs.links, Clone_Domain_spec hs.domains, Clone_Static_spec hs.statics, Clone_Flood_spec hs.floods, Clone_Vrf_spec hs.vrfs, Clone_Irb_spec hs.irbs, Option.bind_some]
  rw [loop_setsame a.ports id hs.ports (fun i h0 h1 h2 => by
    have := hs.ports
    have hw := wr64 (n := i + 1) (by omega) (by omega)
    simp only [names_Copy_L1, h1, lin_dec, h2, getI_get? h2, Clone_int_spec (hs.tagged _ (getI_mem h2)), decide_true, if_true, Option.bind_some, hw]
    rw [set_getI h2]) (by simp [names_Copy_L1])]
  simp only [id, Option.bind_some]
  rw [loop_setsame a.domains id hs.domains (fun i h0 h1 h2 => by
    have := hs.domains
    have hw := wr64 (n := i + 1) (by omega) (by omega)
    simp only [names_Copy_L2, h1, lin_dec, h2, getI_get? h2, Clone_int_spec (hs.peers _ (getI_mem h2)), decide_true, if_true, Option.bind_some, hw]
    rw [set_getI h2]) (by simp [names_Copy_L2])]
  simp only [id, Option.bind_some]
  rw [loop_setsame a.floods id hs.floods (fun i h0 h1 h2 => by
    have := hs.floods
    have hw := wr64 (n := i + 1) (by omega) (by omega)
    simp only [names_Copy_L3, h1, lin_dec, h2, getI_get? h2, Clone_uint32_spec (hs.addrs _ (getI_mem h2)), decide_true, if_true, Option.bind_some, hw]
    rw [set_getI h2]) (by simp [names_Copy_L3])]
  simp only [id, Option.bind_some]
  rw [loop_setsame a.vrfs id hs.vrfs (fun i h0 h1 h2 => by
    have := hs.vrfs
    have hw := wr64 (n := i + 1) (by omega) (by omega)
    simp only [names_Copy_L4, h1, lin_dec, h2, getI_get? h2, Clone_int_spec (hs.imports _ (getI_mem h2)), Clone_int_spec (hs.exports _ (getI_mem h2)), decide_true, if_true, Option.bind_some, hw]
    rw [set_getI h2, getI_get? h2]
    simp only [Option.bind_some]
    rw [set_getI h2]) (by simp [names_Copy_L4])]
  rfl

end
end Go.Eng

set_option linter.unusedVariables false
set_option linter.unusedSectionVars false
set_option linter.unusedSimpArgs false
namespace Go.Eng
open Go Classical
attribute [local congr] ite_cg

end Go.Eng

set_option linter.unusedVariables false
set_option linter.unusedSectionVars false
set_option linter.unusedSimpArgs false
namespace Go.Eng
open Go Classical
attribute [local congr] ite_cg
theorem rCopy_spec {a : Api_Net} (hs : SmN a) : palingref15_Copy a = some (a.ports, a.domains, a.floods, a.vrfs) := by
  unfold palingref15_Copy
  rw [if_pos (roomyN hs.devices), if_pos (roomyN hs.ports), if_pos (roomyN hs.links), if_pos (roomyN hs.domains), if_pos (roomyN hs.statics), if_pos (roomyN hs.floods), if_pos (roomyN hs.vrfs), if_pos (roomyN hs.irbs)]
  rw [loop_setsame a.ports id hs.ports (fun i h0 h1 h2 => by
    have := hs.ports
    have hw := wr64 (n := i + 1) (by omega) (by omega)
    simp only [palingref15_Copy_L1, h1, lin_dec, h2, getI_get? h2, roomyN (b := 8) (hs.tagged _ (getI_mem h2)), decide_true, if_true, Option.bind_some, hw]
    rw [set_getI h2]) (by simp [palingref15_Copy_L1])]
  simp only [id, Option.bind_some]
  rw [loop_setsame a.domains id hs.domains (fun i h0 h1 h2 => by
    have := hs.domains
    have hw := wr64 (n := i + 1) (by omega) (by omega)
    simp only [palingref15_Copy_L2, h1, lin_dec, h2, getI_get? h2, roomyN (b := 8) (hs.peers _ (getI_mem h2)), decide_true, if_true, Option.bind_some, hw]
    rw [set_getI h2]) (by simp [palingref15_Copy_L2])]
  simp only [id, Option.bind_some]
  rw [loop_setsame a.floods id hs.floods (fun i h0 h1 h2 => by
    have := hs.floods
    have hw := wr64 (n := i + 1) (by omega) (by omega)
    simp only [palingref15_Copy_L3, h1, lin_dec, h2, getI_get? h2, roomyN (b := 4) (hs.addrs _ (getI_mem h2)), decide_true, if_true, Option.bind_some, hw]
    rw [set_getI h2]) (by simp [palingref15_Copy_L3])]
  simp only [id, Option.bind_some]
  rw [loop_setsame a.vrfs id hs.vrfs (fun i h0 h1 h2 => by
    have := hs.vrfs
    have hw := wr64 (n := i + 1) (by omega) (by omega)
    simp only [palingref15_Copy_L4, h1, lin_dec, h2, getI_get? h2, roomyN (b := 8) (hs.imports _ (getI_mem h2)), roomyN (b := 8) (hs.exports _ (getI_mem h2)), decide_true, if_true, Option.bind_some, hw]
    rw [set_getI h2]
    simp only [h2, getI_get? h2, roomyN (b := 8) (hs.exports _ (getI_mem h2)), decide_true, if_true, Option.bind_some]
    rw [set_getI h2]) (by simp [palingref15_Copy_L4])]
  rfl
end Go.Eng

set_option linter.unusedVariables false
set_option linter.unusedSectionVars false
set_option linter.unusedSimpArgs false
namespace Go.Eng
open Go Classical
attribute [local congr] ite_cg
section

end
end Go.Eng

set_option linter.unusedVariables false
set_option linter.unusedSectionVars false
set_option linter.unusedSimpArgs false
namespace Go.Eng
open Go Classical
attribute [local congr] ite_cg
section
theorem rAddrs_spec {l r : List Int} (hb : Few l) : palingref03_Addrs l r = some (decide (l = r)) := by
  by_cases hl : l.length = r.length
  · have hli : ¬ ((l.length : Int) ≠ (r.length : Int)) := by omega
    simp only [palingref03_Addrs, ibne, decide_eq_true_eq, if_neg hli]
    rw [loop_eq l r hl hb (fun i h0 h1 h2 h3 => by
      simp (disch := omega) only [palingref03_Addrs_L1, h1, nth_getI h2, nth_getI h3, wr64, bind_ite, Option.bind_some, dif1, dif2, dif3, dif4, dif5, dif6, dif7, dnot, ibeq, ibne, decide_eq_true_eq, if_not2, ge_iff_le, gt_iff_lt, fst_ret, Bool.false_eq_true, decide_false, mrg1, mrg2, mrg3, mrg4, mrg5, mrg6, mrg7, decide_true, if_true]; exact fpos Iff.rfl) (by simp [palingref03_Addrs_L1])]
    simp only [bind_ite, Option.bind_some, dif1, dif2, dif3, dif4, dif5, dif6, dif7, dnot, ibeq, ibne, decide_eq_true_eq, if_not2, ge_iff_le, gt_iff_lt, fst_ret, Bool.false_eq_true, decide_false]
  · have hli : ((l.length : Int) ≠ (r.length : Int)) := by omega
    have : ¬ l = r := fun e => hl (by rw [e])
    simp [palingref03_Addrs, hli, this]

theorem rtops_spec {a b : Api_Net} (hs : SmN a) : palingref15_tops a b = some (decide (a.devices = b.devices ∧ a.links = b.links ∧ a.statics = b.statics ∧ a.irbs = b.irbs)) := by
  by_cases h1 : a.devices.length = b.devices.length
  case neg =>
    have : ¬ a.devices = b.devices := fun e => h1 (by rw [e])
    have h1' : ((a.devices.length : Int) ≠ b.devices.length) := by omega
    simp [palingref15_tops, h1', this]
  by_cases h2 : a.links.length = b.links.length
  case neg =>
    have : ¬ a.links = b.links := fun e => h2 (by rw [e])
    have h2' : ((a.links.length : Int) ≠ b.links.length) := by omega
    simp [palingref15_tops, h1, h2', this]
  by_cases h3 : a.statics.length = b.statics.length
  case neg =>
    have : ¬ a.statics = b.statics := fun e => h3 (by rw [e])
    have h3' : ((a.statics.length : Int) ≠ b.statics.length) := by omega
    simp [palingref15_tops, h1, h2, h3', this]
  by_cases h4 : a.irbs.length = b.irbs.length
  case neg =>
    have : ¬ a.irbs = b.irbs := fun e => h4 (by rw [e])
    have h4' : ((a.irbs.length : Int) ≠ b.irbs.length) := by omega
    simp [palingref15_tops, h1, h2, h3, h4', this]
  have e1 : ¬ ((a.devices.length : Int) ≠ b.devices.length) := by omega
  have e2 : ¬ ((a.links.length : Int) ≠ b.links.length) := by omega
  have e3 : ¬ ((a.statics.length : Int) ≠ b.statics.length) := by omega
  have e4 : ¬ ((a.irbs.length : Int) ≠ b.irbs.length) := by omega
  simp only [palingref15_tops, ibne, decide_eq_true_eq, if_neg e1, if_neg e2, if_neg e3, if_neg e4]
  rw [loop_eq a.devices b.devices h1 hs.devices (fun i h0 h1 h2 h3 => by
      have := hs.devices
      simp (disch := omega) only [palingref15_tops_L1, h1, nth_getI h2, nth_getI h3, eqDevice_dec, wr64, bind_ite, Option.bind_some, dif1, dif2, dif3, dif4, dif5, dif6, dif7, dnot, ibeq, ibne, decide_eq_true_eq, if_not2, ge_iff_le, gt_iff_lt, fst_ret, Bool.false_eq_true, decide_false, mrg1, mrg2, mrg3, mrg4, mrg5, mrg6, mrg7, decide_true, if_true]; exact fpos Iff.rfl) (by simp [palingref15_tops_L1]),
    loop_eq a.links b.links h2 hs.links (fun i h0 h1 h2 h3 => by
      have := hs.links
      simp (disch := omega) only [palingref15_tops_L2, h1, nth_getI h2, nth_getI h3, eqLink_dec, wr64, bind_ite, Option.bind_some, dif1, dif2, dif3, dif4, dif5, dif6, dif7, dnot, ibeq, ibne, decide_eq_true_eq, if_not2, ge_iff_le, gt_iff_lt, fst_ret, Bool.false_eq_true, decide_false, mrg1, mrg2, mrg3, mrg4, mrg5, mrg6, mrg7, decide_true, if_true]; exact fpos Iff.rfl) (by simp [palingref15_tops_L2]),
    loop_eq a.statics b.statics h3 hs.statics (fun i h0 h1 h2 h3 => by
      have := hs.statics
      simp (disch := omega) only [palingref15_tops_L3, h1, nth_getI h2, nth_getI h3, eqStatic_dec, wr64, bind_ite, Option.bind_some, dif1, dif2, dif3, dif4, dif5, dif6, dif7, dnot, ibeq, ibne, decide_eq_true_eq, if_not2, ge_iff_le, gt_iff_lt, fst_ret, Bool.false_eq_true, decide_false, mrg1, mrg2, mrg3, mrg4, mrg5, mrg6, mrg7, decide_true, if_true]; exact fpos Iff.rfl) (by simp [palingref15_tops_L3]),
    loop_eq a.irbs b.irbs h4 hs.irbs (fun i h0 h1 h2 h3 => by
      have := hs.irbs
      simp (disch := omega) only [palingref15_tops_L4, h1, nth_getI h2, nth_getI h3, eqIrb_dec, wr64, bind_ite, Option.bind_some, dif1, dif2, dif3, dif4, dif5, dif6, dif7, dnot, ibeq, ibne, decide_eq_true_eq, if_not2, ge_iff_le, gt_iff_lt, fst_ret, Bool.false_eq_true, decide_false, mrg1, mrg2, mrg3, mrg4, mrg5, mrg6, mrg7, decide_true, if_true]; exact fpos Iff.rfl) (by simp [palingref15_tops_L4])]
  simp only [bind_ite, Option.bind_some, dif1, dif2, dif3, dif4, dif5, dif6, dif7, dnot, ibeq, ibne, decide_eq_true_eq, if_not2, ge_iff_le, gt_iff_lt, fst_ret, Bool.false_eq_true, decide_false]

theorem rSame_spec {a b : Api_Net} (hs : SmN a) : palingref15_Same a b = some (decide (a = b)) := by
  have hne : ∀ {p : Prop}, (a = b → p) → ¬ p → decide (a = b) = false := fun h hp => decide_eq_false (fun e => hp (h e))
  by_cases ht : a.devices = b.devices ∧ a.links = b.links ∧ a.statics = b.statics ∧ a.irbs = b.irbs
  case neg =>
    rw [hne (fun e => by subst e; exact ⟨rfl, rfl, rfl, rfl⟩) ht]
    simp [palingref15_Same, rtops_spec hs, ht]
  by_cases h1 : a.ports.length = b.ports.length
  case neg =>
    rw [hne (fun e => by rw [e]) h1]
    have h1' : ((a.ports.length : Int) ≠ b.ports.length) := by omega
    simp only [palingref15_Same, rtops_spec hs, ht, bind_ite, Option.bind_some, dif1, dif2, dif3, dif4, dif5, dif6, dif7, dnot, ibeq, ibne, decide_eq_true_eq, if_not2, ge_iff_le, gt_iff_lt, fst_ret, Bool.false_eq_true, decide_false, h1', if_true, decide_true, Bool.not_true, ne_eq, not_false_eq_true, if_false, and_self]
  by_cases h2 : a.domains.length = b.domains.length
  case neg =>
    rw [hne (fun e => by rw [e]) h2]
    have h1' : ((a.ports.length : Int) = b.ports.length) := by omega
    have h2' : ((a.domains.length : Int) ≠ b.domains.length) := by omega
    simp only [palingref15_Same, rtops_spec hs, ht, bind_ite, Option.bind_some, dif1, dif2, dif3, dif4, dif5, dif6, dif7, dnot, ibeq, ibne, decide_eq_true_eq, if_not2, ge_iff_le, gt_iff_lt, fst_ret, Bool.false_eq_true, decide_false, h1', h2', if_true, decide_true, Bool.not_true, ne_eq, not_false_eq_true, not_true_eq_false, if_false, and_self]
  by_cases h3 : a.floods.length = b.floods.length
  case neg =>
    rw [hne (fun e => by rw [e]) h3]
    have h1' : ((a.ports.length : Int) = b.ports.length) := by omega
    have h2' : ((a.domains.length : Int) = b.domains.length) := by omega
    have h3' : ((a.floods.length : Int) ≠ b.floods.length) := by omega
    simp only [palingref15_Same, rtops_spec hs, ht, bind_ite, Option.bind_some, dif1, dif2, dif3, dif4, dif5, dif6, dif7, dnot, ibeq, ibne, decide_eq_true_eq, if_not2, ge_iff_le, gt_iff_lt, fst_ret, Bool.false_eq_true, decide_false, h1', h2', h3', if_true, decide_true, Bool.not_true, ne_eq, not_false_eq_true, not_true_eq_false, if_false, and_self]
  by_cases h4 : a.vrfs.length = b.vrfs.length
  case neg =>
    rw [hne (fun e => by rw [e]) h4]
    have h1' : ((a.ports.length : Int) = b.ports.length) := by omega
    have h2' : ((a.domains.length : Int) = b.domains.length) := by omega
    have h3' : ((a.floods.length : Int) = b.floods.length) := by omega
    have h4' : ((a.vrfs.length : Int) ≠ b.vrfs.length) := by omega
    simp only [palingref15_Same, rtops_spec hs, ht, bind_ite, Option.bind_some, dif1, dif2, dif3, dif4, dif5, dif6, dif7, dnot, ibeq, ibne, decide_eq_true_eq, if_not2, ge_iff_le, gt_iff_lt, fst_ret, Bool.false_eq_true, decide_false, h1', h2', h3', h4', if_true, decide_true, Bool.not_true, ne_eq, not_false_eq_true, not_true_eq_false, if_false, and_self]
  have e1 : ¬ ((a.ports.length : Int) ≠ b.ports.length) := by omega
  have e2 : ¬ ((a.domains.length : Int) ≠ b.domains.length) := by omega
  have e3 : ¬ ((a.floods.length : Int) ≠ b.floods.length) := by omega
  have e4 : ¬ ((a.vrfs.length : Int) ≠ b.vrfs.length) := by omega
  simp only [palingref15_Same, rtops_spec hs, ht, Option.bind_some, and_self, decide_true, Bool.not_true, Bool.false_eq_true, if_false, ibne, decide_eq_true_eq, if_neg e1, if_neg e2, if_neg e3, if_neg e4]
  rw [loop_eq a.ports b.ports h1 hs.ports (fun i h0 h1 h2 h3 => by
      have := hs.ports
      simp (disch := omega) only [palingref15_Same_L1, h1, nth_getI h2, nth_getI h3, seqB_dec, rInts_spec (hs.tagged _ (getI_mem h2)), wr64, bind_ite, Option.bind_some, dif1, dif2, dif3, dif4, dif5, dif6, dif7, dnot, ibeq, ibne, decide_eq_true_eq, if_not2, ge_iff_le, gt_iff_lt, fst_ret, Bool.false_eq_true, decide_false, mrg1, mrg2, mrg3, mrg4, mrg5, mrg6, mrg7, decide_true, if_true]
      rw [port_eq]
      first | refine fpos ?_ | refine fneg ?_
      grind) (by simp [palingref15_Same_L1]),
    loop_eq a.domains b.domains h2 hs.domains (fun i h0 h1 h2 h3 => by
      have := hs.domains
      simp (disch := omega) only [palingref15_Same_L2, h1, nth_getI h2, nth_getI h3, rInts_spec (hs.peers _ (getI_mem h2)), wr64, bind_ite, Option.bind_some, dif1, dif2, dif3, dif4, dif5, dif6, dif7, dnot, ibeq, ibne, decide_eq_true_eq, if_not2, ge_iff_le, gt_iff_lt, fst_ret, Bool.false_eq_true, decide_false, mrg1, mrg2, mrg3, mrg4, mrg5, mrg6, mrg7, decide_true, if_true]
      rw [domain_eq]
      first | refine fpos ?_ | refine fneg ?_
      grind) (by simp [palingref15_Same_L2]),
    loop_eq a.floods b.floods h3 hs.floods (fun i h0 h1 h2 h3 => by
      have := hs.floods
      simp (disch := omega) only [palingref15_Same_L3, h1, nth_getI h2, nth_getI h3, rAddrs_spec (hs.addrs _ (getI_mem h2)), wr64, bind_ite, Option.bind_some, dif1, dif2, dif3, dif4, dif5, dif6, dif7, dnot, ibeq, ibne, decide_eq_true_eq, if_not2, ge_iff_le, gt_iff_lt, fst_ret, Bool.false_eq_true, decide_false, mrg1, mrg2, mrg3, mrg4, mrg5, mrg6, mrg7, decide_true, if_true]
      rw [flood_eq]
      first | refine fpos ?_ | refine fneg ?_
      grind) (by simp [palingref15_Same_L3]),
    loop_eq a.vrfs b.vrfs h4 hs.vrfs (fun i h0 h1 h2 h3 => by
      have := hs.vrfs
      simp (disch := omega) only [palingref15_Same_L4, h1, nth_getI h2, nth_getI h3, seqB_dec, rInts_spec (hs.imports _ (getI_mem h2)), rInts_spec (hs.exports _ (getI_mem h2)), wr64, bind_ite, Option.bind_some, dif1, dif2, dif3, dif4, dif5, dif6, dif7, dnot, ibeq, ibne, decide_eq_true_eq, if_not2, ge_iff_le, gt_iff_lt, fst_ret, Bool.false_eq_true, decide_false, mrg1, mrg2, mrg3, mrg4, mrg5, mrg6, mrg7, decide_true, if_true]
      rw [vrf_eq]
      first | refine fpos ?_ | refine fneg ?_
      grind) (by simp [palingref15_Same_L4])]
  simp only [bind_ite, Option.bind_some, dif1, dif2, dif3, dif4, dif5, dif6, dif7, dnot, ibeq, ibne, decide_eq_true_eq, if_not2, ge_iff_le, gt_iff_lt, fst_ret, Bool.false_eq_true, decide_false]
  refine sdec ?_
  rw [net_eq]
  obtain ⟨t1, t2, t3, t4⟩ := ht
  simp [t1, t2, t3, t4]

end
end Go.Eng
