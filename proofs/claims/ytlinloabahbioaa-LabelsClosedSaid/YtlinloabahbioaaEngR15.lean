/- Plain laws of the reference of chapter 15: it answers as the program does. -/
import Derived.Test.YtlinloabahbioaaEngP15
set_option linter.unusedVariables false
set_option linter.unusedSectionVars false
set_option linter.unusedSimpArgs false
namespace Go.Eng
open Go Classical
attribute [local congr] ite_cg

theorem rPlace_spec {α : Type} {l : List α} {i : Int} : palingref15_Place i (l.length : Int) = some (decide (inL l i)) := by
  simp only [palingref15_Place, bind_ite, Option.bind_some, dif1, dif2, dif3, dif4, dif5, dif6, dif7, dnot, ibeq, ibne, decide_eq_true_eq, if_not2, ge_iff_le, gt_iff_lt, fst_ret, Bool.false_eq_true, decide_false]; exact sdec Iff.rfl

theorem rAt_spec {n : Api_Net} {a b : Int} (hl : Few n.domains) : palingref15_At n a b = some (domIx n.domains a b) := by
  unfold palingref15_At
  rw [loop_first n.domains (fun d => d.dev = a ∧ d.vlan = b) hl (fun i h0 h1 h2 => by
    simp (disch := omega) only [palingref15_At_L1, h1, nth_getI h2, wr64, bind_ite, Option.bind_some, dif1, dif2, dif3, dif4, dif5, dif6, dif7, dnot, ibeq, ibne, decide_eq_true_eq, if_not2, ge_iff_le, gt_iff_lt, fst_ret, Bool.false_eq_true, decide_false, mrg1, mrg2, mrg3, mrg4, mrg5, mrg6, mrg7, decide_true, if_true]; exact fpos Iff.rfl) (by simp [palingref15_At_L1])]
  simp only [bind_ite, Option.bind_some, dif1, dif2, dif3, dif4, dif5, dif6, dif7, dnot, ibeq, ibne, decide_eq_true_eq, if_not2, ge_iff_le, gt_iff_lt, fst_ret, Bool.false_eq_true, decide_false]
  rfl

theorem rIn_spec {l : List Int} {x : Int} (hl : Few l) : palingref15_In l x = some (decide (x ∈ l)) := by
  unfold palingref15_In
  rw [loop_each l (fun _ y => ¬ y = x) (.inl ()) (.inr ()) hl (fun i h0 h1 h2 => by
    simp (disch := omega) only [palingref15_In_L1, h1, nth_getI h2, wr64, bind_ite, Option.bind_some, dif1, dif2, dif3, dif4, dif5, dif6, dif7, dnot, ibeq, ibne, decide_eq_true_eq, if_not2, ge_iff_le, gt_iff_lt, fst_ret, Bool.false_eq_true, decide_false, mrg1, mrg2, mrg3, mrg4, mrg5, mrg6, mrg7, decide_true, if_true]; exact fpos Iff.rfl) (by simp [palingref15_In_L1])]
  simp only [bind_ite, Option.bind_some, dif1, dif2, dif3, dif4, dif5, dif6, dif7, dnot, ibeq, ibne, decide_eq_true_eq, if_not2, ge_iff_le, gt_iff_lt, fst_ret, Bool.false_eq_true, decide_false, eachP_mem]
  refine sdec ?_
  constructor
  · intro h
    apply Classical.byContradiction
    intro hn
    exact h fun y hy e => hn (e ▸ hy)
  · intro h hn
    exact hn x h rfl

theorem rRising3_spec {l : List Int} {a b : Int} (hl : Few l) : palingref03_Rising l a b = some (decide (RisingP l a b)) := by
  unfold palingref03_Rising
  rw [loop_each l (fun i x => a ≤ x ∧ x ≤ b ∧ (0 < i → getI l (i - 1) < x)) (.inl ()) (.inr ()) hl (fun i h0 h1 h2 => by
    by_cases hi : 0 < i
    · have h3 : inL l (i - 1) := ⟨by omega, by omega⟩
      simp (disch := omega) only [palingref03_Rising_L1, h1, hi, nth_getI h2, wr64, nth_getI h3, bind_ite, Option.bind_some, dif1, dif2, dif3, dif4, dif5, dif6, dif7, dnot, ibeq, ibne, decide_eq_true_eq, if_not2, ge_iff_le, gt_iff_lt, fst_ret, Bool.false_eq_true, decide_false, mrg1, mrg2, mrg3, mrg4, mrg5, mrg6, mrg7, decide_true, if_true]
      exact fneg (by grind)
    · simp (disch := omega) only [palingref03_Rising_L1, h1, hi, nth_getI h2, wr64, bind_ite, Option.bind_some, dif1, dif2, dif3, dif4, dif5, dif6, dif7, dnot, ibeq, ibne, decide_eq_true_eq, if_not2, ge_iff_le, gt_iff_lt, fst_ret, Bool.false_eq_true, decide_false, mrg1, mrg2, mrg3, mrg4, mrg5, mrg6, mrg7, decide_true, if_true, if_false]
      exact fneg (by grind)) (by simp [palingref03_Rising_L1])]
  simp only [bind_ite, Option.bind_some, dif1, dif2, dif3, dif4, dif5, dif6, dif7, dnot, ibeq, ibne, decide_eq_true_eq, if_not2, ge_iff_le, gt_iff_lt, fst_ret, Bool.false_eq_true, decide_false]
  refine sdec ?_
  unfold RisingP
  constructor
  · rintro ⟨h1, h2, h3⟩; exact ⟨h3, by omega, by omega⟩
  · rintro ⟨h1, h2, h3⟩; exact ⟨by omega, by omega, h1⟩

theorem rrising_spec {l : List Int} {b : Int} (hl : Few l) : palingref15_rising l b = some (decide (RiseP l b)) := by
  simp only [palingref15_rising, rRising3_spec hl, bind_ite, Option.bind_some, dif1, dif2, dif3, dif4, dif5, dif6, dif7, dnot, ibeq, ibne, decide_eq_true_eq, if_not2, ge_iff_le, gt_iff_lt, fst_ret, Bool.false_eq_true, decide_false]
  refine sdec ?_
  unfold RiseP
  cases l <;> simp; omega

theorem rMember_spec {p : Api_Port} {v : Int} (hp : Few p.tagged) : palingref15_Member p v = some (decide (MemP p v)) := by
  simp +contextual only [palingref15_Member, rIn_spec hp, bind_ite, Option.bind_some, dif1, dif2, dif3, dif4, dif5, dif6, dif7, dnot, ibeq, ibne, decide_eq_true_eq, if_not2, ge_iff_le, gt_iff_lt, fst_ret, Bool.false_eq_true, decide_false]
  exact sdec (by unfold MemP; grind)

section
variable {n : Api_Net}
theorem rdom1_spec (hs : SmN n) : loopM (palingref15_domains_L1 n) 0 = if EachP n.domains (BareP n) then some (.inr ()) else some (.inl ()) := by
  refine loop_each (ρ := Unit ⊕ Unit) n.domains (BareP n) (.inl ()) (.inr ()) hs.domains (fun i h0 h1 h2 => ?_) (by simp [palingref15_domains_L1])
  have := hs.domains
  by_cases c : inL n.irbs (getI n.domains i).irb <;>
    simp (disch := omega) only [palingref15_domains_L1, h1, nth_getI, h2, c, rPlace_spec, rAt_spec hs.domains, wr64, bind_ite, Option.bind_some, dif1, dif2, dif3, dif4, dif5, dif6, dif7, dnot, ibeq, ibne, decide_eq_true_eq, if_not2, ge_iff_le, gt_iff_lt, fst_ret, Bool.false_eq_true, decide_false, mrg1, mrg2, mrg3, mrg4, mrg5, mrg6, mrg7, decide_true, if_true, if_false, Classical.not_not, not_true_eq_false, not_false_eq_true] <;>
    (first | refine fpos ?_ | refine fneg ?_) <;> unfold BareP <;> grind

theorem rpeer_spec (hs : SmN n) (hb : EachP n.domains (BareP n)) {i k : Int} (hi : inL n.domains i) : palingref15_peer n i k = some (decide (PeerP n i (getI n.domains i) k)) := by
  have hp : inL n.domains k → Few (getI n.domains k).peers := fun h => hs.peers _ (getI_mem h)
  have hd : ∀ {j}, inL n.domains j → inL n.devices (getI n.domains j).dev := fun h => (hb _ h).1
  simp +contextual only [palingref15_peer, rPlace_spec, nth_getI, hi, hd, rIn_spec, hp, bind_ite, Option.bind_some, dif1, dif2, dif3, dif4, dif5, dif6, dif7, dnot, ibeq, ibne, decide_eq_true_eq, if_not2, ge_iff_le, gt_iff_lt, fst_ret, Bool.false_eq_true, decide_false]
  refine sdec ?_
  unfold PeerP vtepP
  grind

theorem rdom2_spec (hs : SmN n) (hb : EachP n.domains (BareP n)) : loopM (palingref15_domains_L2 n) 0 = if EachP n.domains (PeersP n) then some (.inr ()) else some (.inl ()) := by
  refine loop_each (ρ := Unit ⊕ Unit) n.domains (PeersP n) (.inl ()) (.inr ()) hs.domains (fun i h0 h1 h2 => ?_) (by simp [palingref15_domains_L2])
  have hd := hs.domains
  have hp := hs.peers _ (getI_mem h2)
  simp (disch := omega) only [palingref15_domains_L2, h1, nth_getI h2, wr64, bind_ite, Option.bind_some, dif1, dif2, dif3, dif4, dif5, dif6, dif7, dnot, ibeq, ibne, decide_eq_true_eq, if_not2, ge_iff_le, gt_iff_lt, fst_ret, Bool.false_eq_true, decide_false, decide_true, if_true]
  rw [loop_each (getI n.domains i).peers (fun j k => PeerP n i (getI n.domains i) k ∧ fstI (getI n.domains i).peers (fun y => k = y) = j) (.inl ()) (.inr ()) hp (fun j g0 g1 g2 => by
    have hs1 : slok (List.length (getI n.domains i).peers) 0 j = true := by rw [slok_dec]; exact decide_eq_true ⟨by omega, by omega, by omega⟩
    have hft : Few (List.drop (Int.toNat 0) (List.take j.toNat (getI n.domains i).peers)) := by simp [Few] at hp ⊢; omega
    simp (disch := omega) only [palingref15_domains_L3, g1, nth_getI g2, rpeer_spec hs hb h2, hs1, rIn_spec hft, wr64, bind_ite, Option.bind_some, dif1, dif2, dif3, dif4, dif5, dif6, dif7, dnot, ibeq, ibne, decide_eq_true_eq, if_not2, ge_iff_le, gt_iff_lt, fst_ret, Bool.false_eq_true, decide_false, mrg1, mrg2, mrg3, mrg4, mrg5, mrg6, mrg7, decide_true, if_true]
    refine fneg ?_
    rw [fst_take g2]
    simp
    grind) (by simp [palingref15_domains_L3])]
  simp only [bind_ite, Option.bind_some, dif1, dif2, dif3, dif4, dif5, dif6, dif7, dnot, ibeq, ibne, decide_eq_true_eq, if_not2, ge_iff_le, gt_iff_lt, fst_ret, Bool.false_eq_true, decide_false]
  exact fpos Iff.rfl

theorem rdomains_spec (hs : SmN n) : palingref15_domains n = some (decide (EachP n.domains (BareP n) ∧ EachP n.domains (PeersP n))) := by
  unfold palingref15_domains
  rw [rdom1_spec hs]
  by_cases hb : EachP n.domains (BareP n)
  · rw [rdom2_spec hs hb]
    simp only [hb, bind_ite, Option.bind_some, dif1, dif2, dif3, dif4, dif5, dif6, dif7, dnot, ibeq, ibne, decide_eq_true_eq, if_not2, ge_iff_le, gt_iff_lt, fst_ret, Bool.false_eq_true, decide_false, if_true, true_and]
  · simp [hb]

theorem rports_spec (hs : SmN n) : palingref15_ports n = some (decide (EachP n.ports (PortP n))) := by
  unfold palingref15_ports
  rw [loop_each n.ports (PortP n) (.inl ()) (.inr ()) hs.ports (fun i h0 h1 h2 => by
    have hp := hs.tagged _ (getI_mem h2)
    have hps := hs.ports
    have hl : loopM (palingref15_ports_L3 n i (getI n.ports i)) 0 = if ∀ v ∈ (getI n.ports i).tagged, 0 ≤ domIx n.domains (getI n.ports i).dev v then some (.inr ()) else some (.inl ()) := by
      rw [loop_each (getI n.ports i).tagged (fun _ v => 0 ≤ domIx n.domains (getI n.ports i).dev v) (.inl ()) (.inr ()) hp (fun j g0 g1 g2 => by
        simp (disch := omega) only [palingref15_ports_L3, rAt_spec hs.domains, nth_getI g2, wr64, g1, bind_ite, Option.bind_some, dif1, dif2, dif3, dif4, dif5, dif6, dif7, dnot, ibeq, ibne, decide_eq_true_eq, if_not2, ge_iff_le, gt_iff_lt, fst_ret, Bool.false_eq_true, decide_false, mrg1, mrg2, mrg3, mrg4, mrg5, mrg6, mrg7, decide_true, if_true]
        exact fneg (by omega)) (by simp [palingref15_ports_L3])]
      simp only [eachP_mem]
    have h3 : (((getI n.ports i).tagged.length : Int) = 0) ↔ (getI n.ports i).tagged = [] := by simp
    by_cases c : inL n.links (getI n.ports i).link <;>
    simp (disch := omega) only [palingref15_ports_L1, palingref15_ports_J2, h1, nth_getI h2, nth_getI, c, rPlace_spec, rAt_spec hs.domains, rrising_spec hp, rIn_spec hp, hl, h3, wr64, bind_ite, Option.bind_some, dif1, dif2, dif3, dif4, dif5, dif6, dif7, dnot, ibeq, ibne, decide_eq_true_eq, if_not2, ge_iff_le, gt_iff_lt, fst_ret, Bool.false_eq_true, decide_false, mrg1, mrg2, mrg3, mrg4, mrg5, mrg6, mrg7, decide_true, if_true, if_false, Classical.not_not, not_true_eq_false, not_false_eq_true] <;>
    (first | refine fpos ?_ | refine fneg ?_) <;> unfold PortP <;> simp only [c] <;> clear hl <;>
    generalize getI n.ports i = p <;>
    generalize (∀ v ∈ p.tagged, 0 ≤ domIx n.domains p.dev v) = A <;>
    generalize domIx n.domains p.dev p.native = B <;>
    generalize RiseP p.tagged 4094 = C <;>
    generalize inL n.devices p.dev = E <;>
    generalize (p.native ∈ p.tagged) = G <;>
    generalize (p.tagged = []) = F <;> grind) (by simp [palingref15_ports_L1])]
  simp only [bind_ite, Option.bind_some, dif1, dif2, dif3, dif4, dif5, dif6, dif7, dnot, ibeq, ibne, decide_eq_true_eq, if_not2, ge_iff_le, gt_iff_lt, fst_ret, Bool.false_eq_true, decide_false]

theorem rlinks_spec (hs : SmN n) : palingref15_links n = some (decide (EachP n.links (LinkP n))) := by
  unfold palingref15_links
  rw [loop_each n.links (LinkP n) (.inl ()) (.inr ()) hs.links (fun i h0 h1 h2 => by
    have := hs.links
    simp +contextual (disch := omega) only [palingref15_links_L1, h1, nth_getI, h2, rPlace_spec, wr64, bind_ite, Option.bind_some, dif1, dif2, dif3, dif4, dif5, dif6, dif7, dnot, ibeq, ibne, decide_eq_true_eq, if_not2, ge_iff_le, gt_iff_lt, fst_ret, Bool.false_eq_true, decide_false, decide_true, if_true]
    simp only [mrg1, mrg2, mrg3, mrg4, mrg5, mrg6, mrg7, Classical.not_not]
    first | refine fpos ?_ | refine fneg ?_
    unfold LinkP
    grind) (by simp [palingref15_links_L1])]
  simp only [bind_ite, Option.bind_some, dif1, dif2, dif3, dif4, dif5, dif6, dif7, dnot, ibeq, ibne, decide_eq_true_eq, if_not2, ge_iff_le, gt_iff_lt, fst_ret, Bool.false_eq_true, decide_false]

theorem rrest_spec (hs : SmN n) : palingref15_rest n = some (decide (EachP n.statics (fun _ x => StaticP n x) ∧ EachP n.floods (fun _ x => FloodP n x) ∧ EachP n.vrfs (fun _ x => VrfP n x) ∧ EachP n.irbs (IrbP n))) := by
  unfold palingref15_rest
  rw [loop_each n.statics (fun _ x => StaticP n x) (.inl ()) (.inr ()) hs.statics (fun i h0 h1 h2 => by
    have := hs.statics
    have hp : inL n.ports (getI n.statics i).port → ∀ v, palingref15_Member (getI n.ports (getI n.statics i).port) v = some (decide (MemP (getI n.ports (getI n.statics i).port) v)) := fun h v => rMember_spec (hs.tagged _ (getI_mem h))
    simp +contextual (disch := omega) only [palingref15_rest_L1, h1, nth_getI, h2, rPlace_spec, hp, wr64, bind_ite, Option.bind_some, dif1, dif2, dif3, dif4, dif5, dif6, dif7, dnot, ibeq, ibne, decide_eq_true_eq, if_not2, ge_iff_le, gt_iff_lt, fst_ret, Bool.false_eq_true, decide_false, decide_true, if_true]
    simp only [mrg1, mrg2, mrg3, mrg4, mrg5, mrg6, mrg7, Classical.not_not]
    first | refine fpos ?_ | refine fneg ?_
    unfold StaticP
    grind) (by simp [palingref15_rest_L1]),
   loop_each n.floods (fun _ x => FloodP n x) (.inl ()) (.inr ()) hs.floods (fun i h0 h1 h2 => by
    have := hs.floods
    simp +contextual (disch := omega) only [palingref15_rest_L2, h1, nth_getI, h2, rPlace_spec, wr64, bind_ite, Option.bind_some, dif1, dif2, dif3, dif4, dif5, dif6, dif7, dnot, ibeq, ibne, decide_eq_true_eq, if_not2, ge_iff_le, gt_iff_lt, fst_ret, Bool.false_eq_true, decide_false, decide_true, if_true]
    simp only [mrg1, mrg2, mrg3, mrg4, mrg5, mrg6, mrg7, Classical.not_not]
    first | refine fpos ?_ | refine fneg ?_
    unfold FloodP
    grind) (by simp [palingref15_rest_L2]),
   loop_each n.vrfs (fun _ x => VrfP n x) (.inl ()) (.inr ()) hs.vrfs (fun i h0 h1 h2 => by
    have := hs.vrfs
    simp +contextual (disch := omega) only [palingref15_rest_L3, h1, nth_getI, h2, rPlace_spec, rrising_spec (hs.imports _ (getI_mem h2)), rrising_spec (hs.exports _ (getI_mem h2)), wr64, bind_ite, Option.bind_some, dif1, dif2, dif3, dif4, dif5, dif6, dif7, dnot, ibeq, ibne, decide_eq_true_eq, if_not2, ge_iff_le, gt_iff_lt, fst_ret, Bool.false_eq_true, decide_false, decide_true, if_true]
    simp only [mrg1, mrg2, mrg3, mrg4, mrg5, mrg6, mrg7, Classical.not_not]
    first | refine fpos ?_ | refine fneg ?_
    unfold VrfP
    grind) (by simp [palingref15_rest_L3]),
   loop_each n.irbs (IrbP n) (.inl ()) (.inr ()) hs.irbs (fun i h0 h1 h2 => by
    have := hs.irbs
    simp +contextual (disch := omega) only [palingref15_rest_L4, h1, nth_getI, h2, rPlace_spec, wr64, bind_ite, Option.bind_some, dif1, dif2, dif3, dif4, dif5, dif6, dif7, dnot, ibeq, ibne, decide_eq_true_eq, if_not2, ge_iff_le, gt_iff_lt, fst_ret, Bool.false_eq_true, decide_false, decide_true, if_true]
    simp only [mrg1, mrg2, mrg3, mrg4, mrg5, mrg6, mrg7, Classical.not_not]
    first | refine fpos ?_ | refine fneg ?_
    unfold IrbP
    grind) (by simp [palingref15_rest_L4])]
  simp only [bind_ite, Option.bind_some, dif1, dif2, dif3, dif4, dif5, dif6, dif7, dnot, ibeq, ibne, decide_eq_true_eq, if_not2, ge_iff_le, gt_iff_lt, fst_ret, Bool.false_eq_true, decide_false]

theorem rRight_spec (hs : SmN n) : palingref15_Right n = some (decide (RightP n)) := by
  simp only [palingref15_Right, rdomains_spec hs, rports_spec hs, rlinks_spec hs, rrest_spec hs, bind_ite, Option.bind_some, dif1, dif2, dif3, dif4, dif5, dif6, dif7, dnot, ibeq, ibne, decide_eq_true_eq, if_not2, ge_iff_le, gt_iff_lt, fst_ret, Bool.false_eq_true, decide_false]
  refine sdec ?_
  rw [rightP_iff]
  unfold FewP
  constructor
  · rintro ⟨a, b, c, d, e, f, g, h, ⟨i, j⟩, k, l, m⟩; exact ⟨⟨by omega, by omega, by omega, by omega, by omega, by omega, by omega, by omega⟩, i, j, k, l, m⟩
  · rintro ⟨⟨a, b, c, d, e, f, g, h⟩, i, j, k, l, m⟩; exact ⟨by omega, by omega, by omega, by omega, by omega, by omega, by omega, by omega, ⟨i, j⟩, k, l, m⟩
end
end Go.Eng
