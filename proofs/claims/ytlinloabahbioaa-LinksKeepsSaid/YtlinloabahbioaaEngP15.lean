/- Plain laws of chapter 15 (names): what the mirrors answer. -/
import Derived.Test.YtlinloabahbioaaEngP1
import Derived.Test.YtlinloabahbioaaMAM
set_option linter.unusedVariables false
set_option linter.unusedSectionVars false
set_option linter.unusedSimpArgs false
namespace Go.Eng
open Go Classical
attribute [local congr] ite_cg

theorem place_Device_spec {l i} : names_place_Device l i = some (decide (inL l i)) := by simp only [names_place_Device, bind_ite, Option.bind_some, dif1, dif2, dif3, dif4, dif5, dif6, dif7, dnot, ibeq, ibne, decide_eq_true_eq, if_not2, ge_iff_le, gt_iff_lt, fst_ret, Bool.false_eq_true, decide_false]; exact sdec Iff.rfl
theorem place_Port_spec {l i} : names_place_Port l i = some (decide (inL l i)) := by simp only [names_place_Port, bind_ite, Option.bind_some, dif1, dif2, dif3, dif4, dif5, dif6, dif7, dnot, ibeq, ibne, decide_eq_true_eq, if_not2, ge_iff_le, gt_iff_lt, fst_ret, Bool.false_eq_true, decide_false]; exact sdec Iff.rfl
theorem place_Link_spec {l i} : names_place_Link l i = some (decide (inL l i)) := by simp only [names_place_Link, bind_ite, Option.bind_some, dif1, dif2, dif3, dif4, dif5, dif6, dif7, dnot, ibeq, ibne, decide_eq_true_eq, if_not2, ge_iff_le, gt_iff_lt, fst_ret, Bool.false_eq_true, decide_false]; exact sdec Iff.rfl
theorem place_Domain_spec {l i} : names_place_Domain l i = some (decide (inL l i)) := by simp only [names_place_Domain, bind_ite, Option.bind_some, dif1, dif2, dif3, dif4, dif5, dif6, dif7, dnot, ibeq, ibne, decide_eq_true_eq, if_not2, ge_iff_le, gt_iff_lt, fst_ret, Bool.false_eq_true, decide_false]; exact sdec Iff.rfl
theorem place_Irb_spec {l i} : names_place_Irb l i = some (decide (inL l i)) := by simp only [names_place_Irb, bind_ite, Option.bind_some, dif1, dif2, dif3, dif4, dif5, dif6, dif7, dnot, ibeq, ibne, decide_eq_true_eq, if_not2, ge_iff_le, gt_iff_lt, fst_ret, Bool.false_eq_true, decide_false]; exact sdec Iff.rfl
theorem place_Vrf_spec {l i} : names_place_Vrf l i = some (decide (inL l i)) := by simp only [names_place_Vrf, bind_ite, Option.bind_some, dif1, dif2, dif3, dif4, dif5, dif6, dif7, dnot, ibeq, ibne, decide_eq_true_eq, if_not2, ge_iff_le, gt_iff_lt, fst_ret, Bool.false_eq_true, decide_false]; exact sdec Iff.rfl

theorem Index_int_spec {l : List Int} {x : Int} (hl : Few l) : slices_Index_int l x = some (fstI l (fun y => x = y)) := by
  unfold slices_Index_int
  rw [loop_first l (fun y => x = y) hl (fun i h0 h1 h2 => by simp (disch := omega) only [slices_Index_int_L1, h1, nth_getI h2, wr64, bind_ite, Option.bind_some, dif1, dif2, dif3, dif4, dif5, dif6, dif7, dnot, ibeq, ibne, decide_eq_true_eq, if_not2, ge_iff_le, gt_iff_lt, fst_ret, Bool.false_eq_true, decide_false, decide_true, if_true]; split <;> rfl) (by simp [slices_Index_int_L1])]
  simp only [bind_ite, Option.bind_some, dif1, dif2, dif3, dif4, dif5, dif6, dif7, dnot, ibeq, ibne, decide_eq_true_eq, if_not2, ge_iff_le, gt_iff_lt, fst_ret, Bool.false_eq_true, decide_false]

theorem Contains_int_spec {l : List Int} {x : Int} (hl : Few l) : slices_Contains_int l x = some (decide (x ∈ l)) := by
  unfold slices_Contains_int
  rw [Index_int_spec hl]
  simp only [bind_ite, Option.bind_some, dif1, dif2, dif3, dif4, dif5, dif6, dif7, dnot, ibeq, ibne, decide_eq_true_eq, if_not2, ge_iff_le, gt_iff_lt, fst_ret, Bool.false_eq_true, decide_false]
  refine sdec ?_
  have := fstI_none_mem (l := l) (P := fun y => x = y)
  constructor
  · intro h
    apply Classical.byContradiction
    intro hn
    have := this.2 (fun y hy e => hn (e ▸ hy)); omega
  · intro h
    apply Classical.byContradiction
    intro hn
    exact this.1 (by omega) x h rfl

/-! ### The net -/
structure SmN (n : Api_Net) : Prop where
  devices : Few n.devices
  ports : Few n.ports
  links : Few n.links
  domains : Few n.domains
  statics : Few n.statics
  floods : Few n.floods
  vrfs : Few n.vrfs
  irbs : Few n.irbs
  tagged : ∀ p ∈ n.ports, Few p.tagged
  peers : ∀ d ∈ n.domains, Few d.peers
  addrs : ∀ f ∈ n.floods, Few f.addrs
  imports : ∀ v ∈ n.vrfs, Few v.imports
  exports : ∀ v ∈ n.vrfs, Few v.exports

/-- Where a domain is. -/
noncomputable def domIx (l : List Api_Domain) (dev vlan : Int) : Int := fstI l fun d => d.dev = dev ∧ d.vlan = vlan

theorem IndexFunc_judge_domain_spec {l a b} (hl : Few l) : slices_IndexFunc_Domain_judge_domain_1 l a b = some (domIx l a b) := by
  unfold slices_IndexFunc_Domain_judge_domain_1
  rw [loop_first l (fun d => d.dev = a ∧ d.vlan = b) hl (fun i h0 h1 h2 => by simp (disch := omega) only [slices_IndexFunc_Domain_judge_domain_1_L1, names_judge_domain_1, h1, nth_getI h2, wr64, bind_ite, Option.bind_some, dif1, dif2, dif3, dif4, dif5, dif6, dif7, dnot, ibeq, ibne, decide_eq_true_eq, if_not2, ge_iff_le, gt_iff_lt, fst_ret, Bool.false_eq_true, decide_false, decide_true, if_true]; split <;> rfl) (by simp [slices_IndexFunc_Domain_judge_domain_1_L1])]
  simp only [bind_ite, Option.bind_some, dif1, dif2, dif3, dif4, dif5, dif6, dif7, dnot, ibeq, ibne, decide_eq_true_eq, if_not2, ge_iff_le, gt_iff_lt, fst_ret, Bool.false_eq_true, decide_false]
  rfl

theorem judge_domain_spec {j a b} (hl : Few j.n.domains) : names_judge_domain j a b = some (domIx j.n.domains a b) := by
  simp only [names_judge_domain, IndexFunc_judge_domain_spec hl, bind_ite, Option.bind_some, dif1, dif2, dif3, dif4, dif5, dif6, dif7, dnot, ibeq, ibne, decide_eq_true_eq, if_not2, ge_iff_le, gt_iff_lt, fst_ret, Bool.false_eq_true, decide_false]

/-- A domain is right but for its peers. -/
def BareP (n : Api_Net) (i : Int) (d : Api_Domain) : Prop :=
  inL n.devices d.dev ∧ 1 ≤ d.vlan ∧ d.vlan ≤ 4094 ∧ 0 ≤ d.vni ∧ d.vni ≤ 16777215 ∧ (d.irb = -1 ∨ inL n.irbs d.irb ∧ (getI n.irbs d.irb).domain = i) ∧ domIx n.domains d.dev d.vlan = i

theorem judge_bare_spec {n : Api_Net} {i : Int} {d} (hl : Few n.domains) : names_judge_bare ⟨n⟩ i d = some (decide (BareP n i d)) := by
  simp +contextual only [names_judge_bare, place_Device_spec, place_Irb_spec, judge_domain_spec (j := ⟨n⟩) hl, nth_getI, bind_ite, Option.bind_some, dif1, dif2, dif3, dif4, dif5, dif6, dif7, dnot, ibeq, ibne, decide_eq_true_eq, if_not2, ge_iff_le, gt_iff_lt, fst_ret, Bool.false_eq_true, decide_false]
  refine sdec ?_
  unfold BareP
  grind

def vtepP (n : Api_Net) (dev : Int) : Prop := (getI n.devices dev).vtep ≠ 0
theorem judge_vtep_spec {n : Api_Net} {d : Api_Domain} (h : inL n.devices d.dev) : names_judge_vtep ⟨n⟩ d = some (decide (vtepP n d.dev)) := by
  simp only [names_judge_vtep, nth_getI h, bind_ite, Option.bind_some, dif1, dif2, dif3, dif4, dif5, dif6, dif7, dnot, ibeq, ibne, decide_eq_true_eq, if_not2, ge_iff_le, gt_iff_lt, fst_ret, Bool.false_eq_true, decide_false]; exact sdec Iff.rfl

/-- A domain may have a peer. -/
def PeerP (n : Api_Net) (i : Int) (d : Api_Domain) (k : Int) : Prop :=
  inL n.domains k ∧ k ≠ i ∧ inL n.devices (getI n.domains k).dev ∧ (getI n.domains k).dev ≠ d.dev ∧ (getI n.domains k).vni = d.vni ∧ d.vni ≠ 0 ∧ vtepP n (getI n.domains k).dev ∧ vtepP n d.dev ∧ i ∈ (getI n.domains k).peers

theorem judge_peer_spec {n : Api_Net} (hs : SmN n) {i : Int} {d : Api_Domain} (hd : inL n.devices d.dev) {k : Int} : names_judge_peer ⟨n⟩ i d k = some (decide (PeerP n i d k)) := by
  have hp : inL n.domains k → Few (getI n.domains k).peers := fun h => hs.peers _ (getI_mem h)
  simp +contextual only [names_judge_peer, place_Domain_spec, place_Device_spec, judge_vtep_spec, hd, Contains_int_spec, hp, nth_getI, bind_ite, Option.bind_some, dif1, dif2, dif3, dif4, dif5, dif6, dif7, dnot, ibeq, ibne, decide_eq_true_eq, if_not2, ge_iff_le, gt_iff_lt, fst_ret, Bool.false_eq_true, decide_false]
  refine sdec ?_
  unfold PeerP
  grind

/-- A domain's peers are right. -/
def PeersP (n : Api_Net) (i : Int) (d : Api_Domain) : Prop := EachP d.peers fun j k => PeerP n i d k ∧ fstI d.peers (fun y => k = y) = j

theorem judge_peers_spec {n : Api_Net} (hs : SmN n) {i : Int} {d : Api_Domain} (hd : inL n.devices d.dev) (hp : Few d.peers) : names_judge_peers ⟨n⟩ i d = some (decide (PeersP n i d)) := by
  unfold names_judge_peers names_all_int_judge_peers_1
  rw [loop_each d.peers (fun j k => PeerP n i d k ∧ fstI d.peers (fun y => k = y) = j) (.inl ()) (.inr ()) hp (fun j h0 h1 h2 => by
    simp (disch := omega) only [names_all_int_judge_peers_1_L1, names_judge_peers_1, h1, nth_getI h2, wr64, judge_peer_spec hs hd, Index_int_spec hp, bind_ite, Option.bind_some, dif1, dif2, dif3, dif4, dif5, dif6, dif7, dnot, ibeq, ibne, decide_eq_true_eq, if_not2, ge_iff_le, gt_iff_lt, fst_ret, Bool.false_eq_true, decide_false, decide_true, if_true]; split <;> rfl) (by simp [names_all_int_judge_peers_1_L1])]
  simp only [bind_ite, Option.bind_some, dif1, dif2, dif3, dif4, dif5, dif6, dif7, dnot, ibeq, ibne, decide_eq_true_eq, if_not2, ge_iff_le, gt_iff_lt, fst_ret, Bool.false_eq_true, decide_false]
  rfl

/-- Numbers that rise. -/
def RisingP (l : List Int) (a b : Int) : Prop := (EachP l fun i x => a ≤ x ∧ x ≤ b ∧ (0 < i → getI l (i - 1) < x)) ∧ 0 < l.length ∧ l.length ≤ 16

theorem num_Rising_spec {l : List Int} {a b : Int} (hl : Few l) : num_Rising l a b = some (decide (RisingP l a b)) := by
  unfold num_Rising
  rw [loop_each l (fun i x => a ≤ x ∧ x ≤ b ∧ (0 < i → getI l (i - 1) < x)) (.inl ()) (.inr ()) hl (fun i h0 h1 h2 => by
    by_cases hi : 0 < i
    · have h3 : inL l (i - 1) := ⟨by omega, by omega⟩
      simp (disch := omega) only [num_Rising_L1, h1, hi, nth_getI h2, wr64, nth_getI h3, bind_ite, Option.bind_some, dif1, dif2, dif3, dif4, dif5, dif6, dif7, dnot, ibeq, ibne, decide_eq_true_eq, if_not2, ge_iff_le, gt_iff_lt, fst_ret, Bool.false_eq_true, decide_false, decide_true, if_true]
      grind
    · simp (disch := omega) only [num_Rising_L1, h1, hi, nth_getI h2, wr64, bind_ite, Option.bind_some, dif1, dif2, dif3, dif4, dif5, dif6, dif7, dnot, ibeq, ibne, decide_eq_true_eq, if_not2, ge_iff_le, gt_iff_lt, fst_ret, Bool.false_eq_true, decide_false, decide_true, if_true]
      grind) (by simp [num_Rising_L1])]
  simp only [bind_ite, Option.bind_some, dif1, dif2, dif3, dif4, dif5, dif6, dif7, dnot, ibeq, ibne, decide_eq_true_eq, if_not2, ge_iff_le, gt_iff_lt, fst_ret, Bool.false_eq_true, decide_false]
  refine sdec (and_congr Iff.rfl ?_)
  omega

def RiseP (l : List Int) (b : Int) : Prop := l = [] ∨ RisingP l 1 b
theorem rising_spec {l : List Int} {b : Int} (hl : Few l) : names_rising l b = some (decide (RiseP l b)) := by
  simp only [names_rising, num_Rising_spec hl, bind_ite, Option.bind_some, dif1, dif2, dif3, dif4, dif5, dif6, dif7, dnot, ibeq, ibne, decide_eq_true_eq, if_not2, ge_iff_le, gt_iff_lt, fst_ret, Bool.false_eq_true, decide_false]
  refine sdec ?_
  unfold RiseP
  cases l <;> simp; omega

/-- A port is right. -/
def PortP (n : Api_Net) (i : Int) (p : Api_Port) : Prop :=
  inL n.devices p.dev ∧ 0 ≤ p.native ∧ p.native ≤ 4094 ∧ RiseP p.tagged 4094 ∧ p.native ∉ p.tagged ∧ ¬ (p.native = 0 ∧ p.tagged = []) ∧ (∀ v ∈ p.tagged, 0 ≤ domIx n.domains p.dev v) ∧
  (0 < p.native → 0 ≤ domIx n.domains p.dev p.native) ∧ (p.link = -1 ∨ inL n.links p.link ∧ ((getI n.links p.link).a = i ∨ (getI n.links p.link).b = i))

theorem judge_port_spec {n : Api_Net} (hs : SmN n) {i : Int} {p : Api_Port} (hp : Few p.tagged) : names_judge_port ⟨n⟩ i p = some (decide (PortP n i p)) := by
  have hl : loopM (names_judge_port_L2 ⟨n⟩ i p) 0 = if ∀ v ∈ p.tagged, 0 ≤ domIx n.domains p.dev v then some (.inr ()) else some (.inl ()) := by
    rw [loop_each p.tagged (fun _ v => 0 ≤ domIx n.domains p.dev v) (.inl ()) (.inr ()) hp (fun j h0 h1 h2 => by
      simp (disch := omega) only [names_judge_port_L2, judge_domain_spec (j := ⟨n⟩) hs.domains, nth_getI h2, wr64, h1, bind_ite, Option.bind_some, dif1, dif2, dif3, dif4, dif5, dif6, dif7, dnot, ibeq, ibne, decide_eq_true_eq, if_not2, ge_iff_le, gt_iff_lt, fst_ret, Bool.false_eq_true, decide_false, mrg1, mrg2, mrg3, mrg4, mrg5, mrg6, mrg7, decide_true, if_true]
      exact fneg (by omega)) (by simp [names_judge_port_L2])]
    simp only [eachP_mem]
  have h3 : ((p.tagged.length : Int) = 0) ↔ p.tagged = [] := by simp
  by_cases c : inL n.links p.link <;>
    simp only [names_judge_port, names_judge_port_J1, names_judge_port_J3, place_Device_spec, place_Link_spec, rising_spec hp, Contains_int_spec hp, hl, judge_domain_spec (j := ⟨n⟩) hs.domains, nth_getI, c, h3, bind_ite, Option.bind_some, dif1, dif2, dif3, dif4, dif5, dif6, dif7, dnot, ibeq, ibne, decide_eq_true_eq, if_not2, ge_iff_le, gt_iff_lt, fst_ret, Bool.false_eq_true, decide_false, mrg1, mrg2, mrg3, mrg4, mrg5, mrg6, mrg7, decide_true, if_true, if_false, decide_false] <;>
    refine sdec ?_ <;> unfold PortP <;> simp only [c] <;> clear hl <;>
    generalize (∀ v ∈ p.tagged, 0 ≤ domIx n.domains p.dev v) = A <;>
    generalize domIx n.domains p.dev p.native = B <;>
    generalize RiseP p.tagged 4094 = C <;>
    generalize inL n.devices p.dev = E <;>
    generalize (p.native ∈ p.tagged) = G <;>
    generalize (p.tagged = []) = F <;> grind

/-- A link is right. -/
def LinkP (n : Api_Net) (i : Int) (l : Api_Link) : Prop :=
  inL n.ports l.a ∧ inL n.ports l.b ∧ (getI n.ports l.a).dev ≠ (getI n.ports l.b).dev ∧ (getI n.ports l.a).link = i ∧ (getI n.ports l.b).link = i
theorem judge_link_spec {n : Api_Net} {i : Int} {l : Api_Link} : names_judge_link ⟨n⟩ i l = some (decide (LinkP n i l)) := by
  simp +contextual only [names_judge_link, place_Port_spec, nth_getI, bind_ite, Option.bind_some, dif1, dif2, dif3, dif4, dif5, dif6, dif7, dnot, ibeq, ibne, decide_eq_true_eq, if_not2, ge_iff_le, gt_iff_lt, fst_ret, Bool.false_eq_true, decide_false]
  exact sdec (by unfold LinkP; grind)

/-- A port has a VLAN. -/
def MemP (p : Api_Port) (v : Int) : Prop := v ≠ 0 ∧ (v = p.native ∨ v ∈ p.tagged)
theorem Member_spec {p : Api_Port} {v : Int} (hp : Few p.tagged) : names_Member p v = some (decide (MemP p v)) := by
  simp +contextual only [names_Member, Contains_int_spec hp, bind_ite, Option.bind_some, dif1, dif2, dif3, dif4, dif5, dif6, dif7, dnot, ibeq, ibne, decide_eq_true_eq, if_not2, ge_iff_le, gt_iff_lt, fst_ret, Bool.false_eq_true, decide_false]
  exact sdec Iff.rfl

def StaticP (n : Api_Net) (s : Api_Static) : Prop :=
  inL n.domains s.domain ∧ inL n.ports s.port ∧ (getI n.ports s.port).dev = (getI n.domains s.domain).dev ∧ MemP (getI n.ports s.port) (getI n.domains s.domain).vlan
theorem judge_static_spec {n : Api_Net} (hs : SmN n) {i : Int} {s : Api_Static} : names_judge_static ⟨n⟩ i s = some (decide (StaticP n s)) := by
  have hp : inL n.ports s.port → Few (getI n.ports s.port).tagged := fun h => hs.tagged _ (getI_mem h)
  simp +contextual only [names_judge_static, place_Port_spec, place_Domain_spec, Member_spec, hp, nth_getI, bind_ite, Option.bind_some, dif1, dif2, dif3, dif4, dif5, dif6, dif7, dnot, ibeq, ibne, decide_eq_true_eq, if_not2, ge_iff_le, gt_iff_lt, fst_ret, Bool.false_eq_true, decide_false]
  exact sdec Iff.rfl

def FloodP (n : Api_Net) (f : Api_Flood) : Prop := inL n.devices f.dev ∧ f.addrs.length ≤ 16
theorem Right_1_spec {n : Api_Net} {i : Int} {f : Api_Flood} : names_Right_1 i f n = some (decide (FloodP n f)) := by
  simp +contextual only [names_Right_1, place_Device_spec, bind_ite, Option.bind_some, dif1, dif2, dif3, dif4, dif5, dif6, dif7, dnot, ibeq, ibne, decide_eq_true_eq, if_not2, ge_iff_le, gt_iff_lt, fst_ret, Bool.false_eq_true, decide_false]
  exact sdec (and_congr Iff.rfl (by omega))

def VrfP (n : Api_Net) (f : Api_Vrf) : Prop := inL n.devices f.dev ∧ RiseP f.imports 65535 ∧ RiseP f.exports 65535
theorem Right_2_spec {n : Api_Net} {i : Int} {f : Api_Vrf} (h1 : Few f.imports) (h2 : Few f.exports) : names_Right_2 i f n = some (decide (VrfP n f)) := by
  simp +contextual only [names_Right_2, place_Device_spec, rising_spec h1, rising_spec h2, bind_ite, Option.bind_some, dif1, dif2, dif3, dif4, dif5, dif6, dif7, dnot, ibeq, ibne, decide_eq_true_eq, if_not2, ge_iff_le, gt_iff_lt, fst_ret, Bool.false_eq_true, decide_false]
  exact sdec Iff.rfl

def IrbP (n : Api_Net) (i : Int) (x : Api_Irb) : Prop :=
  inL n.domains x.domain ∧ inL n.vrfs x.vrf ∧ (getI n.domains x.domain).dev = (getI n.vrfs x.vrf).dev ∧ (getI n.domains x.domain).irb = i ∧ 1 ≤ x.net.bits ∧ x.net.bits ≤ 30
theorem judge_irb_spec {n : Api_Net} {i : Int} {x : Api_Irb} : names_judge_irb ⟨n⟩ i x = some (decide (IrbP n i x)) := by
  simp +contextual only [names_judge_irb, place_Vrf_spec, place_Domain_spec, nth_getI, bind_ite, Option.bind_some, dif1, dif2, dif3, dif4, dif5, dif6, dif7, dnot, ibeq, ibne, decide_eq_true_eq, if_not2, ge_iff_le, gt_iff_lt, fst_ret, Bool.false_eq_true, decide_false]
  exact sdec Iff.rfl

def FewP (n : Api_Net) : Prop := n.devices.length ≤ 8 ∧ n.ports.length ≤ 40 ∧ n.links.length ≤ 20 ∧ n.domains.length ≤ 48 ∧ n.statics.length ≤ 64 ∧ n.floods.length ≤ 48 ∧ n.vrfs.length ≤ 16 ∧ n.irbs.length ≤ 48
theorem judge_few_spec {n : Api_Net} : names_judge_few ⟨n⟩ = some (decide (FewP n)) := by
  simp +contextual only [names_judge_few, bind_ite, Option.bind_some, dif1, dif2, dif3, dif4, dif5, dif6, dif7, dnot, ibeq, ibne, decide_eq_true_eq, if_not2, ge_iff_le, gt_iff_lt, fst_ret, Bool.false_eq_true, decide_false]
  exact sdec (by unfold FewP; omega)

/-- A net that may be. -/
structure RightP (n : Api_Net) : Prop where
  few : FewP n
  bare : EachP n.domains (BareP n)
  peers : EachP n.domains (PeersP n)
  ports : EachP n.ports (PortP n)
  links : EachP n.links (LinkP n)
  statics : EachP n.statics fun _ x => StaticP n x
  floods : EachP n.floods fun _ x => FloodP n x
  vrfs : EachP n.vrfs fun _ x => VrfP n x
  irbs : EachP n.irbs (IrbP n)
theorem rightP_iff {n : Api_Net} : RightP n ↔ FewP n ∧ EachP n.domains (BareP n) ∧ EachP n.domains (PeersP n) ∧ EachP n.ports (PortP n) ∧ EachP n.links (LinkP n) ∧ EachP n.statics (fun _ x => StaticP n x) ∧
    EachP n.floods (fun _ x => FloodP n x) ∧ EachP n.vrfs (fun _ x => VrfP n x) ∧ EachP n.irbs (IrbP n) :=
  ⟨fun ⟨a, b, c, d, e, f, g, h, i⟩ => ⟨a, b, c, d, e, f, g, h, i⟩, fun ⟨a, b, c, d, e, f, g, h, i⟩ => ⟨a, b, c, d, e, f, g, h, i⟩⟩

section
variable {n : Api_Net}
theorem all_bare_spec (hs : SmN n) : names_all_Domain_judge_bare n.domains ⟨n⟩ = some (decide (EachP n.domains (BareP n))) := by
  unfold names_all_Domain_judge_bare
  rw [loop_each n.domains (BareP n) (.inl ()) (.inr ()) hs.domains (fun i h0 h1 h2 => by
    have := hs.domains
    simp (disch := omega) only [names_all_Domain_judge_bare_L1, h1, nth_getI h2, wr64, judge_bare_spec (n := n) hs.domains, bind_ite, Option.bind_some, dif1, dif2, dif3, dif4, dif5, dif6, dif7, dnot, ibeq, ibne, decide_eq_true_eq, if_not2, ge_iff_le, gt_iff_lt, fst_ret, Bool.false_eq_true, decide_false, decide_true, if_true]; split <;> rfl) (by simp [names_all_Domain_judge_bare_L1])]
  simp only [bind_ite, Option.bind_some, dif1, dif2, dif3, dif4, dif5, dif6, dif7, dnot, ibeq, ibne, decide_eq_true_eq, if_not2, ge_iff_le, gt_iff_lt, fst_ret, Bool.false_eq_true, decide_false]
theorem all_peers_spec (hs : SmN n) (hb : EachP n.domains (BareP n)) : names_all_Domain_judge_peers n.domains ⟨n⟩ = some (decide (EachP n.domains (PeersP n))) := by
  unfold names_all_Domain_judge_peers
  rw [loop_each n.domains (PeersP n) (.inl ()) (.inr ()) hs.domains (fun i h0 h1 h2 => by
    have := hs.domains
    simp (disch := omega) only [names_all_Domain_judge_peers_L1, h1, nth_getI h2, wr64, judge_peers_spec (n := n) hs (hb i h2).1 (hs.peers _ (getI_mem h2)), bind_ite, Option.bind_some, dif1, dif2, dif3, dif4, dif5, dif6, dif7, dnot, ibeq, ibne, decide_eq_true_eq, if_not2, ge_iff_le, gt_iff_lt, fst_ret, Bool.false_eq_true, decide_false, decide_true, if_true]; split <;> rfl) (by simp [names_all_Domain_judge_peers_L1])]
  simp only [bind_ite, Option.bind_some, dif1, dif2, dif3, dif4, dif5, dif6, dif7, dnot, ibeq, ibne, decide_eq_true_eq, if_not2, ge_iff_le, gt_iff_lt, fst_ret, Bool.false_eq_true, decide_false]
theorem all_port_spec (hs : SmN n) : names_all_Port_judge_port n.ports ⟨n⟩ = some (decide (EachP n.ports (PortP n))) := by
  unfold names_all_Port_judge_port
  rw [loop_each n.ports (PortP n) (.inl ()) (.inr ()) hs.ports (fun i h0 h1 h2 => by
    have := hs.ports
    simp (disch := omega) only [names_all_Port_judge_port_L1, h1, nth_getI h2, wr64, judge_port_spec (n := n) hs (hs.tagged _ (getI_mem h2)), bind_ite, Option.bind_some, dif1, dif2, dif3, dif4, dif5, dif6, dif7, dnot, ibeq, ibne, decide_eq_true_eq, if_not2, ge_iff_le, gt_iff_lt, fst_ret, Bool.false_eq_true, decide_false, decide_true, if_true]; split <;> rfl) (by simp [names_all_Port_judge_port_L1])]
  simp only [bind_ite, Option.bind_some, dif1, dif2, dif3, dif4, dif5, dif6, dif7, dnot, ibeq, ibne, decide_eq_true_eq, if_not2, ge_iff_le, gt_iff_lt, fst_ret, Bool.false_eq_true, decide_false]
theorem all_link_spec (hs : SmN n) : names_all_Link_judge_link n.links ⟨n⟩ = some (decide (EachP n.links (LinkP n))) := by
  unfold names_all_Link_judge_link
  rw [loop_each n.links (LinkP n) (.inl ()) (.inr ()) hs.links (fun i h0 h1 h2 => by
    have := hs.links
    simp (disch := omega) only [names_all_Link_judge_link_L1, h1, nth_getI h2, wr64, judge_link_spec (n := n), bind_ite, Option.bind_some, dif1, dif2, dif3, dif4, dif5, dif6, dif7, dnot, ibeq, ibne, decide_eq_true_eq, if_not2, ge_iff_le, gt_iff_lt, fst_ret, Bool.false_eq_true, decide_false, decide_true, if_true]; split <;> rfl) (by simp [names_all_Link_judge_link_L1])]
  simp only [bind_ite, Option.bind_some, dif1, dif2, dif3, dif4, dif5, dif6, dif7, dnot, ibeq, ibne, decide_eq_true_eq, if_not2, ge_iff_le, gt_iff_lt, fst_ret, Bool.false_eq_true, decide_false]
theorem all_static_spec (hs : SmN n) : names_all_Static_judge_static n.statics ⟨n⟩ = some (decide (EachP n.statics fun _ x => StaticP n x)) := by
  unfold names_all_Static_judge_static
  rw [loop_each n.statics (fun _ x => StaticP n x) (.inl ()) (.inr ()) hs.statics (fun i h0 h1 h2 => by
    have := hs.statics
    simp (disch := omega) only [names_all_Static_judge_static_L1, h1, nth_getI h2, wr64, judge_static_spec (n := n) hs, bind_ite, Option.bind_some, dif1, dif2, dif3, dif4, dif5, dif6, dif7, dnot, ibeq, ibne, decide_eq_true_eq, if_not2, ge_iff_le, gt_iff_lt, fst_ret, Bool.false_eq_true, decide_false, decide_true, if_true]; split <;> rfl) (by simp [names_all_Static_judge_static_L1])]
  simp only [bind_ite, Option.bind_some, dif1, dif2, dif3, dif4, dif5, dif6, dif7, dnot, ibeq, ibne, decide_eq_true_eq, if_not2, ge_iff_le, gt_iff_lt, fst_ret, Bool.false_eq_true, decide_false]
theorem all_flood_spec (hs : SmN n) : names_all_Flood_Right_1 n.floods n = some (decide (EachP n.floods fun _ x => FloodP n x)) := by
  unfold names_all_Flood_Right_1
  rw [loop_each n.floods (fun _ x => FloodP n x) (.inl ()) (.inr ()) hs.floods (fun i h0 h1 h2 => by
    have := hs.floods
    simp (disch := omega) only [names_all_Flood_Right_1_L1, h1, nth_getI h2, wr64, Right_1_spec, bind_ite, Option.bind_some, dif1, dif2, dif3, dif4, dif5, dif6, dif7, dnot, ibeq, ibne, decide_eq_true_eq, if_not2, ge_iff_le, gt_iff_lt, fst_ret, Bool.false_eq_true, decide_false, decide_true, if_true]; split <;> rfl) (by simp [names_all_Flood_Right_1_L1])]
  simp only [bind_ite, Option.bind_some, dif1, dif2, dif3, dif4, dif5, dif6, dif7, dnot, ibeq, ibne, decide_eq_true_eq, if_not2, ge_iff_le, gt_iff_lt, fst_ret, Bool.false_eq_true, decide_false]
theorem all_vrf_spec (hs : SmN n) : names_all_Vrf_Right_2 n.vrfs n = some (decide (EachP n.vrfs fun _ x => VrfP n x)) := by
  unfold names_all_Vrf_Right_2
  rw [loop_each n.vrfs (fun _ x => VrfP n x) (.inl ()) (.inr ()) hs.vrfs (fun i h0 h1 h2 => by
    have := hs.vrfs
    simp (disch := omega) only [names_all_Vrf_Right_2_L1, h1, nth_getI h2, wr64, Right_2_spec (hs.imports _ (getI_mem h2)) (hs.exports _ (getI_mem h2)), bind_ite, Option.bind_some, dif1, dif2, dif3, dif4, dif5, dif6, dif7, dnot, ibeq, ibne, decide_eq_true_eq, if_not2, ge_iff_le, gt_iff_lt, fst_ret, Bool.false_eq_true, decide_false, decide_true, if_true]; split <;> rfl) (by simp [names_all_Vrf_Right_2_L1])]
  simp only [bind_ite, Option.bind_some, dif1, dif2, dif3, dif4, dif5, dif6, dif7, dnot, ibeq, ibne, decide_eq_true_eq, if_not2, ge_iff_le, gt_iff_lt, fst_ret, Bool.false_eq_true, decide_false]
theorem all_irb_spec (hs : SmN n) : names_all_Irb_judge_irb n.irbs ⟨n⟩ = some (decide (EachP n.irbs (IrbP n))) := by
  unfold names_all_Irb_judge_irb
  rw [loop_each n.irbs (IrbP n) (.inl ()) (.inr ()) hs.irbs (fun i h0 h1 h2 => by
    have := hs.irbs
    simp (disch := omega) only [names_all_Irb_judge_irb_L1, h1, nth_getI h2, wr64, judge_irb_spec (n := n), bind_ite, Option.bind_some, dif1, dif2, dif3, dif4, dif5, dif6, dif7, dnot, ibeq, ibne, decide_eq_true_eq, if_not2, ge_iff_le, gt_iff_lt, fst_ret, Bool.false_eq_true, decide_false, decide_true, if_true]; split <;> rfl) (by simp [names_all_Irb_judge_irb_L1])]
  simp only [bind_ite, Option.bind_some, dif1, dif2, dif3, dif4, dif5, dif6, dif7, dnot, ibeq, ibne, decide_eq_true_eq, if_not2, ge_iff_le, gt_iff_lt, fst_ret, Bool.false_eq_true, decide_false]

theorem names_Right_spec (hs : SmN n) : names_Right n = some (decide (RightP n)) := by
  by_cases hb : EachP n.domains (BareP n)
  · simp only [names_Right, judge_few_spec, all_bare_spec hs, all_peers_spec hs hb, all_port_spec hs, all_link_spec hs, all_static_spec hs, all_flood_spec hs, all_vrf_spec hs, all_irb_spec hs, bind_ite, Option.bind_some, dif1, dif2, dif3, dif4, dif5, dif6, dif7, dnot, ibeq, ibne, decide_eq_true_eq, if_not2, ge_iff_le, gt_iff_lt, fst_ret, Bool.false_eq_true, decide_false]
    exact sdec rightP_iff.symm
  · have : ¬ RightP n := fun h => hb h.bare
    simp only [names_Right, judge_few_spec, all_bare_spec hs, hb, this, bind_ite, Option.bind_some, dif1, dif2, dif3, dif4, dif5, dif6, dif7, dnot, ibeq, ibne, decide_eq_true_eq, if_not2, ge_iff_le, gt_iff_lt, fst_ret, Bool.false_eq_true, decide_false, decide_false, if_false, Bool.false_eq_true]
    simp

/-- What is too long to be asked of. -/
structure BndN (n : Api_Net) (a b : Nat) : Prop where
  devices : n.devices.length ≤ a
  ports : n.ports.length ≤ a
  links : n.links.length ≤ a
  domains : n.domains.length ≤ a
  statics : n.statics.length ≤ a
  floods : n.floods.length ≤ a
  vrfs : n.vrfs.length ≤ a
  irbs : n.irbs.length ≤ a
  tagged : ∀ p ∈ n.ports, p.tagged.length ≤ b
  peers : ∀ d ∈ n.domains, d.peers.length ≤ b
  addrs : ∀ f ∈ n.floods, f.addrs.length ≤ b
  imports : ∀ v ∈ n.vrfs, v.imports.length ≤ b
  exports : ∀ v ∈ n.vrfs, v.exports.length ≤ b
theorem BndN.sm {a b : Nat} (h : BndN n a b) (ha : a ≤ 1000000 := by decide) (hb : b ≤ 1000000 := by decide) : SmN n :=
  ⟨few_of h.devices ha, few_of h.ports ha, few_of h.links ha, few_of h.domains ha, few_of h.statics ha, few_of h.floods ha, few_of h.vrfs ha, few_of h.irbs ha,
    fun p q => few_of (h.tagged p q) hb, fun p q => few_of (h.peers p q) hb, fun p q => few_of (h.addrs p q) hb, fun p q => few_of (h.imports p q) hb, fun p q => few_of (h.exports p q) hb⟩
theorem Great_spec : palinglaw15_Great n = some (decide (¬ BndN n 200 100)) := by
  unfold palinglaw15_Great
  simp only [bind_ite, Option.bind_some, dif1, dif2, dif3, dif4, dif5, dif6, dif7, dnot, ibeq, ibne, decide_eq_true_eq, if_not2, ge_iff_le, gt_iff_lt, fst_ret, Bool.false_eq_true, decide_false]
  by_cases h1 : (200 : Int) < n.devices.length
  · have : ¬ BndN n 200 100 := fun h => by have := h.devices; omega
    simp [h1, this]
  by_cases h2 : (200 : Int) < n.ports.length
  · have : ¬ BndN n 200 100 := fun h => by have := h.ports; omega
    simp [h1, h2, this]
  by_cases h3 : (200 : Int) < n.links.length
  · have : ¬ BndN n 200 100 := fun h => by have := h.links; omega
    simp [h1, h2, h3, this]
  by_cases h4 : (200 : Int) < n.domains.length
  · have : ¬ BndN n 200 100 := fun h => by have := h.domains; omega
    simp [h1, h2, h3, h4, this]
  by_cases h5 : (200 : Int) < n.statics.length
  · have : ¬ BndN n 200 100 := fun h => by have := h.statics; omega
    simp [h1, h2, h3, h4, h5, this]
  by_cases h6 : (200 : Int) < n.floods.length
  · have : ¬ BndN n 200 100 := fun h => by have := h.floods; omega
    simp [h1, h2, h3, h4, h5, h6, this]
  by_cases h7 : (200 : Int) < n.vrfs.length
  · have : ¬ BndN n 200 100 := fun h => by have := h.vrfs; omega
    simp [h1, h2, h3, h4, h5, h6, h7, this]
  by_cases h8 : (200 : Int) < n.irbs.length
  · have : ¬ BndN n 200 100 := fun h => by have := h.irbs; omega
    simp [h1, h2, h3, h4, h5, h6, h7, h8, this]
  simp only [h1, h2, h3, h4, h5, h6, h7, h8, if_false]
  rw [loop_each n.ports (fun _ p => ¬ 100 < (p.tagged.length : Int)) (.inl ()) (.inr ()) (by omega) (fun i g0 g1 g2 => by
    simp (disch := omega) only [palinglaw15_Great_L1, g1, nth_getI g2, wr64, bind_ite, Option.bind_some, dif1, dif2, dif3, dif4, dif5, dif6, dif7, dnot, ibeq, ibne, decide_eq_true_eq, if_not2, ge_iff_le, gt_iff_lt, fst_ret, Bool.false_eq_true, decide_false, decide_true, if_true]; split <;> rfl) (by simp [palinglaw15_Great_L1]),
   loop_each n.domains (fun _ p => ¬ 100 < (p.peers.length : Int)) (.inl ()) (.inr ()) (by omega) (fun i g0 g1 g2 => by
    simp (disch := omega) only [palinglaw15_Great_L2, g1, nth_getI g2, wr64, bind_ite, Option.bind_some, dif1, dif2, dif3, dif4, dif5, dif6, dif7, dnot, ibeq, ibne, decide_eq_true_eq, if_not2, ge_iff_le, gt_iff_lt, fst_ret, Bool.false_eq_true, decide_false, decide_true, if_true]; split <;> rfl) (by simp [palinglaw15_Great_L2]),
   loop_each n.floods (fun _ p => ¬ 100 < (p.addrs.length : Int)) (.inl ()) (.inr ()) (by omega) (fun i g0 g1 g2 => by
    simp (disch := omega) only [palinglaw15_Great_L3, g1, nth_getI g2, wr64, bind_ite, Option.bind_some, dif1, dif2, dif3, dif4, dif5, dif6, dif7, dnot, ibeq, ibne, decide_eq_true_eq, if_not2, ge_iff_le, gt_iff_lt, fst_ret, Bool.false_eq_true, decide_false, decide_true, if_true]; split <;> rfl) (by simp [palinglaw15_Great_L3]),
   loop_each n.vrfs (fun _ p => ¬ 100 < (p.imports.length : Int) ∧ ¬ 100 < (p.exports.length : Int)) (.inl ()) (.inr ()) (by omega) (fun i g0 g1 g2 => by
    simp (disch := omega) only [palinglaw15_Great_L4, g1, nth_getI g2, wr64, bind_ite, Option.bind_some, dif1, dif2, dif3, dif4, dif5, dif6, dif7, dnot, ibeq, ibne, decide_eq_true_eq, if_not2, ge_iff_le, gt_iff_lt, fst_ret, Bool.false_eq_true, decide_false, decide_true, if_true]; grind) (by simp [palinglaw15_Great_L4])]
  simp only [bind_ite, Option.bind_some, dif1, dif2, dif3, dif4, dif5, dif6, dif7, dnot, ibeq, ibne, decide_eq_true_eq, if_not2, ge_iff_le, gt_iff_lt, fst_ret, Bool.false_eq_true, decide_false, eachP_mem]
  refine sdec ?_
  constructor
  · intro h hb
    have := hb.tagged; have := hb.peers; have := hb.addrs; have := hb.imports; have := hb.exports
    grind
  · intro h
    apply Classical.byContradiction
    intro hn
    refine h ⟨by omega, by omega, by omega, by omega, by omega, by omega, by omega, by omega, ?_, ?_, ?_, ?_, ?_⟩ <;> grind
end

end Go.Eng
