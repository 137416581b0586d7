/- Chapter 18 (domains): with a static entry a net may be: DomainsKeeps. -/
import Derived.Test.YtngflgclljfmjaaGreatEngGP1
set_option linter.unusedVariables false
set_option linter.unusedSectionVars false
set_option linter.unusedSimpArgs false
namespace Go.Eng
open Go Classical
attribute [local congr] ite_cg
section
variable {n : Api_Net} {l : Api_Line}
theorem same_none18 : names_Same ⟨[], [], [], [], [], [], [], []⟩ ⟨[], [], [], [], [], [], [], []⟩ = some true := by kernel_rfl
theorem stmt_R4 {l : Api_Line} (hk : l.kind = 4) (hd : l.dev.size ≤ 1000000) (hp : l.port.size ≤ 1000000) : ∃ b, stmt_Right l = some b ∧ (b = true → True ∧ NameP l.dev) := by
  have : ∃ u ok, UsedP l u ok True := by
    obtain ⟨bs, hst⟩ := station_tot (m := l.mac)
    refine ⟨⟨l.row, l.kind, l.dev, l.port, ⟨#[]⟩, ⟨#[]⟩, ⟨#[]⟩, l.mac, 0, 0, l.vlan, 0, 0, [], [], [], []⟩, decide (1 ≤ l.vlan ∧ l.vlan ≤ 4094) && bs && decide (NameP l.port), by
      unfold stmt_used
      rw [if_neg (kne hk rfl), if_neg (kne hk rfl), if_neg (kne hk rfl), if_pos (keq hk)]
      simp only [within_spec, hst, num_Name_spec hp, Option.bind_some]
      by_cases c1 : 1 ≤ l.vlan ∧ l.vlan ≤ 4094
      case neg => simp only [c1, decide_false, Bool.false_eq_true, if_false, Bool.false_and]
      cases bs
      · simp only [c1, and_self, decide_true, if_true, Bool.true_and, Bool.false_eq_true, if_false, Bool.false_and]
      · simp only [c1, and_self, decide_true, if_true, Bool.true_and], few0, few0, few0, few0, fun h => trivial⟩
  obtain ⟨u, ok, h⟩ := this
  exact right_of h hd
structure StatOk (n : Api_Net) (l : Api_Line) (d p : Int) : Prop where
  right : RightP n
  ed : d = domIx n.domains (devI n l.dev) l.vlan
  ep : p = portI n (devI n l.dev) l.port
  id : inL n.domains d
  ip : inL n.ports p
  mem : MemP (getI n.ports p) l.vlan
  free : statI n d l.mac < 0
  few : n.statics.length < 64
theorem domains_Static_J2_spec (hs : SmN n) {p d : Int} (hp : inL n.ports p) : domains_Static_J2 n l p d = some (decide (d < 0 ∨ ¬ MemP (getI n.ports p) l.vlan)) := by
  unfold domains_Static_J2
  by_cases c : d < 0
  · rw [if_pos (decide_eq_true c)]; simp [c]
  · rw [if_neg (by simpa using c), nth_getI hp, Option.bind_some, Member_spec (hs.tagged _ (getI_mem hp)), Option.bind_some]
    by_cases m : MemP (getI n.ports p) l.vlan <;> simp [c, m]
theorem domains_Static_spec (hs : SmN n) (hd : l.dev.size ≤ 1000000) (hp : l.port.size ≤ 1000000) :
    (∃ e : Int, e ≠ 0 ∧ domains_Static n l = some ([], [], [], [], [], [], [], [], 0, 0, 0, 0, e)) ∨
    ∃ d p, StatOk n l d p ∧ domains_Static n l = some (n.devices, n.ports, n.links, n.domains, n.statics ++ [⟨l.row, d, p, l.mac⟩], n.floods, n.vrfs, n.irbs, n.ports.length, n.domains.length, n.floods.length, n.vrfs.length, 0) := by
  unfold domains_Static
  by_cases hk : l.kind = 4
  case neg => exact .inl ⟨2, by decide, by rw [if_pos (by simpa using hk)]⟩
  obtain ⟨bb, hb, _⟩ := stmt_R4 hk hd hp
  rw [if_neg (by simpa using hk), hb, Option.bind_some]
  cases bb with
  | false => exact .inl ⟨2, by decide, rfl⟩
  | true =>
  rw [if_neg (by simp), names_Right_spec hs, Option.bind_some]
  by_cases hr : RightP n
  case neg => exact .inl ⟨2, by decide, by rw [if_pos (by simpa using hr)]⟩
  rw [if_neg (by simpa using hr)]
  simp only [names_Device_spec hs, names_Port_spec hs, names_Domain_spec hs, if_pos hr, Option.bind_some]
  have hJ : domains_Static_J1 n l (devI n l.dev) (portI n (devI n l.dev) l.port) (domIx n.domains (devI n l.dev) l.vlan) = some (decide (devI n l.dev < 0 ∨ portI n (devI n l.dev) l.port < 0)) := by
    unfold domains_Static_J1
    by_cases c : devI n l.dev < 0
    · rw [if_pos (decide_eq_true c)]; simp [c]
    · rw [if_neg (by simpa using c)]; simp [c]
  rw [hJ, Option.bind_some]
  by_cases c1 : devI n l.dev < 0 ∨ portI n (devI n l.dev) l.port < 0
  · exact .inl ⟨31, by decide, by simp only [c1, decide_true, if_true]⟩
  have hip := (portI_in (n := n) (d := devI n l.dev) (s := l.port) (by omega)).1
  simp only [c1, decide_false, Bool.false_eq_true, if_false]
  rw [domains_Static_J2_spec hs hip, Option.bind_some]
  by_cases c2 : domIx n.domains (devI n l.dev) l.vlan < 0 ∨ ¬ MemP (getI n.ports (portI n (devI n l.dev) l.port)) l.vlan
  · exact .inl ⟨32, by decide, by simp only [c2, decide_true, if_true]⟩
  simp only [c2, decide_false, Bool.false_eq_true, if_false]
  rw [domains_entry_spec hs, Option.bind_some]
  by_cases c3 : 0 ≤ statI n (domIx n.domains (devI n l.dev) l.vlan) l.mac
  · exact .inl ⟨30, by decide, by rw [if_pos (decide_eq_true c3)]⟩
  rw [if_neg (by simpa using c3)]
  by_cases c4 : (n.statics.length : Int) = 64
  · exact .inl ⟨3, by decide, by rw [if_pos (by simpa using c4)]⟩
  have hfew := hr.few.2.2.2.2.1
  rw [if_neg (by simpa using c4), names_Copy_spec hs]
  have hid : inL n.domains (domIx n.domains (devI n l.dev) l.vlan) := fstI_inL.1 (show 0 ≤ domIx n.domains (devI n l.dev) l.vlan by omega)
  refine .inr ⟨_, _, ⟨hr, rfl, rfl, hid, hip, Classical.byContradiction fun h => c2 (.inr h), by omega, by omega⟩, ?_⟩
  simp only [Option.bind_some]
  rw [if_pos (roomy_few (by simp only [List.length_append, List.length_singleton]; omega))]
noncomputable def putS (n : Api_Net) (l : Api_Line) (d p : Int) : Api_Net := { n with statics := n.statics ++ [⟨l.row, d, p, l.mac⟩] }
theorem putS_right {d p : Int} (h : StatOk n l d p) : RightP (putS n l d p) := by
  refine right_static h.right ⟨h.id, h.ip, ?_, ?_⟩ h.few
  · have h1 := fstI_is (l := n.domains) (P := fun x => x.dev = devI n l.dev ∧ x.vlan = l.vlan) (by have := h.id.1; rw [h.ed] at this; exact this)
    have h2 := (portI_in (n := n) (d := devI n l.dev) (s := l.port) (by have := h.ip.1; rw [h.ep] at this; exact this)).2.1
    have e1 : (getI n.domains d).dev = devI n l.dev := by rw [h.ed]; exact h1.1
    have e2 : (getI n.ports p).dev = devI n l.dev := by rw [h.ep]; exact h2
    show (getI n.ports p).dev = (getI n.domains d).dev
    rw [e1, e2]
  · have h1 := fstI_is (l := n.domains) (P := fun x => x.dev = devI n l.dev ∧ x.vlan = l.vlan) (by have := h.id.1; rw [h.ed] at this; exact this)
    have e1 : (getI n.domains d).vlan = l.vlan := by rw [h.ed]; exact h1.2
    show MemP (getI n.ports p) (getI n.domains d).vlan
    rw [e1]; exact h.mem
theorem putS_sm {d p : Int} (h : StatOk n l d p) (hs : SmN n) : SmN (putS n l d p) := by
  have hff := h.few
  exact ⟨hs.devices, hs.ports, hs.links, hs.domains, by unfold Few; simp [putS]; omega, hs.floods, hs.vrfs, hs.irbs, hs.tagged, hs.peers, hs.addrs, hs.imports, hs.exports⟩
theorem works18 : palinglaw18_works = some true := by kernel_rfl
theorem domainsKeeps (n : Api_Net) (l : Api_Line) (_ : n.Ok) (_ : l.Ok) : palinglaw18_DomainsKeeps n l = some true := by
  unfold palinglaw18_DomainsKeeps
  rw [works18, Option.bind_some, if_neg (by simp), Great_spec, Option.bind_some]
  by_cases hg : BndN n 200 100
  case neg => rw [if_pos (by simpa using hg)]
  rw [if_neg (by simpa using hg)]
  have hs := hg.sm
  by_cases c1 : (l.dev.size : Int) > 300
  · rw [if_pos (decide_eq_true c1)]
  rw [if_neg (by simpa using c1)]
  by_cases c2 : (l.port.size : Int) > 300
  · rw [if_pos (decide_eq_true c2)]
  rw [if_neg (by simpa using c2)]
  rcases domains_Static_spec hs (l := l) (by omega) (by omega) with ⟨e, he, h⟩ | ⟨d, p, h, hadd⟩
  · rw [h]
    simp only [Option.bind_some]
    rw [if_pos (by simpa using he), same_none18]; rfl
  rw [hadd]
  have hr := h.right
  have hr' := putS_right h
  have hs' := putS_sm h hs
  have hm : (⟨n.devices, n.ports, n.links, n.domains, n.statics ++ [(⟨l.row, d, p, l.mac⟩ : Api_Static)], n.floods, n.vrfs, n.irbs⟩ : Api_Net) = putS n l d p := rfl
  simp only [Option.bind_some]
  rw [if_neg (by simp), hm]
  have hdevI : devI (putS n l d p) l.dev = devI n l.dev := rfl
  have hdom : domIx (putS n l d p).domains (devI n l.dev) l.vlan = d := h.ed.symm
  have hst : statI (putS n l d p) d l.mac = n.statics.length := by
    show fstI (n.statics ++ [⟨l.row, d, p, l.mac⟩]) (fun s => s.domain = d ∧ s.mac = l.mac) = _
    have hfr : fstI n.statics (fun s => s.domain = d ∧ s.mac = l.mac) < 0 := h.free
    rw [fstI_app, if_neg (by omega), if_pos ⟨rfl, rfl⟩]
  have hlook : statP (putS n l d p) d l.mac = p := by
    unfold statP
    rw [hst, if_pos (by omega)]
    show (getI (n.statics ++ [(⟨l.row, d, p, l.mac⟩ : Api_Static)]) (n.statics.length : Int)).port = p
    rw [getI_last]
  have hip := h.ip
  have ip1 := hip.1
  have ip2 := hip.2
  have hsl := hs.statics
  have hw := wr64 (n := (n.statics.length : Int) + 1) (by omega) (by unfold Few at hsl; omega)
  have hsk : slok (n.statics ++ [(⟨l.row, d, p, l.mac⟩ : Api_Static)]).length 0 (n.statics.length : Int) = true := by rw [slok_dec]; exact decide_eq_true ⟨by omega, by omega, by simp; omega⟩
  have hnm : (getI n.ports p).name = l.port := by
    have := (portI_in (n := n) (d := devI n l.dev) (s := l.port) (by have := h.ip.1; rw [h.ep] at this; exact this)).2.2
    rw [h.ep]; exact this
  have l1 : lin n.ports p = true := by rw [lin_dec]; exact decide_eq_true hip
  simp only [names_Device_spec hs', names_Domain_spec hs', names_Right_spec hs', if_pos hr', hdevI, hdom, Option.bind_some, domains_Lookup_spec hs' hr', hlook, rCopy_spec hs', hw, decide_true, Bool.not_true]
  rw [if_neg (by simp [hr']), if_neg (by simp; omega), if_neg (by simp; omega), if_neg (by simp), if_pos hsk, if_pos l1, getI_get? hip, Option.bind_some, seqB_dec, if_pos (decide_eq_true hnm), Option.bind_some, Member_spec (hs.tagged _ (getI_mem hip)), Option.bind_some, if_pos (decide_eq_true h.mem)]
  have hst2 : List.drop (Int.toNat 0) (List.take (Int.toNat (n.statics.length : Int)) (n.statics ++ [(⟨l.row, d, p, l.mac⟩ : Api_Static)])) = n.statics := take_app1
  rw [hst2]
  show (names_Same n n).bind (fun r29 => some r29) = some true
  rw [names_Same_spec hs]
  simp
end
end Go.Eng
