/- Chapter 18 (domains): with a static entry a net may be: DomainsKeeps. -/
import Derived.Test.YtngflgclljfmjaaGreatEngGR15
import Derived.Test.YtngflgclljfmjaaGreatEngGP1
import Derived.Test.YtngflgclljfmjaaGreatEngGF1
import Derived.Test.YtngflgclljfmjaaGreatEngL7s
set_option linter.unusedVariables false
set_option linter.unusedSectionVars false
set_option linter.unusedSimpArgs false
namespace Go.Eng
open Go Classical
attribute [local congr] ite_cg
section
variable {n : Api_Net} {l : Api_Line}
theorem stmt_R4 {l : Api_Line} (hk : l.kind = 4) (hd : l.dev.size ≤ 1000000) (hp : l.port.size ≤ 1000000) : ∃ b, stmt_Right l = some b ∧ (b = true → True ∧ NameP l.dev) := by
  have : ∃ u ok, UsedP l u ok True := by
    obtain ⟨bs, hst⟩ := station_tot (m := l.mac)
    refine ⟨⟨l.row, l.kind, l.dev, l.port, ⟨#[]⟩, ⟨#[]⟩, ⟨#[]⟩, l.mac, 0, 0, l.vlan, 0, 0, [], [], [], []⟩, decide (1 ≤ l.vlan ∧ l.vlan ≤ 4094) && bs && decide (NameP l.port), by
      unfold stmt_used
      rw [if_neg (kne hk rfl), if_neg (kne hk rfl), if_neg (kne hk rfl), if_pos (keq hk)]
      simp only [within_spec, hst, num_Name_spec hp, Option.bind_some]
      by_cases c1 : 1 ≤ l.vlan ∧ l.vlan ≤ 4094
      case neg => simp only [c1, decide_false, Bool.false_eq_true, if_false, Bool.false_and]
      cases bs
      · simp only [c1, and_self, decide_true, if_true, Bool.true_and, Bool.false_eq_true, if_false, Bool.false_and]
      · simp only [c1, and_self, decide_true, if_true, Bool.true_and], few0, few0, few0, few0, fun h => trivial⟩
  obtain ⟨u, ok, h⟩ := this
  exact right_of h hd
structure StatOk (n : Api_Net) (l : Api_Line) (d p : Int) : Prop where
  right : RightP n
  ed : d = domIx n.domains (devI n l.dev) l.vlan
  ep : p = portI n (devI n l.dev) l.port
  id : inL n.domains d
  ip : inL n.ports p
  mem : MemP (getI n.ports p) l.vlan
  free : statI n d l.mac < 0
  few : n.statics.length < 64
theorem domains_Static_J2_spec (hs : SmN n) {p d : Int} (hp : inL n.ports p) : domains_Static_J2 n l p d = some (decide (d < 0 ∨ ¬ MemP (getI n.ports p) l.vlan)) := by
  unfold domains_Static_J2
  by_cases c : d < 0
  · rw [if_pos (decide_eq_true c)]; simp [c]
  · rw [if_neg (by simpa using c), nth_getI hp, Option.bind_some, Member_spec (hs.tagged _ (getI_mem hp)), Option.bind_some]
    by_cases m : MemP (getI n.ports p) l.vlan <;> simp [c, m]
theorem domains_Static_spec (hs : SmN n) (hd : l.dev.size ≤ 1000000) (hp : l.port.size ≤ 1000000) :
    (∃ e : Int, e ≠ 0 ∧ domains_Static n l = some ([], [], [], [], [], [], [], [], 0, 0, 0, 0, e)) ∨
    ∃ d p, StatOk n l d p ∧ domains_Static n l = some (n.devices, n.ports, n.links, n.domains, n.statics ++ [⟨l.row, d, p, l.mac⟩], n.floods, n.vrfs, n.irbs, n.ports.length, n.domains.length, n.floods.length, n.vrfs.length, 0) := by
  unfold domains_Static
  by_cases hk : l.kind = 4
  case neg => exact .inl ⟨2, by decide, by rw [if_pos (by simpa using hk)]⟩
  obtain ⟨bb, hb, _⟩ := stmt_R4 hk hd hp
  rw [if_neg (by simpa using hk), hb, Option.bind_some]
  cases bb with
  | false => exact .inl ⟨2, by decide, rfl⟩
  | true =>
  rw [if_neg (by simp), names_Right_spec hs, Option.bind_some]
  by_cases hr : RightP n
  case neg => exact .inl ⟨2, by decide, by rw [if_pos (by simpa using hr)]⟩
  rw [if_neg (by simpa using hr)]
  simp only [names_Device_spec hs, names_Port_spec hs, names_Domain_spec hs, if_pos hr, Option.bind_some]
  have hJ : domains_Static_J1 n l (devI n l.dev) (portI n (devI n l.dev) l.port) (domIx n.domains (devI n l.dev) l.vlan) = some (decide (devI n l.dev < 0 ∨ portI n (devI n l.dev) l.port < 0)) := by
    unfold domains_Static_J1
    by_cases c : devI n l.dev < 0
    · rw [if_pos (decide_eq_true c)]; simp [c]
    · rw [if_neg (by simpa using c)]; simp [c]
  rw [hJ, Option.bind_some]
  by_cases c1 : devI n l.dev < 0 ∨ portI n (devI n l.dev) l.port < 0
  · exact .inl ⟨31, by decide, by simp only [c1, decide_true, if_true]⟩
  have hip := (portI_in (n := n) (d := devI n l.dev) (s := l.port) (by omega)).1
  simp only [c1, decide_false, Bool.false_eq_true, if_false]
  rw [domains_Static_J2_spec hs hip, Option.bind_some]
  by_cases c2 : domIx n.domains (devI n l.dev) l.vlan < 0 ∨ ¬ MemP (getI n.ports (portI n (devI n l.dev) l.port)) l.vlan
  · exact .inl ⟨32, by decide, by simp only [c2, decide_true, if_true]⟩
  simp only [c2, decide_false, Bool.false_eq_true, if_false]
  rw [domains_entry_spec hs, Option.bind_some]
  by_cases c3 : 0 ≤ statI n (domIx n.domains (devI n l.dev) l.vlan) l.mac
  · exact .inl ⟨30, by decide, by rw [if_pos (decide_eq_true c3)]⟩
  rw [if_neg (by simpa using c3)]
  by_cases c4 : (n.statics.length : Int) = 64
  · exact .inl ⟨3, by decide, by rw [if_pos (by simpa using c4)]⟩
  have hfew := hr.few.2.2.2.2.1
  rw [if_neg (by simpa using c4), names_Copy_spec hs]
  have hid : inL n.domains (domIx n.domains (devI n l.dev) l.vlan) := fstI_inL.1 (show 0 ≤ domIx n.domains (devI n l.dev) l.vlan by omega)
  refine .inr ⟨_, _, ⟨hr, rfl, rfl, hid, hip, Classical.byContradiction fun h => c2 (.inr h), by omega, by omega⟩, ?_⟩
  simp only [Option.bind_some]
  rw [if_pos (roomy_few (by simp only [List.length_append, List.length_singleton]; omega))]
noncomputable def putS (n : Api_Net) (l : Api_Line) (d p : Int) : Api_Net := { n with statics := n.statics ++ [⟨l.row, d, p, l.mac⟩] }
theorem putS_sm {d p : Int} (h : StatOk n l d p) (hs : SmN n) : SmN (putS n l d p) := by
  have hff := h.few
  exact ⟨hs.devices, hs.ports, hs.links, hs.domains, by unfold Few; simp [putS]; omega, hs.floods, hs.vrfs, hs.irbs, hs.tagged, hs.peers, hs.addrs, hs.imports, hs.exports⟩
theorem works18 : palinglaw18_works = some true := by kernel_rfl
end
end Go.Eng
