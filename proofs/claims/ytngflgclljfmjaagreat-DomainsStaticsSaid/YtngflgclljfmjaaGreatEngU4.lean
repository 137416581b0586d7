/- Chapter 18 (domains): static entries put on both sides: DomainsStatics. -/
import Derived.Test.YtngflgclljfmjaaGreatEngU3
import Derived.Test.YtngflgclljfmjaaGreatEngGL2
import Derived.Test.YtngflgclljfmjaaGreatEngGR15
set_option linter.unusedVariables false
set_option linter.unusedSectionVars false
set_option linter.unusedSimpArgs false
namespace Go.Eng
open Go Classical
attribute [local congr] ite_cg
section
variable {n : Api_Net} {l : Api_Line}
abbrev StT := (List Api_Device) × (List Api_Port) × (List Api_Link) × (List Api_Domain) × (List Api_Static) × (List Api_Flood) × (List Api_Vrf) × (List Api_Irb) × Nat × Nat × Nat × Nat × Int
def badS4 (e : Int) : StT := ([], [], [], [], [], [], [], [], 0, 0, 0, 0, e)
noncomputable def stR (n : Api_Net) (l : Api_Line) : StT :=
  if ¬ (l.kind = 4 ∧ LineP4 l ∧ RightP n) then badS4 2
  else if devI n l.dev < 0 ∨ portI n (devI n l.dev) l.port < 0 then badS4 31
  else if domIx n.domains (devI n l.dev) l.vlan < 0 ∨ ¬ MemP (getI n.ports (portI n (devI n l.dev) l.port)) l.vlan then badS4 32
  else if 0 ≤ statI n (domIx n.domains (devI n l.dev) l.vlan) l.mac then badS4 30
  else if (n.statics.length : Int) = 64 then badS4 3
  else (n.devices, n.ports, n.links, n.domains, n.statics ++ [⟨l.row, domIx n.domains (devI n l.dev) l.vlan, portI n (devI n l.dev) l.port, l.mac⟩], n.floods, n.vrfs, n.irbs, n.ports.length, n.domains.length, n.floods.length, n.vrfs.length, 0)
theorem static_is (hs : SmN n) (hR : stmt_Right l = some (decide (LineP4 l)) ∨ l.kind ≠ 4) : domains_Static n l = some (stR n l) := by
  unfold domains_Static stR
  by_cases hk : l.kind = 4
  case neg => rw [if_pos (by simpa using hk), if_pos (fun h => hk h.1)]; rfl
  have hR := hR.resolve_right (fun h => h hk)
  rw [if_neg (by simpa using hk), hR, Option.bind_some]
  by_cases hL : LineP4 l
  case neg => rw [if_pos (by simpa using hL), if_pos (fun h => hL h.2.1)]; rfl
  rw [if_neg (by simpa using hL), names_Right_spec hs, Option.bind_some]
  by_cases hr : RightP n
  case neg => rw [if_pos (by simpa using hr), if_pos (fun h => hr h.2.2)]; rfl
  rw [if_neg (by simpa using hr), if_neg (fun h => h ⟨hk, hL, hr⟩)]
  simp only [names_Device_spec hs, names_Port_spec hs, names_Domain_spec hs, if_pos hr, Option.bind_some]
  have hJ : domains_Static_J1 n l (devI n l.dev) (portI n (devI n l.dev) l.port) (domIx n.domains (devI n l.dev) l.vlan) = some (decide (devI n l.dev < 0 ∨ portI n (devI n l.dev) l.port < 0)) := by
    unfold domains_Static_J1
    by_cases c : devI n l.dev < 0
    · rw [if_pos (decide_eq_true c)]; simp [c]
    · rw [if_neg (by simpa using c)]; simp [c]
  rw [hJ, Option.bind_some]
  by_cases c1 : devI n l.dev < 0 ∨ portI n (devI n l.dev) l.port < 0
  · simp only [c1, decide_true, if_true]; rfl
  have hip := (portI_in (n := n) (d := devI n l.dev) (s := l.port) (by omega)).1
  simp only [c1, decide_false, Bool.false_eq_true, if_false]
  rw [domains_Static_J2_spec hs hip, Option.bind_some]
  by_cases c2 : domIx n.domains (devI n l.dev) l.vlan < 0 ∨ ¬ MemP (getI n.ports (portI n (devI n l.dev) l.port)) l.vlan
  · simp only [c2, decide_true, if_true]; rfl
  simp only [c2, decide_false, Bool.false_eq_true, if_false]
  rw [domains_entry_spec hs, Option.bind_some]
  by_cases c3 : 0 ≤ statI n (domIx n.domains (devI n l.dev) l.vlan) l.mac
  · rw [if_pos (decide_eq_true c3), if_pos c3]; rfl
  rw [if_neg (by simpa using c3), if_neg c3]
  by_cases c4 : (n.statics.length : Int) = 64
  · rw [if_pos (by simpa using c4), if_pos c4]; rfl
  have hfew := hr.few.2.2.2.2.1
  rw [if_neg (by simpa using c4), if_neg c4, names_Copy_spec hs]
  simp only [Option.bind_some]
  rw [if_pos (roomy_few (by simp only [List.length_append, List.length_singleton]; omega))]
theorem rStatic_is (hs : SmN n) (hR : palingref11_Right l = some (decide (LineP4 l)) ∨ l.kind ≠ 4) : palingref18_Static n l = some (stR n l) := by
  unfold palingref18_Static stR palingref16_Fits
  by_cases hk : l.kind = 4
  case neg => rw [if_neg (by simpa using hk), Option.bind_some, if_pos (by rfl), if_pos (fun h => hk h.1)]; rfl
  have hR := hR.resolve_right (fun h => h hk)
  rw [if_pos (by simpa using hk), hR, Option.bind_some]
  by_cases hL : LineP4 l
  case neg => rw [if_neg (by simpa using hL), Option.bind_some, if_pos (by rfl), if_pos (fun h => hL h.2.1)]; rfl
  rw [if_pos (decide_eq_true hL), rRight_spec hs, Option.bind_some, Option.bind_some]
  by_cases hr : RightP n
  case neg => rw [if_pos (by simpa using hr), if_pos (fun h => hr h.2.2)]; rfl
  rw [if_neg (by simpa using hr), if_neg (fun h => h ⟨hk, hL, hr⟩), rDevice_spec hs, Option.bind_some, rPort_spec hs, Option.bind_some]
  by_cases c1 : devI n l.dev < 0 ∨ portI n (devI n l.dev) l.port < 0
  · rw [if_pos c1]
    by_cases d1 : devI n l.dev < 0
    · rw [if_pos (decide_eq_true d1)]; rfl
    · rw [if_neg (by simpa using d1), if_pos (by simp; omega)]; rfl
  have hip := (portI_in (n := n) (d := devI n l.dev) (s := l.port) (by omega)).1
  rw [if_neg c1, if_neg (by simp; omega), if_neg (by simp; omega), rAt_spec hs.domains, Option.bind_some]
  by_cases c2 : domIx n.domains (devI n l.dev) l.vlan < 0 ∨ ¬ MemP (getI n.ports (portI n (devI n l.dev) l.port)) l.vlan
  · rw [if_pos c2]
    by_cases d1 : domIx n.domains (devI n l.dev) l.vlan < 0
    · rw [if_pos (decide_eq_true d1)]; rfl
    · have d2 := c2.resolve_left d1
      rw [if_neg (by simpa using d1), nth_getI hip, Option.bind_some, rMember_spec (hs.tagged _ (getI_mem hip)), Option.bind_some, if_pos (by simpa using d2)]; rfl
  have d1 : ¬ domIx n.domains (devI n l.dev) l.vlan < 0 := fun h => c2 (.inl h)
  have d2 : MemP (getI n.ports (portI n (devI n l.dev) l.port)) l.vlan := Classical.byContradiction fun h => c2 (.inr h)
  rw [if_neg c2, if_neg (by simpa using d1), nth_getI hip, Option.bind_some, rMember_spec (hs.tagged _ (getI_mem hip)), Option.bind_some, if_neg (by simpa using d2), r18Lookup_spec hs, Option.bind_some]
  by_cases c3 : 0 ≤ statI n (domIx n.domains (devI n l.dev) l.vlan) l.mac
  · have hst := hr.statics _ (statI_in c3)
    have h0 := hst.2.1.1
    have e : statP n (domIx n.domains (devI n l.dev) l.vlan) l.mac = (getI n.statics (statI n (domIx n.domains (devI n l.dev) l.vlan) l.mac)).port := by unfold statP; rw [if_pos c3]
    rw [if_pos c3, e, if_pos (decide_eq_true h0)]; rfl
  have e : statP n (domIx n.domains (devI n l.dev) l.vlan) l.mac = -1 := by unfold statP; rw [if_neg c3]
  rw [if_neg c3, e, if_neg (by decide)]
  have hfew := hr.few.2.2.2.2.1
  by_cases c4 : (n.statics.length : Int) = 64
  · rw [if_pos (by simp; omega), if_pos c4]; rfl
  rw [if_neg (by simp; omega), if_neg c4, rCopy_spec hs]
  simp only [Option.bind_some]
  rw [if_pos (roomy_few (by simp only [List.length_append, List.length_singleton]; omega))]
theorem rsame_none18 : palingref15_Same ⟨[], [], [], [], [], [], [], []⟩ ⟨[], [], [], [], [], [], [], []⟩ = some true := by kernel_rfl
end
theorem domainsStatics (n : Api_Net) (l : Api_Line) (_ : n.Ok) (hl : l.Ok) : palinglaw18_DomainsStatics n l = some true := by
  obtain ⟨b, eb, hb⟩ := great12_spec (l := l)
  simp only [palinglaw18_DomainsStatics, palinglaw16_Great, Great_spec, Option.bind_some, works18]
  by_cases hg : BndN n 200 100
  case neg => simp [hg]
  have hs := hg.sm
  simp only [hg, not_true_eq_false, decide_false, Bool.false_eq_true, if_false, eb, Option.bind_some]
  cases b with
  | true => rfl
  | false =>
    have hz := hb rfl
    have z1 : (l.dev.size : Int) ≤ 300 := hz _ (by simp [sizesL])
    have z2 : (l.port.size : Int) ≤ 300 := hz _ (by simp [sizesL])
    have hl2 := hl
    obtain ⟨o1, o2, o3, o4, o5, o6, o7, o8, o9, o10, o11, o12, _⟩ := hl2
    have hA : stmt_Right l = some (decide (LineP4 l)) ∨ l.kind ≠ 4 := by
      by_cases hk : l.kind = 4
      · exact .inl (sRight4 hl hk (by omega) (by omega) o8)
      · exact .inr hk
    have hB : palingref11_Right l = some (decide (LineP4 l)) ∨ l.kind ≠ 4 := by
      by_cases hk : l.kind = 4
      · exact .inl (rRight4 hl hk (by omega) (by omega) o11 o12 o8)
      · exact .inr hk
    have e1 := static_is hs hA
    have e2 := rStatic_is hs hB
    rw [← e1] at e2
    rw [e2]
    rcases domains_Static_spec hs (l := l) (by omega) (by omega) with ⟨e, _, h⟩ | ⟨d, p, h, h2⟩
    · rw [h]
      simp only [Option.bind_some, rsame_none18]
      simp
    · rw [h2]
      simp only [Option.bind_some]
      have := rSame_spec (putS_sm h hs) (b := putS n l d p)
      rw [show (⟨n.devices, n.ports, n.links, n.domains, n.statics ++ [(⟨l.row, d, p, l.mac⟩ : Api_Static)], n.floods, n.vrfs, n.irbs⟩ : Api_Net) = putS n l d p from rfl, this]
      simp
end Go.Eng
