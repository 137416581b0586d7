/- Plain laws of chapter 20 (vrfs): what was put is there, and all else is as it was. -/
import Derived.Test.YtgemllooojijnaaGreatEngP20
set_option linter.unusedVariables false
set_option linter.unusedSectionVars false
set_option linter.unusedSimpArgs false
namespace Go.Eng
open Go Classical
attribute [local congr] ite_cg
theorem names_Same_none : names_Same ⟨[], [], [], [], [], [], [], []⟩ ⟨[], [], [], [], [], [], [], []⟩ = some true := by kernel_rfl
section
variable {n : Api_Net} {l : Api_Line}
theorem sm_vrf (hs : SmN n) {x : Api_Vrf} (hn : n.vrfs.length ≤ 1000) (h1 : Few x.imports) (h2 : Few x.exports) : SmN { n with vrfs := n.vrfs ++ [x] } :=
  { hs with vrfs := (by unfold Few; simp; omega), imports := (fun d hd => by
      rcases List.mem_append.1 hd with h | h
      · exact hs.imports d h
      · rw [List.mem_singleton] at h; rw [h]; exact h1), exports := (fun d hd => by
      rcases List.mem_append.1 hd with h | h
      · exact hs.exports d h
      · rw [List.mem_singleton] at h; rw [h]; exact h2) }
theorem sm_irb (hs : SmN n) {k : Nat} {x : Api_Domain} {y : Api_Irb} (hx : Few x.peers) (hn : n.irbs.length ≤ 1000) : SmN { n with domains := n.domains.set k x, irbs := n.irbs ++ [y] } :=
  { hs with domains := (by have := hs.domains; unfold Few at *; simpa using this), irbs := (by unfold Few; simp; omega), peers := (fun d hd => by
      rcases List.mem_or_eq_of_mem_set hd with h | h
      · exact hs.peers d h
      · rw [h]; exact hx) }
theorem leaks_self {m : Api_Net} (hs : SmN m) (hr : RightP m) {k : Int} (hk : inL m.vrfs k) : vrfs_Leaks m k k = some true := by
  unfold vrfs_Leaks
  have h0 := hk.1; have h1 := hk.2
  have c1 : ¬ k < 0 := by omega
  have c2 : ¬ k ≥ (m.vrfs.length : Int) := by omega
  simp only [c1, c2, names_Right_spec hs, hr, nth_getI hk, decide_true, decide_false, Bool.false_eq_true, if_false, if_true, Bool.not_true, Option.bind_some, beq_self_eq_true]
theorem vrfsKeeps_J (hg : BndN n 200 100) (hd : l.dev.size ≤ 1000000) (hn : l.name.size ≤ 1000000) (hi : Few l.imports) (he : Few l.exports) {o : Int} : palinglaw20_VrfsKeeps_J1 n l o = some (.inr ()) := by
  have hs := hg.sm
  have hgv := hg.vrfs
  unfold palinglaw20_VrfsKeeps_J1
  rcases vrfs_Vrf_spec hs (l := l) hd hn hi he with ⟨e, hne, h⟩ | ⟨hk, hr, hv, hc, h⟩
  · rw [h]
    simp only [Option.bind_some]
    rw [if_neg (by simpa using hne)]
  rw [h]
  have hsm := sm_vrf hs (x := ⟨l.row, devI n l.dev, l.name, l.imports, l.exports⟩) (by omega) hi he
  have hR := right_vrf hr hv hc
  have hw := wr64 (n := (n.vrfs.length : Int) + 1) (by omega) (by omega)
  have hne : ((((n.vrfs ++ [(⟨l.row, devI n l.dev, l.name, l.imports, l.exports⟩ : Api_Vrf)]).length : Nat) : Int) != (n.vrfs.length : Int) + 1) = false := by simp
  have hsl : slok (n.vrfs ++ [(⟨l.row, devI n l.dev, l.name, l.imports, l.exports⟩ : Api_Vrf)]).length 0 (n.vrfs.length : Int) = true := by rw [slok_dec]; exact decide_eq_true (by simp; omega)
  have hl := leaks_self hsm hR (k := (n.vrfs.length : Int)) (inL_app1.2 (.inr rfl))
  have hsame : names_Same n n = some true := by rw [names_Same_spec hs]; simp
  simp only [Option.bind_some, beq_self_eq_true, if_true]
  rw [rCopy_spec hsm, Option.bind_some]
  simp only [names_Right_spec hsm, hR, hw, hne, hl, hsl, decide_true, Option.bind_some, Bool.not_true, Bool.false_eq_true, if_false, if_true, take_app1]
  show (names_Same n n).bind _ = some _
  rw [hsame]; rfl
theorem vrfsKeeps (n : Api_Net) (l : Api_Line) (other : Int) (hO : n.Ok) (hL : l.Ok) (_ : okI .u64 other) : palinglaw20_VrfsKeeps n l other = some true := by
  simp only [palinglaw20_VrfsKeeps, works20, Great_spec, Option.bind_some, Bool.not_true, Bool.false_eq_true, if_false]
  by_cases hg : BndN n 200 100
  case neg => simp [hg]
  rw [if_neg (by simp [hg])]
  have hs := hg.sm
  by_cases hd : (l.dev.size : Int) > 300
  · rw [if_pos (decide_eq_true hd)]
  rw [if_neg (by simpa using hd)]
  by_cases hn : (l.name.size : Int) > 300
  · rw [if_pos (decide_eq_true hn)]
  rw [if_neg (by simpa using hn)]
  by_cases hi : (l.imports.length : Int) > 100
  · rw [if_pos (decide_eq_true hi)]
  rw [if_neg (by simpa using hi)]
  by_cases he : (l.exports.length : Int) > 100
  · rw [if_pos (decide_eq_true he)]
  rw [if_neg (by simpa using he)]
  rw [vrfsKeeps_J hg (by omega) (by omega) (by unfold Few; omega) (by unfold Few; omega)]
  simp only [Option.bind_some]
  rcases vrfs_Irb_spec hs (l := l) (by omega) (by omega) with ⟨e, hne, h⟩ | ⟨hk, hq, hr, hat, hz, hv, h⟩
  · rw [h]
    simp only [Option.bind_some]
    rw [if_pos (eq0' hne), names_Same_none]
    rfl
  rw [h]
  have hgi := hg.irbs
  have hdm := fstI_is (l := n.domains) (P := fun d => d.dev = devI n l.dev ∧ d.vlan = l.vlan) hat.1
  have hvm := fstI_is (l := n.vrfs) (P := fun v => v.dev = devI n l.dev ∧ v.name = l.name) hv.1
  have hR := right_irb hr hat hz (x := ⟨l.row, domIx n.domains (devI n l.dev) l.vlan, vrfI n (devI n l.dev) l.name, ⟨l.addr, l.bits⟩⟩) rfl hv (hdm.1.trans hvm.1.symm) hq
  have hpe := hs.peers _ (getI_mem hat)
  have hsm := sm_irb hs (k := (domIx n.domains (devI n l.dev) l.vlan).toNat) (x := { getI n.domains (domIx n.domains (devI n l.dev) l.vlan) with irb := (n.irbs.length : Int) }) (y := ⟨l.row, domIx n.domains (devI n l.dev) l.vlan, vrfI n (devI n l.dev) l.name, ⟨l.addr, l.bits⟩⟩) hpe (by omega)
  simp only [Option.bind_some, bne_self_eq_false, Bool.false_eq_true, if_false]
  generalize hmm : ({ devices := n.devices, ports := n.ports, links := n.links, domains := n.domains.set (domIx n.domains (devI n l.dev) l.vlan).toNat { getI n.domains (domIx n.domains (devI n l.dev) l.vlan) with irb := (n.irbs.length : Int) }, statics := n.statics, floods := n.floods, vrfs := n.vrfs, irbs := n.irbs ++ [⟨l.row, domIx n.domains (devI n l.dev) l.vlan, vrfI n (devI n l.dev) l.name, ⟨l.addr, l.bits⟩⟩] } : Api_Net) = m at *
  have hdom : m.domains = n.domains.set (domIx n.domains (devI n l.dev) l.vlan).toNat { getI n.domains (domIx n.domains (devI n l.dev) l.vlan) with irb := (n.irbs.length : Int) } := by rw [← hmm]
  have hirb : m.irbs = n.irbs ++ [⟨l.row, domIx n.domains (devI n l.dev) l.vlan, vrfI n (devI n l.dev) l.name, ⟨l.addr, l.bits⟩⟩] := by rw [← hmm]
  have hdevs : devI m l.dev = devI n l.dev := by rw [← hmm]; rfl
  have hix : domIx m.domains (devI n l.dev) l.vlan = domIx n.domains (devI n l.dev) l.vlan := by
    rw [hdom]
    exact (fstI_congr (by simp) fun i hi => by
      rw [getI_setI hat hi]
      by_cases q : i = domIx n.domains (devI n l.dev) l.vlan
      · rw [if_pos q, q]
      · rw [if_neg q]).symm
  have hat' : inL m.domains (domIx n.domains (devI n l.dev) l.vlan) := by rw [hdom]; exact inL_setI.2 hat
  have hgm : getI m.domains (domIx n.domains (devI n l.dev) l.vlan) = { getI n.domains (domIx n.domains (devI n l.dev) l.vlan) with irb := (n.irbs.length : Int) } := by rw [hdom, getI_setI hat hat, if_pos rfl]
  have hii : inL m.irbs (n.irbs.length : Int) := by rw [hirb]; exact inL_app1.2 (.inr rfl)
  have hgi2 : getI m.irbs (n.irbs.length : Int) = ⟨l.row, domIx n.domains (devI n l.dev) l.vlan, vrfI n (devI n l.dev) l.name, ⟨l.addr, l.bits⟩⟩ := by rw [hirb, getI_last]
  have ha : okI .u32 l.addr := hL.2.2.2.2.2.2.2.2.1
  have ha0 : 0 ≤ l.addr := ha.1
  have ha1 : l.addr ≤ 4294967295 := ha.2
  have hro : ∀ x, vrfs_Router m (domIx n.domains (devI n l.dev) l.vlan) x = some (if 2199023255552 + l.addr = x then ((n.irbs.length : Int), true) else (0, false)) := fun x => by
    unfold vrfs_Router
    have c1 : ¬ domIx n.domains (devI n l.dev) l.vlan < 0 := by have := hat.1; omega
    have c2 : ¬ domIx n.domains (devI n l.dev) l.vlan ≥ (m.domains.length : Int) := by have := hat'.2; omega
    have c3 : ¬ (n.irbs.length : Int) < 0 := by omega
    simp only [c1, c2, c3, names_Right_spec hsm, hR, nth_getI hat', hgm, nth_getI hii, hgi2, mac_Host_spec ha0 (by omega : l.addr < 4294967296), decide_true, decide_false, Bool.not_true, Bool.false_eq_true, if_false, Option.bind_some]
    by_cases c4 : 2199023255552 + l.addr = x
    · rw [if_neg (by simpa using c4), if_pos c4]
    · rw [if_pos (by simpa using c4), if_neg c4]
  have hne : (((m.irbs.length : Nat) : Int) != (n.irbs.length : Int) + 1) = false := by rw [hirb]; simp
  have hw := wr64 (n := (n.irbs.length : Int) + 1) (by omega) (by omega)
  have c1 : ¬ domIx n.domains (devI n l.dev) l.vlan < 0 := by have := hat.1; omega
  have c2 : ¬ domIx n.domains (devI n l.dev) l.vlan ≥ (n.domains.length : Int) := by have := hat.2; omega
  have hsl : slok m.irbs.length 0 (n.irbs.length : Int) = true := by rw [slok_dec, hirb]; exact decide_eq_true (by simp; omega)
  have hoth : ((if 2199023255552 + l.addr = other then ((n.irbs.length : Int), true) else (0, false)).2 == (other == 2199023255552 + l.addr)) = true := by
    by_cases c : 2199023255552 + l.addr = other
    · rw [if_pos c, c]; simp
    · rw [if_neg c]; have : ¬ other = 2199023255552 + l.addr := fun e => c e.symm
      simp [this]
  have hsame : names_Same n n = some true := by rw [names_Same_spec hs]; simp
  rw [← hirb]
  simp only [names_Device_spec hsm, hR, hdevs, names_Domain_spec hsm, hix, mac_Host_spec ha0 (by omega : l.addr < 4294967296), hro, names_Right_spec hsm, hoth, hne, hw, c1, c2, rCopy_spec hsm, hsl, lin_dec, hat', getI_get? hat', hgm, decide_true, decide_false, Bool.not_true, Bool.false_eq_true, if_false, if_true, Option.bind_some, bne_self_eq_false]
  have hback : ({ devices := n.devices, ports := m.ports, links := n.links, domains := m.domains.set (domIx n.domains (devI n l.dev) l.vlan).toNat { getI n.domains (domIx n.domains (devI n l.dev) l.vlan) with irb := -1 }, statics := n.statics, floods := m.floods, vrfs := m.vrfs, irbs := List.drop (Int.toNat 0) (List.take (Int.toNat (n.irbs.length : Int)) m.irbs) } : Api_Net) = n := by
    rw [hirb, take_app1, hdom, List.set_set, ← hmm]
    have : ({ getI n.domains (domIx n.domains (devI n l.dev) l.vlan) with irb := -1 } : Api_Domain) = getI n.domains (domIx n.domains (devI n l.dev) l.vlan) := by rw [← hz]
    simp only at this ⊢
    rw [this, set_getI hat]
  have key := congrArg (fun z => names_Same z n) hback
  simp only at key
  first | (rw [key, hsame]; rfl) | (simp only [key, hsame, Option.bind_some]) | (trace_state; sorry)
end
end Go.Eng
