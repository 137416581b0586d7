/- Plain laws of chapter 16 (ports): PortsKeeps. -/
import Derived.Test.YtgemllooojijnaaGreatEngP16c
set_option linter.unusedVariables false
set_option linter.unusedSectionVars false
set_option linter.unusedSimpArgs false
namespace Go.Eng
open Go Classical
attribute [local congr] ite_cg
theorem works16 : palinglaw16_works = some true := by kernel_rfl
theorem portsKeeps (n : Api_Net) (l : Api_Line) (_ : n.Ok) (_ : l.Ok) : palinglaw16_PortsKeeps n l = some true := by
  unfold palinglaw16_PortsKeeps
  rw [works16, Option.bind_some, if_neg (by simp)]
  unfold palinglaw16_Great
  rw [Great_spec, Option.bind_some]
  by_cases hg : BndN n 200 100
  case neg => simp [hg]
  rw [if_neg (by simpa using hg)]
  obtain ⟨b, hb, hsz⟩ := great12_spec (l := l)
  rw [hb]
  simp only [Option.bind_some]
  cases b with
  | true => rfl
  | false =>
  have hall := hsz rfl
  have z1 : (l.dev.size : Int) ≤ 300 := hall _ (by simp [sizesL])
  have z2 : (l.port.size : Int) ≤ 300 := hall _ (by simp [sizesL])
  have z3 : (l.tagged.length : Int) ≤ 300 := hall _ (by simp [sizesL])
  rw [if_neg (by simp), portsKeeps_J hg (by omega)]
  simp only [Option.bind_some]
  have hs := hg.sm
  have hgd := hg.domains
  have hgp := hg.ports
  rcases ports_Port_spec hs (l := l) hgd (by omega) (by omega) (by omega) with ⟨e, hne, h⟩ | ⟨hk, ⟨q1, q2, q3, q4, q5⟩, hr, hd, hno, hc, hds, h⟩
  · rw [h]
    simp only [Option.bind_some]
    rw [if_pos (by simpa using hne), names_Same_no]; rfl
  rw [h]
  have hD : domsP n l = (l.vlan :: l.tagged).foldl (putD (devI n l.dev)) n.domains := rfl
  have hft : Few l.tagged := by unfold Few; omega
  have hrng := rise_rng q3
  have hR1 : RightP { n with domains := domsP n l } := right_putDs (l.vlan :: l.tagged) n hr hd (fun v hv => by
    rcases List.mem_cons.1 hv with rfl | hv
    · exact q2
    · exact (hrng v hv).2) hds
  have hs1 : SmN { n with domains := domsP n l } := sm_doms (l.vlan :: l.tagged) n hs (by rw [← hD]; omega)
  have hP : PortP { n with domains := domsP n l } n.ports.length (portP n l) := by
    refine ⟨hd, q1, q2, q3, q5, fun e => ?_, fun v hv => ?_, fun h0 => ?_, .inl rfl⟩
    · have e1 : l.vlan = 0 := e.1
      have e2 : l.tagged = [] := e.2
      rw [e2] at q4; simp at q4; omega
    · exact putDs_ix (l.vlan :: l.tagged) n.domains v (List.mem_cons_of_mem _ hv) (by have := (hrng v hv).1; omega)
    · exact putDs_ix (l.vlan :: l.tagged) n.domains l.vlan (by simp) h0
  have hR : RightP { n with ports := n.ports ++ [portP n l], domains := domsP n l } := right_port hR1 hP hc
  have hsm : SmN { n with ports := n.ports ++ [portP n l], domains := domsP n l } := sm_port hs1 (x := portP n l) (by simp only; omega) hft
  have hpi : portI { n with ports := n.ports ++ [portP n l], domains := domsP n l } (devI n l.dev) l.port = (n.ports.length : Int) := by
    unfold portI at hno ⊢
    simp only
    rw [fstI_app, if_neg (by omega), if_pos ⟨rfl, rfl⟩]
  have hdv : devI { n with ports := n.ports ++ [portP n l], domains := domsP n l } l.dev = devI n l.dev := rfl
  obtain ⟨ex, hex⟩ := putDs_pre (dev := devI n l.dev) (l.vlan :: l.tagged) n.domains
  rw [← hD] at hex
  have hw := wr64 (n := (n.ports.length : Int) + 1) (by omega) (by omega)
  have hb1 : ((((n.ports ++ [portP n l]).length : Nat) : Int) != (n.ports.length : Int) + 1) = false := by simp
  have hb2 : ¬ (((domsP n l).length : Nat) : Int) < (n.domains.length : Int) := by rw [hex]; simp; omega
  have sl1 : slok (n.ports ++ [portP n l]).length 0 (n.ports.length : Int) = true := by rw [slok_dec]; exact decide_eq_true (by simp; omega)
  have sl2 : slok (domsP n l).length 0 (n.domains.length : Int) = true := by rw [slok_dec]; exact decide_eq_true (by omega)
  have htk : List.drop (Int.toNat 0) (List.take (Int.toNat (n.domains.length : Int)) (domsP n l)) = n.domains := by rw [hex]; simp
  have hsame : names_Same n n = some true := by rw [names_Same_spec hs]; simp
  have e1 : (0 : Int) != 0 ↔ False := by simp
  simp only [Option.bind_some, bne_self_eq_false, Bool.false_eq_true, if_false]
  rw [names_Device_spec hsm, names_Right_spec hsm]
  simp only [hR, hdv, if_true, Option.bind_some, decide_true, Bool.not_true, Bool.false_eq_true, if_false, hw, hb1, hb2, decide_false, names_Port_spec hsm, hpi, bne_self_eq_false, rCopy_spec hsm, sl1, sl2, take_app1, htk]
  have hfin : ∀ (c : Option Bool), c = some true → ((names_Same n n).bind fun r79 => if r79 = true then c else some false) = some true := fun c hc => by rw [hsame, hc]; rfl
  refine hfin _ ?_
  by_cases hv : l.vlan = 0
  · rw [if_pos (by simpa using hv)]
  · rw [if_neg (by simpa using hv), names_Domain_spec hsm, if_pos hR]
    simp only [Option.bind_some]
    have := putDs_ix (dev := devI n l.dev) (l.vlan :: l.tagged) n.domains l.vlan (by simp) (by omega)
    rw [← hD] at this
    exact congrArg some (decide_eq_true this)
end Go.Eng
