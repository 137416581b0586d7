/- Chapter 16 (ports): devices and ports put on both sides: PortsPuts. -/
import Derived.Test.YtgohlmiaddkkeaaGreatEngY3
import Derived.Test.YtgohlmiaddkkeaaGreatEngGPR4
import Derived.Test.YtgohlmiaddkkeaaGreatEngGR15
set_option linter.unusedVariables false
set_option linter.unusedSectionVars false
set_option linter.unusedSimpArgs false
namespace Go.Eng
open Go Classical
attribute [local congr] ite_cg
section
variable {n : Api_Net} {l : Api_Line} {k : Int} {LP : Prop}
theorem fits_is (hs : SmN n) (hR : palingref11_Right l = some (decide LP) ∨ l.kind ≠ k) : palingref16_Fits n l k = some (decide (l.kind = k ∧ LP ∧ RightP n)) := by
  unfold palingref16_Fits
  by_cases hk : l.kind = k
  case neg => rw [if_neg (by simpa using hk), decide_eq_false (fun h => hk h.1)]
  have hR := hR.resolve_right (fun h => h hk)
  rw [if_pos (by simpa using hk), hR, Option.bind_some]
  by_cases hL : LP
  case neg => rw [if_neg (by simpa using hL), decide_eq_false (fun h => hL h.2.1)]
  rw [if_pos (decide_eq_true hL), rRight_spec hs, Option.bind_some]
  exact sdec ⟨fun h => ⟨hk, hL, h⟩, fun h => h.2.2⟩
theorem pbegin_is (hs : SmN n) (hR : stmt_Right l = some (decide LP) ∨ l.kind ≠ k) :
    (¬ (l.kind = k ∧ LP ∧ RightP n) → ports_begin n l k = some (.inl ())) ∧ ((l.kind = k ∧ LP ∧ RightP n) → ports_begin n l k = some (.inr (n.devices, n.ports, n.links, n.domains, n.statics, n.floods, n.vrfs, n.irbs, n.ports.length, n.domains.length, n.floods.length, n.vrfs.length))) := by
  unfold ports_begin
  by_cases hk : l.kind = k
  case neg => rw [if_pos (by simpa using hk)]; exact ⟨fun _ => rfl, fun h => absurd h.1 hk⟩
  have hR := hR.resolve_right (fun h => h hk)
  rw [if_neg (by simpa using hk), hR, Option.bind_some]
  by_cases hL : LP
  case neg => rw [if_pos (by simpa using hL)]; exact ⟨fun _ => rfl, fun h => absurd h.2.1 hL⟩
  rw [if_neg (by simpa using hL), names_Right_spec hs, Option.bind_some]
  by_cases hr : RightP n
  case neg => rw [if_pos (by simpa using hr)]; exact ⟨fun _ => rfl, fun h => absurd h.2.2 hr⟩
  rw [if_neg (by simpa using hr), names_Copy_spec hs]
  exact ⟨fun h => absurd ⟨hk, hL, hr⟩ h, fun _ => rfl⟩
abbrev DvT := (List Api_Device) × (List Api_Port) × (List Api_Link) × (List Api_Domain) × (List Api_Static) × (List Api_Flood) × (List Api_Vrf) × (List Api_Irb) × Nat × Nat × Nat × Nat × Int
def badV (e : Int) : DvT := ([], [], [], [], [], [], [], [], 0, 0, 0, 0, e)
noncomputable def devR (n : Api_Net) (l : Api_Line) : DvT :=
  if ¬ (l.kind = 1 ∧ LineP1 l ∧ RightP n) then badV 2
  else if 0 ≤ fstI n.devices fun d => d.name = l.dev ∨ d.mac = l.mac then badV 30
  else if (n.devices.length : Int) = 8 then badV 3
  else (n.devices ++ [⟨l.row, l.num, l.dev, l.mac, 0⟩], n.ports, n.links, n.domains, n.statics, n.floods, n.vrfs, n.irbs, n.ports.length, n.domains.length, n.floods.length, n.vrfs.length, 0)
theorem device_is (hs : SmN n) (hR : stmt_Right l = some (decide (LineP1 l)) ∨ l.kind ≠ 1) : ports_Device n l = some (devR n l) := by
  obtain ⟨b1, b2⟩ := pbegin_is hs hR
  unfold ports_Device devR
  by_cases h : l.kind = 1 ∧ LineP1 l ∧ RightP n
  case neg => rw [b1 h, if_pos h]; rfl
  have hr := h.2.2
  rw [b2 h, if_neg (fun q => q h)]
  simp only [Option.bind_some, dev_twice hs.devices]
  by_cases c1 : 0 ≤ fstI n.devices fun d => d.name = l.dev ∨ d.mac = l.mac
  · rw [if_pos (decide_eq_true c1), if_pos c1]; rfl
  rw [if_neg (by simpa using c1), if_neg c1]
  by_cases c2 : (n.devices.length : Int) = 8
  · rw [if_pos (by simpa using c2), if_pos c2]; rfl
  have hf := hr.few.1
  rw [if_neg (by simpa using c2), if_neg c2, if_pos (roomy_few (by simp; omega))]
theorem rDevice_is (hs : SmN n) (hR : palingref11_Right l = some (decide (LineP1 l)) ∨ l.kind ≠ 1) : palingref16_Device n l = some (devR n l) := by
  unfold palingref16_Device devR
  rw [fits_is hs hR, Option.bind_some]
  by_cases h : l.kind = 1 ∧ LineP1 l ∧ RightP n
  case neg => rw [decide_eq_false h, if_pos (by rfl), if_pos h]; rfl
  have hr := h.2.2
  rw [decide_eq_true h, if_neg (by simp), if_neg (show ¬ ¬ (l.kind = 1 ∧ LineP1 l ∧ RightP n) from fun q => q h)]
  rw [loop_each (f := palingref16_Device_L1 n l) n.devices (fun _ d => ¬ (d.name = l.dev ∨ d.mac = l.mac)) (.inl () : Unit ⊕ Unit) (.inr ()) hs.devices (fun i h0 h1 h2 => by
    have hf' := hs.devices
    have hw := wr64 (n := i + 1) (by omega) (by unfold Few at hf'; omega)
    simp only [palingref16_Device_L1, seqB_dec, h1, nth_getI h2, hw, decide_true, if_true, Option.bind_some]
    by_cases c1 : (getI n.devices i).name = l.dev <;> by_cases c2 : (getI n.devices i).mac = l.mac <;> simp [c1, c2]) (by simp [palingref16_Device_L1])]
  by_cases c1 : 0 ≤ fstI n.devices fun d => d.name = l.dev ∨ d.mac = l.mac
  · rw [if_pos c1, if_neg (fun q => by have := (fstI_none (l := n.devices) (P := fun d => d.name = l.dev ∨ d.mac = l.mac)).2 q; omega)]; rfl
  rw [if_neg c1, if_pos (show EachP n.devices (fun _ d => ¬ (d.name = l.dev ∨ d.mac = l.mac)) from (fstI_none (l := n.devices) (P := fun d => d.name = l.dev ∨ d.mac = l.mac)).1 (by omega))]
  have hf := hr.few.1
  simp only [Option.bind_some]
  by_cases c2 : (n.devices.length : Int) = 8
  · rw [if_pos (by simp; omega), if_pos c2]; rfl
  rw [if_neg (by simp; omega), if_neg c2, rCopy_spec hs]
  simp only [Option.bind_some]
  rw [if_pos (roomy_few (by simp; omega))]
abbrev PtT := (List Api_Device) × (List Api_Port) × (List Api_Link) × (List Api_Domain) × (List Api_Static) × (List Api_Flood) × (List Api_Vrf) × (List Api_Irb) × Nat × Nat × Nat × Int
def badP (e : Int) : PtT := ([], [], [], [], [], [], [], [], 0, 0, 0, e)
noncomputable def portR (n : Api_Net) (l : Api_Line) : PtT :=
  if ¬ (l.kind = 2 ∧ LineP2 l ∧ RightP n) then badP 2
  else if devI n l.dev < 0 then badP 31
  else if portI n (devI n l.dev) l.port ≥ 0 then badP 30
  else if (n.ports.length : Int) = 40 ∨ ((domsP n l).length : Int) > 48 then badP 3
  else (n.devices, n.ports ++ [portP n l], n.links, domsP n l, n.statics, n.floods, n.vrfs, n.irbs, (domsP n l).length, n.floods.length, n.vrfs.length, 0)
theorem port_is (hs : SmN n) (hR : stmt_Right l = some (decide (LineP2 l)) ∨ l.kind ≠ 2) : ports_Port n l = some (portR n l) := by
  obtain ⟨b1, b2⟩ := pbegin_is hs hR
  unfold ports_Port portR
  by_cases h : l.kind = 2 ∧ LineP2 l ∧ RightP n
  case neg => rw [b1 h, if_pos h]; rfl
  have hr := h.2.2
  have ht := rise_len h.2.1.1.2.2.2.2.1
  have hft : Few l.tagged := by unfold Few; omega
  rw [b2 h, if_neg (fun q => q h)]
  simp only [Option.bind_some, names_Device_spec hs, names_Port_spec hs, hr, if_true, Clone_int_spec hft]
  by_cases c1 : devI n l.dev < 0
  · rw [if_pos (decide_eq_true c1), if_pos c1]; rfl
  rw [if_neg (by simpa using c1), if_neg c1]
  by_cases c2 : portI n (devI n l.dev) l.port ≥ 0
  · rw [if_pos (decide_eq_true c2), if_pos c2]; rfl
  rw [if_neg (by simpa using c2), if_neg c2]
  by_cases c3 : ((n.ports.length : Nat) : Int) = 40
  · rw [if_pos (by simpa using c3), if_pos (.inl c3)]; rfl
  have hf := hr.few.2.1
  have hfd := hr.few.2.2.2.1
  rw [if_neg (by simpa using c3), if_pos (roomy_few (by simp; omega)), put_spec (by omega) rfl]
  simp only [Option.bind_some]
  have h1 : n.domains.length ≤ (putD (devI n l.dev) n.domains l.vlan).length ∧ (putD (devI n l.dev) n.domains l.vlan).length ≤ n.domains.length + 1 := by unfold putD; split <;> simp
  have hloop : loopM (fun s : (List Api_Domain) × Nat × Int => match s with | (l46, n47, v48) => ports_Port_L1 l n.devices n.ports n.links n.statics n.floods n.vrfs n.irbs n.floods.length n.vrfs.length (devI n l.dev) l.tagged l46 n47 v48) (putD (devI n l.dev) n.domains l.vlan, (putD (devI n l.dev) n.domains l.vlan).length, 0) = some (domsP n l, (domsP n l).length) :=
    loopM_trace (f := fun s : (List Api_Domain) × Nat × Int => match s with | (l46, n47, v48) => ports_Port_L1 l n.devices n.ports n.links n.statics n.floods n.vrfs n.irbs n.floods.length n.vrfs.length (devI n l.dev) l.tagged l46 n47 v48)
      (fun i => ((l.tagged.take i).foldl (putD (devI n l.dev)) (putD (devI n l.dev) n.domains l.vlan), ((l.tagged.take i).foldl (putD (devI n l.dev)) (putD (devI n l.dev) n.domains l.vlan)).length, (i : Int))) l.tagged.length (by omega) (fun i hi => by
        have hin : inL l.tagged (i : Int) := ⟨by omega, by omega⟩
        have hw := wr64 (n := (i : Int) + 1) (by omega) (by omega)
        have c : (i : Int) < (l.tagged.length : Int) := by omega
        have hb := (putDs_len (dev := devI n l.dev) (l.tagged.take i) (putD (devI n l.dev) n.domains l.vlan)).2
        have htl : (l.tagged.take i).length ≤ 300 := by simp; omega
        have hst : l.tagged.take (i + 1) = l.tagged.take i ++ [getI l.tagged (i : Int)] := by
          have := getI_get? hin
          simp only [Int.toNat_natCast] at this
          rw [List.take_add_one, this]; rfl
        show ports_Port_L1 l _ _ _ _ _ _ _ _ _ _ _ _ _ _ = _
        unfold ports_Port_L1
        rw [if_pos (decide_eq_true c), nth_getI hin, Option.bind_some, put_spec (by omega) rfl]
        simp only [Option.bind_some, hw, hst, List.foldl_append, List.foldl_cons, List.foldl_nil]
        simp) (by
        show ports_Port_L1 l _ _ _ _ _ _ _ _ _ _ _ _ _ _ = _
        unfold ports_Port_L1
        rw [if_neg (by simp), List.take_length]
        rfl)
  rw [hloop]
  simp only [Option.bind_some]
  by_cases c4 : ((domsP n l).length : Int) > 48
  · rw [if_pos (decide_eq_true c4), if_pos (.inr c4)]; rfl
  rw [if_neg (by simpa using c4), if_neg (by rintro (q | q); exact c3 q; exact c4 q)]
  rfl
theorem rPort_is (hs : SmN n) (hR : palingref11_Right l = some (decide (LineP2 l)) ∨ l.kind ≠ 2) : palingref16_Port n l = some (portR n l) := by
  unfold palingref16_Port portR
  rw [fits_is hs hR, Option.bind_some]
  by_cases h : l.kind = 2 ∧ LineP2 l ∧ RightP n
  case neg => rw [decide_eq_false h, if_pos (by rfl), if_pos h]; rfl
  have hr := h.2.2
  have ht := rise_len h.2.1.1.2.2.2.2.1
  rw [decide_eq_true h, if_neg (by simp), if_neg (show ¬ ¬ (l.kind = 2 ∧ LineP2 l ∧ RightP n) from fun q => q h), rDevice_spec hs, Option.bind_some]
  by_cases c1 : devI n l.dev < 0
  · rw [if_pos (decide_eq_true c1), if_pos c1]; rfl
  rw [if_neg (by simpa using c1), if_neg c1, rPort_spec hs, Option.bind_some]
  by_cases c2 : portI n (devI n l.dev) l.port ≥ 0
  · rw [if_pos (decide_eq_true c2), if_pos c2]; rfl
  rw [if_neg (by simpa using c2), if_neg c2, rCopy_spec hs]
  have hf := hr.few.2.1
  have hfd := hr.few.2.2.2.1
  simp only [Option.bind_some]
  rw [if_pos (roomy_few (by omega)), if_pos (roomy_few (by simp; omega)), if_pos (roomy_few (by simp; omega))]
  have hlen : ([l.vlan] ++ l.tagged).length = l.tagged.length + 1 := by simp
  have hloop : loopM (fun s : (List Api_Domain) × Nat × Int => match s with | (l21, n22, v23) => palingref16_Port_L1 n l (devI n l.dev) n.ports n.floods n.vrfs l21 n22 v23) (n.domains, n.domains.length, 0) = some (domsP n l, (domsP n l).length) :=
    loopM_trace (f := fun s : (List Api_Domain) × Nat × Int => match s with | (l21, n22, v23) => palingref16_Port_L1 n l (devI n l.dev) n.ports n.floods n.vrfs l21 n22 v23)
      (fun i => ((([l.vlan] ++ l.tagged).take i).foldl (putD (devI n l.dev)) n.domains, ((([l.vlan] ++ l.tagged).take i).foldl (putD (devI n l.dev)) n.domains).length, (i : Int))) ([l.vlan] ++ l.tagged).length (by omega) (fun i hi => by
        have hin : inL ([l.vlan] ++ l.tagged) (i : Int) := ⟨by omega, by omega⟩
        have hw := wr64 (n := (i : Int) + 1) (by omega) (by omega)
        have hb := (putDs_len (dev := devI n l.dev) (([l.vlan] ++ l.tagged).take i) n.domains).2
        have htl : (([l.vlan] ++ l.tagged).take i).length ≤ 300 := by rw [List.length_take]; omega
        have hst : ([l.vlan] ++ l.tagged).take (i + 1) = ([l.vlan] ++ l.tagged).take i ++ [getI ([l.vlan] ++ l.tagged) (i : Int)] := by
          have := getI_get? hin
          simp only [Int.toNat_natCast] at this
          rw [List.take_add_one, this]; rfl
        have hg := getI_get? hin
        have hl : lin ([l.vlan] ++ l.tagged) (i : Int) = true := by rw [lin_dec]; exact decide_eq_true hin
        rw [hst, List.foldl_append, List.foldl_cons, List.foldl_nil]
        generalize (([l.vlan] ++ l.tagged).take i).foldl (putD (devI n l.dev)) n.domains = ds at *
        generalize getI ([l.vlan] ++ l.tagged) (i : Int) = x at *
        have hJ : palingref16_Port_J2 n l (devI n l.dev) n.ports n.floods n.vrfs ds ds.length (i : Int) = some (decide (0 < x ∧ domIx ds (devI n l.dev) x < 0)) := by
          unfold palingref16_Port_J2
          rw [if_pos hl, hg, Option.bind_some]
          by_cases c : 0 < x
          · rw [if_pos (decide_eq_true c), Option.bind_some, rAt_spec (by simp only; unfold Few; omega)]
            simp [c]
          · rw [if_neg (by simpa using c)]; simp [c]
        show palingref16_Port_L1 n l (devI n l.dev) n.ports n.floods n.vrfs ds ds.length (i : Int) = _
        unfold palingref16_Port_L1
        rw [if_pos (decide_eq_true (by omega)), hJ, Option.bind_some]
        unfold putD
        by_cases c : 0 < x ∧ domIx ds (devI n l.dev) x < 0
        · rw [if_pos c]
          simp only [decide_eq_true c, if_true]
          rw [if_pos hl, hg, Option.bind_some, if_pos (roomy_few (by simp; omega)), hw]
          rfl
        · rw [if_neg c]
          simp only [decide_eq_false c, Bool.false_eq_true, if_false]
          rw [hw]; rfl) (by
        show palingref16_Port_L1 n l (devI n l.dev) n.ports n.floods n.vrfs _ _ _ = _
        unfold palingref16_Port_L1
        rw [if_neg (by simp), List.take_length]
        rfl)
  rw [hloop]
  simp only [Option.bind_some]
  by_cases c3 : (n.ports.length : Int) = 40
  · rw [if_pos (by simp; omega), if_pos (.inl c3)]; rfl
  rw [if_neg (by simp; omega)]
  by_cases c4 : ((domsP n l).length : Int) > 48
  · rw [if_pos (decide_eq_true c4), if_pos (.inr c4)]; rfl
  rw [if_neg (by simpa using c4), if_neg (by rintro (q | q); exact c3 q; exact c4 q)]
  rfl
theorem rsame_none : palingref15_Same ⟨[], [], [], [], [], [], [], []⟩ ⟨[], [], [], [], [], [], [], []⟩ = some true := by kernel_rfl
theorem devR_ok (hs : SmN n) : (∃ e, devR n l = badV e) ∨ (SmN { n with devices := n.devices ++ [⟨l.row, l.num, l.dev, l.mac, 0⟩] } ∧ devR n l = (n.devices ++ [⟨l.row, l.num, l.dev, l.mac, 0⟩], n.ports, n.links, n.domains, n.statics, n.floods, n.vrfs, n.irbs, n.ports.length, n.domains.length, n.floods.length, n.vrfs.length, 0)) := by
  unfold devR
  split
  · exact .inl ⟨_, rfl⟩
  · rename_i h
    have h' : l.kind = 1 ∧ LineP1 l ∧ RightP n := Classical.byContradiction h
    split
    · exact .inl ⟨_, rfl⟩
    · split
      · exact .inl ⟨_, rfl⟩
      · have hf := h'.2.2.few.1
        exact .inr ⟨sm_dev hs (by omega), rfl⟩
theorem portR_ok (hs : SmN n) : (∃ e, portR n l = badP e) ∨ (SmN { n with ports := n.ports ++ [portP n l], domains := domsP n l } ∧ portR n l = (n.devices, n.ports ++ [portP n l], n.links, domsP n l, n.statics, n.floods, n.vrfs, n.irbs, (domsP n l).length, n.floods.length, n.vrfs.length, 0)) := by
  unfold portR
  split
  · exact .inl ⟨_, rfl⟩
  · rename_i h
    have h' : l.kind = 2 ∧ LineP2 l ∧ RightP n := Classical.byContradiction h
    split
    · exact .inl ⟨_, rfl⟩
    · split
      · exact .inl ⟨_, rfl⟩
      · split
        · exact .inl ⟨_, rfl⟩
        · rename_i hc
          have ht := rise_len h'.2.1.1.2.2.2.2.1
          have hf := h'.2.2.few.2.1
          have hds : ((domsP n l).length : Int) ≤ 48 := by
            have : ¬ ((domsP n l).length : Int) > 48 := fun q => hc (.inr q)
            omega
          have hs1 : SmN { n with domains := domsP n l } := sm_doms (l.vlan :: l.tagged) n hs (by show (domsP n l).length ≤ 1000; omega)
          exact .inr ⟨sm_port hs1 (x := portP n l) (by simp only; omega) (by show Few l.tagged; unfold Few; omega), rfl⟩
theorem works16p : palinglaw16_works = some true := by kernel_rfl
theorem lnOk_of (hl : l.Ok) (hz : ∀ x ∈ sizesL l, x ≤ 300) : LnOk l := by
  have z1 : (l.dev.size : Int) ≤ 300 := hz _ (by simp [sizesL])
  have z2 : (l.port.size : Int) ≤ 300 := hz _ (by simp [sizesL])
  have z3 : (l.tagged.length : Int) ≤ 300 := hz _ (by simp [sizesL])
  have z4 : (l.addrs.length : Int) ≤ 300 := hz _ (by simp [sizesL])
  obtain ⟨o1, o2, o3, o4, o5, o6, o7, o8, o9, o10, o11, o12, o13, o14, o15, o16, o17⟩ := hl
  have i64 : ∀ {v : Int}, okI .i64 v → -9223372036854775808 ≤ v ∧ v < 9223372036854775808 := fun h => by
    have h1 := h.1
    have h2 := h.2
    have e1 : IntKind.i64.min = -9223372036854775808 := by decide
    have e2 : IntKind.i64.max = 9223372036854775807 := by decide
    omega
  have u32 : ∀ {v : Int}, okI .u32 v → 0 ≤ v ∧ v < 4294967296 := fun h => by
    have h1 := h.1
    have h2 := h.2
    have e1 : IntKind.u32.min = 0 := by decide
    have e2 : IntKind.u32.max = 4294967295 := by decide
    omega
  exact ⟨by omega, by omega, i64 o11, i64 o12, i64 o13, okU64 o8, u32 o9, fun x hx => i64 (o14.2 x hx), fun x hx => u32 (o17.1.2 x hx), by unfold Few; omega, by unfold Few; omega⟩
end
theorem portsPuts (n : Api_Net) (l : Api_Line) (_ : n.Ok) (hl : l.Ok) : palinglaw16_PortsPuts n l = some true := by
  obtain ⟨b, eb, hb⟩ := great12_spec (l := l)
  simp only [palinglaw16_PortsPuts, palinglaw16_Great, Great_spec, Option.bind_some, works16p]
  by_cases hg : BndN n 200 100
  case neg => simp [hg]
  have hs := hg.sm
  simp only [hg, not_true_eq_false, decide_false, Bool.false_eq_true, if_false, eb, Option.bind_some]
  cases b with
  | true => rfl
  | false =>
    have ho := lnOk_of hl (hb rfl)
    have hA : stmt_Right l = some (decide (LineP1 l)) ∨ l.kind ≠ 1 := by
      by_cases hk : l.kind = 1
      · exact .inl (sRight1 ho hk)
      · exact .inr hk
    have hB : palingref11_Right l = some (decide (LineP1 l)) ∨ l.kind ≠ 1 := by
      by_cases hk : l.kind = 1
      · exact .inl (rRight1 ho hk)
      · exact .inr hk
    have hC : stmt_Right l = some (decide (LineP2 l)) ∨ l.kind ≠ 2 := by
      by_cases hk : l.kind = 2
      · exact .inl (sRight2 ho hk)
      · exact .inr hk
    have hD : palingref11_Right l = some (decide (LineP2 l)) ∨ l.kind ≠ 2 := by
      by_cases hk : l.kind = 2
      · exact .inl (rRight2 ho hk)
      · exact .inr hk
    rw [device_is hs hA, rDevice_is hs hB, port_is hs hC, rPort_is hs hD]
    simp only [Option.bind_some]
    have h1 : ∀ {c : Option Bool}, c = some true → ((palingref15_Same (⟨(devR n l).1, (devR n l).2.1, (devR n l).2.2.1, (devR n l).2.2.2.1, (devR n l).2.2.2.2.1, (devR n l).2.2.2.2.2.1, (devR n l).2.2.2.2.2.2.1, (devR n l).2.2.2.2.2.2.2.1⟩ : Api_Net) (⟨(devR n l).1, (devR n l).2.1, (devR n l).2.2.1, (devR n l).2.2.2.1, (devR n l).2.2.2.2.1, (devR n l).2.2.2.2.2.1, (devR n l).2.2.2.2.2.2.1, (devR n l).2.2.2.2.2.2.2.1⟩ : Api_Net)).bind fun r66 => if (r66) = true then (if ((devR n l).2.2.2.2.2.2.2.2.2.2.2.2 == (devR n l).2.2.2.2.2.2.2.2.2.2.2.2) = true then c else some false) else some false) = some true := fun hc => by
      rw [if_pos (by simp), hc]
      rcases devR_ok (l := l) hs with ⟨e, h⟩ | ⟨hsm, h⟩
      · rw [h]; simp only [badV, rsame_none]; rfl
      · rw [h]
        have := rSame_spec hsm (b := { n with devices := n.devices ++ [⟨l.row, l.num, l.dev, l.mac, 0⟩] })
        simp only
        rw [this]; simp
    refine h1 ?_
    rcases portR_ok (l := l) hs with ⟨e, h⟩ | ⟨hsm, h⟩
    · rw [h]; simp only [badP, rsame_none, Option.bind_some]; simp
    · rw [h]
      have := rSame_spec hsm (b := { n with ports := n.ports ++ [portP n l], domains := domsP n l })
      simp only
      rw [this]; simp
end Go.Eng
