/- Chapter 20 (vrfs): VRFs and interfaces put on both sides: VrfsPuts. -/
import Derived.Test.YtcclngfmkodgjaaGreatEngY5
import Derived.Test.YtcclngfmkodgjaaGreatEngY6
import Derived.Test.YtcclngfmkodgjaaGreatEngGPR3
set_option linter.unusedVariables false
set_option linter.unusedSectionVars false
set_option linter.unusedSimpArgs false
namespace Go.Eng
open Go Classical
attribute [local congr] ite_cg
section
variable {n : Api_Net} {l : Api_Line} {k : Int} {LP : Prop}
theorem vbegin_is (hs : SmN n) (hR : stmt_Right l = some (decide LP) ∨ l.kind ≠ k) : vrfs_begin n l k = some (obI n l k LP) := by
  unfold vrfs_begin obI
  by_cases hk : l.kind = k
  case neg => rw [if_pos (by simpa using hk), if_pos (fun h => hk h.1)]
  have hR := hR.resolve_right (fun h => h hk)
  rw [if_neg (by simpa using hk), hR, Option.bind_some]
  by_cases hL : LP
  case neg => rw [if_pos (by simpa using hL), if_pos (fun h => hL h.2.1)]
  rw [if_neg (by simpa using hL), names_Right_spec hs, Option.bind_some]
  by_cases hr : RightP n
  case neg => rw [if_pos (by simpa using hr), if_pos (fun h => hr h.2.2)]
  rw [if_neg (by simpa using hr), if_neg (show ¬ ¬ (l.kind = k ∧ LP ∧ RightP n) from fun h => h ⟨hk, hL, hr⟩), names_Device_spec hs, if_pos hr, Option.bind_some]
  by_cases hd : devI n l.dev < 0
  · rw [if_pos (decide_eq_true hd), if_pos hd]
  · rw [if_neg (by simpa using hd), if_neg hd]
theorem rVrf_is (hs : SmN n) {d : Int} {s : ByteArray} : palingref15_Vrf n d s = some (vrfI n d s) := by
  unfold palingref15_Vrf
  rw [loop_first (f := palingref15_Vrf_L1 n d s) n.vrfs (fun v => v.dev = d ∧ v.name = s) hs.vrfs (fun i h0 h1 h2 => by
    have hf := hs.vrfs
    have hw := wr64 (n := i + 1) (by omega) (by unfold Few at hf; omega)
    simp only [palingref15_Vrf_L1, h1, nth_getI h2, hw, seqB_dec, decide_true, if_true, Option.bind_some]
    by_cases c1 : (getI n.vrfs i).dev = d <;> by_cases c2 : (getI n.vrfs i).name = s <;> simp [c1, c2]) (by simp [palingref15_Vrf_L1])]
  show Option.bind (if 0 ≤ vrfI n d s then some (Sum.inl (vrfI n d s)) else some (Sum.inr ())) _ = _
  by_cases c : 0 ≤ vrfI n d s
  · rw [if_pos c]; rfl
  · rw [if_neg c]
    show some (-1) = some (vrfI n d s)
    rcases fstI_cases (l := n.vrfs) (P := fun v => v.dev = d ∧ v.name = s) with h | h
    · rw [show vrfI n d s = -1 from h.1]
    · exact absurd h.1.1 c
/-! ### VRFs -/
abbrev VfT := (List Api_Device) × (List Api_Port) × (List Api_Link) × (List Api_Domain) × (List Api_Static) × (List Api_Flood) × (List Api_Vrf) × (List Api_Irb) × Nat × Nat × Nat × Int
def badVf (e : Int) : VfT := ([], [], [], [], [], [], [], [], 0, 0, 0, e)
noncomputable def vfR (n : Api_Net) (l : Api_Line) : VfT :=
  if ¬ (l.kind = 8 ∧ LineP8 l ∧ RightP n) then badVf 2
  else if devI n l.dev < 0 then badVf 31
  else if 0 ≤ vrfI n (devI n l.dev) l.name then badVf 30
  else if (n.vrfs.length : Int) = 16 then badVf 3
  else (n.devices, n.ports, n.links, n.domains, n.statics, n.floods, n.vrfs ++ [⟨l.row, devI n l.dev, l.name, l.imports, l.exports⟩], n.irbs, n.ports.length, n.domains.length, n.floods.length, 0)
theorem vrf_is (hs : SmN n) (hi : Few l.imports) (he : Few l.exports) (hR : stmt_Right l = some (decide (LineP8 l)) ∨ l.kind ≠ 8) : vrfs_Vrf n l = some (vfR n l) := by
  unfold vrfs_Vrf vfR
  rw [vbegin_is hs hR, Option.bind_some]
  unfold obI
  by_cases h : l.kind = 8 ∧ LineP8 l ∧ RightP n
  case neg => rw [if_pos h, if_pos h]; rfl
  have hr := h.2.2
  have hh : ¬ ¬ (l.kind = 8 ∧ LineP8 l ∧ RightP n) := fun q => q h
  rw [if_neg hh, if_neg hh]
  by_cases hd : devI n l.dev < 0
  · rw [if_pos hd, if_pos hd]; rfl
  rw [if_neg hd, if_neg hd]
  try simp only
  rw [if_neg (by simp), names_Vrf_spec hs, if_pos hr, Option.bind_some]
  by_cases c1 : 0 ≤ vrfI n (devI n l.dev) l.name
  · rw [if_pos (decide_eq_true c1), if_pos c1]; rfl
  rw [if_neg (by simpa using c1), if_neg c1]
  by_cases c2 : (n.vrfs.length : Int) = 16
  · rw [if_pos (by simpa using c2), if_pos c2]; rfl
  have hf := hr.few.2.2.2.2.2.2.1
  rw [if_neg (by simpa using c2), if_neg c2, names_Copy_spec hs]
  simp only [Option.bind_some, Clone_int_spec hi, Clone_int_spec he]
  rw [if_pos (roomy_few (by simp; omega))]
theorem rVrfPut_is (hs : SmN n) (hi : Few l.imports) (he : Few l.exports) (hR : palingref11_Right l = some (decide (LineP8 l)) ∨ l.kind ≠ 8) : palingref20_Vrf n l = some (vfR n l) := by
  unfold palingref20_Vrf vfR
  rw [fits_is hs hR, Option.bind_some]
  by_cases h : l.kind = 8 ∧ LineP8 l ∧ RightP n
  case neg => rw [decide_eq_false h, if_pos (by rfl), if_pos h]; rfl
  have hr := h.2.2
  have hh : ¬ ¬ (l.kind = 8 ∧ LineP8 l ∧ RightP n) := fun q => q h
  rw [decide_eq_true h, if_neg (by simp), if_neg hh, rDevice_spec hs, Option.bind_some]
  by_cases hd : devI n l.dev < 0
  · rw [if_pos (decide_eq_true hd), if_pos hd]; rfl
  rw [if_neg (by simpa using hd), if_neg hd, rVrf_is hs, Option.bind_some]
  by_cases c1 : 0 ≤ vrfI n (devI n l.dev) l.name
  · rw [if_pos (decide_eq_true c1), if_pos c1]; rfl
  rw [if_neg (by simpa using c1), if_neg c1]
  have hf := hr.few.2.2.2.2.2.2.1
  by_cases c2 : (n.vrfs.length : Int) = 16
  · rw [if_pos (decide_eq_true (by omega)), if_pos c2]; rfl
  rw [if_neg (by simp; omega), if_neg c2, rCopy_spec hs]
  simp only [Option.bind_some]
  rw [if_pos (roomyN hi), if_pos (roomyN he), if_pos (roomy_few (by simp; omega))]
/-! ### Interfaces -/
def ClshP (n : Api_Net) (d : Int) (p : Api_Prefix) (x : Api_Irb) : Prop :=
  x.net.addr = p.addr ∨ (getI n.domains x.domain).dev ≠ d ∧ (HasP p x.net.addr ∨ HasP x.net p.addr)
theorem clash_is (hn : n.Ok) (hr : RightP n) {d i : Int} {p : Api_Prefix} (hP : PreOk p) (hi : inL n.irbs i) : vrfs_clash n (getI n.irbs i) d p = some (decide (ClshP n d p (getI n.irbs i))) := by
  have hx := hr.irbs i hi
  have hX := (irb_pre hn hr hi).1
  unfold vrfs_clash
  rw [nth_getI hx.2.1, Option.bind_some]
  have hdv : (getI n.vrfs (getI n.irbs i).vrf).dev = (getI n.domains (getI n.irbs i).domain).dev := hx.2.2.1.symm
  rw [hdv]
  by_cases c1 : (getI n.irbs i).net.addr = p.addr
  · rw [if_pos (by simpa using c1), decide_eq_true (show ClshP n d p (getI n.irbs i) from .inl c1)]
  rw [if_neg (by simpa using c1)]
  by_cases c2 : (getI n.domains (getI n.irbs i).domain).dev = d
  · rw [if_neg (by simpa using c2), decide_eq_false]
    rintro (h | h)
    · exact c1 h
    · exact h.1 c2
  rw [if_pos (by simpa using c2), addr_Has_spec hX hP.a0 hP.a1, Option.bind_some]
  by_cases c3 : HasP (getI n.irbs i).net p.addr
  · rw [if_pos (decide_eq_true c3), decide_eq_true (show ClshP n d p (getI n.irbs i) from .inr ⟨c2, .inr c3⟩)]
  rw [if_neg (by simpa using c3), addr_Has_spec hP hX.a0 hX.a1, Option.bind_some]
  refine sdec ⟨fun h => .inr ⟨c2, .inl h⟩, ?_⟩
  rintro (h | h)
  · exact absurd h c1
  · exact h.2.resolve_right c3
def ClshsP (n : Api_Net) (d : Int) (p : Api_Prefix) : Prop := ∃ x ∈ n.irbs, ClshP n d p x
theorem clashes_is (hs : SmN n) (hn : n.Ok) (hr : RightP n) {d : Int} (hP : PreOk ⟨l.addr, l.bits⟩) : slices_ContainsFunc_Irb_Irb_1 n.irbs n d l = some (decide (ClshsP n d ⟨l.addr, l.bits⟩)) := by
  unfold slices_ContainsFunc_Irb_Irb_1 slices_IndexFunc_Irb_Irb_1
  rw [loop_first n.irbs (ClshP n d ⟨l.addr, l.bits⟩) hs.irbs (fun i h0 h1 h2 => by
    have := hs.irbs
    have hw := wr64 (n := i + 1) (by omega) (by omega)
    simp only [slices_IndexFunc_Irb_Irb_1_L1, vrfs_Irb_1, h1, nth_getI h2, clash_is hn hr hP h2, hw, decide_true, if_true, Option.bind_some]
    by_cases c : ClshP n d ⟨l.addr, l.bits⟩ (getI n.irbs i) <;> simp [c]) (by simp [slices_IndexFunc_Irb_Irb_1_L1])]
  have e : ClshsP n d ⟨l.addr, l.bits⟩ ↔ 0 ≤ fstI n.irbs (ClshP n d ⟨l.addr, l.bits⟩) := contains_of_first.symm
  by_cases c : 0 ≤ fstI n.irbs (ClshP n d ⟨l.addr, l.bits⟩)
  · rw [if_pos c, decide_eq_true (e.2 c)]
    simp [c]
  · rw [if_neg c, decide_eq_false (fun h => c (e.1 h))]
    rfl
theorem taken_is (hs : SmN n) (hn : n.Ok) (hr : RightP n) {d : Int} {p : Api_Prefix} (hP : PreOk p) : palingref20_taken n d p = some (decide (ClshsP n d p)) := by
  unfold palingref20_taken
  rw [loop_each (f := palingref20_taken_L1 n d p) n.irbs (fun _ x => ¬ ClshP n d p x) (.inl () : Unit ⊕ Unit) (.inr ()) hs.irbs (fun i h0 h1 h2 => by
    have := hs.irbs
    have hx := hr.irbs i h2
    have hX := (irb_pre hn hr h2).1
    have hw := wr64 (n := i + 1) (by omega) (by omega)
    simp only [palingref20_taken_L1, h1, nth_getI h2, nth_getI hx.1, r02Has_spec hP, r02Has_spec hX, hw, decide_true, if_true, Option.bind_some]
    by_cases c1 : (getI n.irbs i).net.addr = p.addr
    · rw [if_pos (by simpa using c1), if_neg (fun q => q (.inl c1))]
    rw [if_neg (by simpa using c1)]
    by_cases c2 : (getI n.domains (getI n.irbs i).domain).dev = d
    · rw [if_neg (by simpa using c2), if_pos]
      rintro (h | h)
      · exact c1 h
      · exact h.1 c2
    rw [if_pos (by simpa using c2)]
    by_cases c3 : HasP p (getI n.irbs i).net.addr
    · rw [if_pos (decide_eq_true c3), if_neg (fun q => q (.inr ⟨c2, .inl c3⟩))]
    rw [if_neg (by simpa using c3)]
    by_cases c4 : HasP (getI n.irbs i).net p.addr
    · rw [if_pos (decide_eq_true c4), if_neg (fun q => q (.inr ⟨c2, .inr c4⟩))]
    rw [if_neg (by simpa using c4), if_pos]
    rintro (h | ⟨_, h | h⟩)
    · exact c1 h
    · exact c3 h
    · exact c4 h) (by simp [palingref20_taken_L1])]
  by_cases c : ClshsP n d p
  · obtain ⟨x, hx, h⟩ := c
    obtain ⟨i, hi, e⟩ := mem_getI hx
    rw [if_neg (fun q => q i hi (by rw [e]; exact h)), decide_eq_true ⟨x, hx, h⟩]
    rfl
  · rw [if_pos (show EachP n.irbs (fun _ x => ¬ ClshP n d p x) from fun i hi h => c ⟨_, getI_mem hi, h⟩), decide_eq_false c]
    rfl
noncomputable def irR (n : Api_Net) (l : Api_Line) : DvT :=
  if ¬ (l.kind = 9 ∧ LineP9 l ∧ RightP n) then badV 2
  else if devI n l.dev < 0 then badV 31
  else if vrfI n (devI n l.dev) l.name < 0 then badV 31
  else if domIx n.domains (devI n l.dev) l.vlan < 0 then badV 32
  else if (getI n.domains (domIx n.domains (devI n l.dev) l.vlan)).irb ≠ -1 ∨ ClshsP n (devI n l.dev) ⟨l.addr, l.bits⟩ then badV 37
  else (n.devices, n.ports, n.links, n.domains.set (domIx n.domains (devI n l.dev) l.vlan).toNat { getI n.domains (domIx n.domains (devI n l.dev) l.vlan) with irb := (n.irbs.length : Int) }, n.statics, n.floods, n.vrfs,
        n.irbs ++ [⟨l.row, domIx n.domains (devI n l.dev) l.vlan, vrfI n (devI n l.dev) l.name, ⟨l.addr, l.bits⟩⟩], n.ports.length, n.domains.length, n.floods.length, n.vrfs.length, 0)
theorem pre9 (ho : LnOkV l) (h : LineP9 l) : PreOk ⟨l.addr, l.bits⟩ :=
  ⟨by have := h.1.2.2.2.1; show 0 ≤ l.bits; have h2 : 1 ≤ l.bits := this; omega, by have := h.1.2.2.2.2.1; show l.bits ≤ 32; have h2 : l.bits ≤ 30 := this; omega, ho.base.addr.1, ho.base.addr.2⟩
theorem irb_is (hs : SmN n) (hn : n.Ok) (ho : LnOkV l) (hR : stmt_Right l = some (decide (LineP9 l)) ∨ l.kind ≠ 9) : vrfs_Irb n l = some (irR n l) := by
  unfold vrfs_Irb irR
  rw [vbegin_is hs hR, Option.bind_some]
  unfold obI
  by_cases h : l.kind = 9 ∧ LineP9 l ∧ RightP n
  case neg => rw [if_pos h, if_pos h]; rfl
  have hr := h.2.2
  have hh : ¬ ¬ (l.kind = 9 ∧ LineP9 l ∧ RightP n) := fun q => q h
  rw [if_neg hh, if_neg hh]
  by_cases hd : devI n l.dev < 0
  · rw [if_pos hd, if_pos hd]; rfl
  rw [if_neg hd, if_neg hd]
  try simp only
  rw [if_neg (by simp), names_Vrf_spec hs, if_pos hr, Option.bind_some, names_Domain_spec hs, if_pos hr, Option.bind_some]
  by_cases c1 : vrfI n (devI n l.dev) l.name < 0
  · rw [if_pos (decide_eq_true c1), if_pos c1]; rfl
  rw [if_neg (by simpa using c1), if_neg c1]
  by_cases c2 : domIx n.domains (devI n l.dev) l.vlan < 0
  · rw [if_pos (decide_eq_true c2), if_pos c2]; rfl
  rw [if_neg (by simpa using c2), if_neg c2]
  have hk2 : inL n.domains (domIx n.domains (devI n l.dev) l.vlan) := fstI_inL.1 (by unfold domIx at c2; omega)
  generalize domIx n.domains (devI n l.dev) l.vlan = q at *
  rw [nth_getI hk2, Option.bind_some]
  have hz : (getI n.domains q).irb ≥ 0 ↔ (getI n.domains q).irb ≠ -1 := by
    rcases (hr.bare q hk2).2.2.2.2.2.1 with e | ⟨e, _⟩
    · omega
    · have := e.1; omega
  by_cases c3 : (getI n.domains q).irb ≠ -1
  · rw [if_pos (decide_eq_true (hz.2 c3)), if_pos (.inl c3)]; rfl
  rw [if_neg (by simpa using fun h => c3 (hz.1 h)), clashes_is hs hn hr (pre9 ho h.2.1), Option.bind_some]
  by_cases c4 : ClshsP n (devI n l.dev) ⟨l.addr, l.bits⟩
  · rw [if_pos (decide_eq_true c4), if_pos (.inr c4)]; rfl
  rw [if_neg (by simpa using c4), if_neg (by rintro (q | q); exact c3 q; exact c4 q), names_Copy_spec hs]
  simp only [Option.bind_some]
  have hf := hr.few.2.2.2.2.2.2.2
  rw [if_pos (by rw [lin_dec]; exact decide_eq_true hk2), getI_get? hk2, Option.bind_some, if_pos (roomy_few (by simp; omega))]
theorem rIrb_is (hs : SmN n) (hn : n.Ok) (ho : LnOkV l) (hR : palingref11_Right l = some (decide (LineP9 l)) ∨ l.kind ≠ 9) : palingref20_Irb n l = some (irR n l) := by
  unfold palingref20_Irb irR
  rw [fits_is hs hR, Option.bind_some]
  by_cases h : l.kind = 9 ∧ LineP9 l ∧ RightP n
  case neg => rw [decide_eq_false h, if_pos (by rfl), if_pos h]; rfl
  have hr := h.2.2
  have hh : ¬ ¬ (l.kind = 9 ∧ LineP9 l ∧ RightP n) := fun q => q h
  rw [decide_eq_true h, if_neg (by simp), if_neg hh, rDevice_spec hs, Option.bind_some]
  by_cases hd : devI n l.dev < 0
  · rw [if_pos (decide_eq_true hd), if_pos hd]; rfl
  rw [if_neg (by simpa using hd), if_neg hd, rVrf_is hs, Option.bind_some]
  by_cases c1 : vrfI n (devI n l.dev) l.name < 0
  · rw [if_pos (decide_eq_true c1), if_pos c1]; rfl
  rw [if_neg (by simpa using c1), if_neg c1, rAt_spec hs.domains, Option.bind_some]
  by_cases c2 : domIx n.domains (devI n l.dev) l.vlan < 0
  · rw [if_pos (decide_eq_true c2), if_pos c2]; rfl
  rw [if_neg (by simpa using c2), if_neg c2]
  have hk2 : inL n.domains (domIx n.domains (devI n l.dev) l.vlan) := fstI_inL.1 (by unfold domIx at c2; omega)
  generalize domIx n.domains (devI n l.dev) l.vlan = q at *
  rw [nth_getI hk2, Option.bind_some]
  by_cases c3 : (getI n.domains q).irb ≠ -1
  · rw [if_pos (by simpa using c3), if_pos (.inl c3)]; rfl
  rw [if_neg (by simpa using c3), taken_is hs hn hr (pre9 ho h.2.1), Option.bind_some]
  by_cases c4 : ClshsP n (devI n l.dev) ⟨l.addr, l.bits⟩
  · rw [if_pos (decide_eq_true c4), if_pos (.inr c4)]; rfl
  rw [if_neg (by simpa using c4), if_neg (by rintro (q | q); exact c3 q; exact c4 q), rCopy_spec hs]
  simp only [Option.bind_some]
  have hf := hr.few.2.2.2.2.2.2.2
  rw [if_pos (by rw [lin_dec]; exact decide_eq_true hk2), getI_get? hk2, Option.bind_some, if_pos (roomy_few (by simp; omega))]
theorem vfR_ok (hs : SmN n) (hg : n.vrfs.length ≤ 1000) (hi : Few l.imports) (he : Few l.exports) : (∃ e, vfR n l = badVf e) ∨ (SmN { n with vrfs := n.vrfs ++ [⟨l.row, devI n l.dev, l.name, l.imports, l.exports⟩] } ∧ vfR n l = (n.devices, n.ports, n.links, n.domains, n.statics, n.floods, n.vrfs ++ [⟨l.row, devI n l.dev, l.name, l.imports, l.exports⟩], n.irbs, n.ports.length, n.domains.length, n.floods.length, 0)) := by
  unfold vfR
  split
  · exact .inl ⟨_, rfl⟩
  · split
    · exact .inl ⟨_, rfl⟩
    · split
      · exact .inl ⟨_, rfl⟩
      · split
        · exact .inl ⟨_, rfl⟩
        · exact .inr ⟨sm_vrf hs hg hi he, rfl⟩
theorem irR_ok (hs : SmN n) (hg : n.irbs.length ≤ 1000) : (∃ e, irR n l = badV e) ∨ (SmN { n with domains := n.domains.set (domIx n.domains (devI n l.dev) l.vlan).toNat { getI n.domains (domIx n.domains (devI n l.dev) l.vlan) with irb := (n.irbs.length : Int) }, irbs := n.irbs ++ [⟨l.row, domIx n.domains (devI n l.dev) l.vlan, vrfI n (devI n l.dev) l.name, ⟨l.addr, l.bits⟩⟩] } ∧ irR n l = (n.devices, n.ports, n.links, n.domains.set (domIx n.domains (devI n l.dev) l.vlan).toNat { getI n.domains (domIx n.domains (devI n l.dev) l.vlan) with irb := (n.irbs.length : Int) }, n.statics, n.floods, n.vrfs,
        n.irbs ++ [⟨l.row, domIx n.domains (devI n l.dev) l.vlan, vrfI n (devI n l.dev) l.name, ⟨l.addr, l.bits⟩⟩], n.ports.length, n.domains.length, n.floods.length, n.vrfs.length, 0)) := by
  unfold irR
  split
  · exact .inl ⟨_, rfl⟩
  · split
    · exact .inl ⟨_, rfl⟩
    · split
      · exact .inl ⟨_, rfl⟩
      · split
        · exact .inl ⟨_, rfl⟩
        · rename_i hd
          split
          · exact .inl ⟨_, rfl⟩
          · have hk2 : inL n.domains (domIx n.domains (devI n l.dev) l.vlan) := fstI_inL.1 (by unfold domIx at hd; omega)
            exact .inr ⟨sm_irb hs (show Few (getI n.domains (domIx n.domains (devI n l.dev) l.vlan)).peers from hs.peers _ (getI_mem hk2)) hg, rfl⟩
theorem lnOkV_of (hl : l.Ok) (hz : ∀ x ∈ sizesL l, x ≤ 300) : LnOkV l := by
  have ho := lnOk_of hl hz
  have z1 : (l.name.size : Int) ≤ 300 := hz _ (by simp [sizesL])
  have z2 : (l.imports.length : Int) ≤ 300 := hz _ (by simp [sizesL])
  have z3 : (l.exports.length : Int) ≤ 300 := hz _ (by simp [sizesL])
  obtain ⟨o1, o2, o3, o4, o5, o6, o7, o8, o9, o10, o11, o12, o13, o14, o15, o16, o17⟩ := hl
  have i64 : ∀ {v : Int}, okI .i64 v → -9223372036854775808 ≤ v ∧ v < 9223372036854775808 := fun h => by
    have h1 := h.1
    have h2 := h.2
    have e1 : IntKind.i64.min = -9223372036854775808 := by decide
    have e2 : IntKind.i64.max = 9223372036854775807 := by decide
    omega
  exact ⟨ho, by omega, fun x hx => i64 (o15.2 x hx), fun x hx => i64 (o16.2 x hx), by unfold Few; omega, by unfold Few; omega⟩
end
theorem vrfsPuts (n : Api_Net) (l : Api_Line) (hn : n.Ok) (hl : l.Ok) : palinglaw20_VrfsPuts n l = some true := by
  obtain ⟨b, eb, hb⟩ := great12_spec (l := l)
  simp only [palinglaw20_VrfsPuts, palinglaw16_Great, Great_spec, Option.bind_some, works20]
  by_cases hg : BndN n 200 100
  case neg => simp [hg]
  have hs := hg.sm
  have hgv := hg.vrfs
  have hgi := hg.irbs
  simp only [hg, not_true_eq_false, decide_false, Bool.false_eq_true, if_false, eb, Option.bind_some]
  cases b with
  | true => rfl
  | false =>
    have ho := lnOkV_of hl (hb rfl)
    have h8 : (stmt_Right l = some (decide (LineP8 l)) ∨ l.kind ≠ 8) ∧ (palingref11_Right l = some (decide (LineP8 l)) ∨ l.kind ≠ 8) := by
      by_cases hk : l.kind = 8
      · exact ⟨.inl (sRight8 ho hk), .inl (rRight8 ho hk)⟩
      · exact ⟨.inr hk, .inr hk⟩
    have h9 : (stmt_Right l = some (decide (LineP9 l)) ∨ l.kind ≠ 9) ∧ (palingref11_Right l = some (decide (LineP9 l)) ∨ l.kind ≠ 9) := by
      by_cases hk : l.kind = 9
      · exact ⟨.inl (sRight9 ho hk), .inl (rRight9 ho hk)⟩
      · exact ⟨.inr hk, .inr hk⟩
    rw [vrf_is hs ho.few2 ho.few3 h8.1, rVrfPut_is hs ho.few2 ho.few3 h8.2, irb_is hs hn ho h9.1, rIrb_is hs hn ho h9.2]
    have e1 : palingref15_Same ⟨(vfR n l).1, (vfR n l).2.1, (vfR n l).2.2.1, (vfR n l).2.2.2.1, (vfR n l).2.2.2.2.1, (vfR n l).2.2.2.2.2.1, (vfR n l).2.2.2.2.2.2.1, (vfR n l).2.2.2.2.2.2.2.1⟩ ⟨(vfR n l).1, (vfR n l).2.1, (vfR n l).2.2.1, (vfR n l).2.2.2.1, (vfR n l).2.2.2.2.1, (vfR n l).2.2.2.2.2.1, (vfR n l).2.2.2.2.2.2.1, (vfR n l).2.2.2.2.2.2.2.1⟩ = some true := by
      rcases vfR_ok (l := l) hs (by omega) ho.few2 ho.few3 with ⟨e, h⟩ | ⟨hsm, h⟩
      · rw [h]; exact rsame_none
      · rw [h]; exact (rSame_spec hsm (b := { n with vrfs := n.vrfs ++ [⟨l.row, devI n l.dev, l.name, l.imports, l.exports⟩] })).trans (by simp)
    have e2 : palingref15_Same ⟨(irR n l).1, (irR n l).2.1, (irR n l).2.2.1, (irR n l).2.2.2.1, (irR n l).2.2.2.2.1, (irR n l).2.2.2.2.2.1, (irR n l).2.2.2.2.2.2.1, (irR n l).2.2.2.2.2.2.2.1⟩ ⟨(irR n l).1, (irR n l).2.1, (irR n l).2.2.1, (irR n l).2.2.2.1, (irR n l).2.2.2.2.1, (irR n l).2.2.2.2.2.1, (irR n l).2.2.2.2.2.2.1, (irR n l).2.2.2.2.2.2.2.1⟩ = some true := by
      rcases irR_ok (l := l) hs (by omega) with ⟨e, h⟩ | ⟨hsm, h⟩
      · rw [h]; exact rsame_none
      · rw [h]; exact (rSame_spec hsm (b := { n with domains := n.domains.set (domIx n.domains (devI n l.dev) l.vlan).toNat { getI n.domains (domIx n.domains (devI n l.dev) l.vlan) with irb := (n.irbs.length : Int) }, irbs := n.irbs ++ [⟨l.row, domIx n.domains (devI n l.dev) l.vlan, vrfI n (devI n l.dev) l.name, ⟨l.addr, l.bits⟩⟩] })).trans (by simp)
    simp only [Option.bind_some, e1, e2, Bool.not_true, Bool.false_eq_true, if_false, bne_self_eq_false, beq_self_eq_true, if_true]
end Go.Eng
