/- Chapter 19 (overlay): VTEPs, VNIs and flood lists put on both sides: OverlayPuts. -/
import Derived.Test.YtgohlmiaddkkeaaGreatEngY4
import Derived.Test.YtgohlmiaddkkeaaGreatEngGP19a
set_option linter.unusedVariables false
set_option linter.unusedSectionVars false
set_option linter.unusedSimpArgs false
namespace Go.Eng
open Go Classical
attribute [local congr] ite_cg
section
variable {n : Api_Net} {l : Api_Line} {k : Int} {LP : Prop}
noncomputable def obI (n : Api_Net) (l : Api_Line) (k : Int) (LP : Prop) : Int × Int :=
  if ¬ (l.kind = k ∧ LP ∧ RightP n) then (0, 2) else if devI n l.dev < 0 then (0, 31) else (devI n l.dev, 0)
theorem obegin_is (hs : SmN n) (hR : stmt_Right l = some (decide LP) ∨ l.kind ≠ k) : overlay_begin n l k = some (obI n l k LP) := by
  unfold overlay_begin obI
  by_cases hk : l.kind = k
  case neg => rw [if_pos (by simpa using hk), if_pos (fun h => hk h.1)]
  have hR := hR.resolve_right (fun h => h hk)
  rw [if_neg (by simpa using hk), hR, Option.bind_some]
  by_cases hL : LP
  case neg => rw [if_pos (by simpa using hL), if_pos (fun h => hL h.2.1)]
  rw [if_neg (by simpa using hL), names_Right_spec hs, Option.bind_some]
  by_cases hr : RightP n
  case neg => rw [if_pos (by simpa using hr), if_pos (fun h => hr h.2.2)]
  rw [if_neg (by simpa using hr), if_neg (show ¬ ¬ (l.kind = k ∧ LP ∧ RightP n) from fun h => h ⟨hk, hL, hr⟩), names_Device_spec hs, if_pos hr, Option.bind_some]
  by_cases hd : devI n l.dev < 0
  · rw [if_pos (decide_eq_true hd), if_pos hd]
  · rw [if_neg (by simpa using hd), if_neg hd]
theorem rbegin_is (hs : SmN n) (hR : palingref11_Right l = some (decide LP) ∨ l.kind ≠ k) : palingref19_begin n l k = some (obI n l k LP) := by
  unfold palingref19_begin obI
  rw [fits_is hs hR, Option.bind_some]
  by_cases h : l.kind = k ∧ LP ∧ RightP n
  case neg => rw [decide_eq_false h, if_pos (by rfl), if_pos h]
  rw [decide_eq_true h, if_neg (by simp), if_neg (show ¬ ¬ (l.kind = k ∧ LP ∧ RightP n) from fun q => q h), rDevice_spec hs, Option.bind_some]
  by_cases hd : devI n l.dev < 0
  · rw [if_pos (decide_eq_true hd), if_pos hd]
  · rw [if_neg (by simpa using hd), if_neg hd]
theorem obI_cases : (∃ e : Int, e ≠ 0 ∧ obI n l k LP = (0, e)) ∨ (l.kind = k ∧ LP ∧ RightP n ∧ inL n.devices (devI n l.dev) ∧ obI n l k LP = (devI n l.dev, 0)) := by
  unfold obI
  by_cases h : l.kind = k ∧ LP ∧ RightP n
  case neg => exact .inl ⟨2, by decide, by rw [if_pos h]⟩
  by_cases hd : devI n l.dev < 0
  · exact .inl ⟨31, by decide, by rw [if_neg (fun q => q h), if_pos hd]⟩
  · exact .inr ⟨h.1, h.2.1, h.2.2, fstI_inL.1 (by unfold devI at hd; omega), by rw [if_neg (fun q => q h), if_neg hd]⟩
theorem rFind_is (hs : SmN n) {a b : Int} : palingref19_Find n a b = some (vniI n a b) := by
  unfold palingref19_Find
  rw [loop_first (f := palingref19_Find_L1 n a b) n.domains (fun d => d.dev = a ∧ d.vni = b ∧ b ≠ 0) hs.domains (fun i h0 h1 h2 => by
    have hf := hs.domains
    have hw := wr64 (n := i + 1) (by omega) (by unfold Few at hf; omega)
    simp only [palingref19_Find_L1, h1, nth_getI h2, hw, decide_true, if_true, Option.bind_some]
    by_cases c1 : (getI n.domains i).dev = a <;> by_cases c2 : (getI n.domains i).vni = b <;> by_cases c3 : b = 0 <;> simp [c1, c2, c3]) (by simp [palingref19_Find_L1])]
  show Option.bind (if 0 ≤ vniI n a b then some (Sum.inl (vniI n a b)) else some (Sum.inr ())) _ = _
  by_cases c : 0 ≤ vniI n a b
  · rw [if_pos c]; rfl
  · rw [if_neg c]
    show some (-1) = some (vniI n a b)
    rcases fstI_cases (l := n.domains) (P := fun d => d.dev = a ∧ d.vni = b ∧ b ≠ 0) with h | h
    · rw [show vniI n a b = -1 from h.1]
    · exact absurd h.1.1 c
theorem rOwner_is (hs : SmN n) {a : Int} : palingref19_Owner n a = some (ownI n a) := by
  unfold palingref19_Owner
  rw [loop_first (f := palingref19_Owner_L1 n a) n.devices (fun d => d.vtep = a) hs.devices (fun i h0 h1 h2 => by
    have hf := hs.devices
    have hw := wr64 (n := i + 1) (by omega) (by unfold Few at hf; omega)
    simp only [palingref19_Owner_L1, h1, nth_getI h2, hw, decide_true, if_true, Option.bind_some]
    by_cases c1 : (getI n.devices i).vtep = a <;> simp [c1]) (by simp [palingref19_Owner_L1])]
  show Option.bind (if 0 ≤ ownI n a then some (Sum.inl (ownI n a)) else some (Sum.inr ())) _ = _
  by_cases c : 0 ≤ ownI n a
  · rw [if_pos c]; rfl
  · rw [if_neg c]
    show some (-1) = some (ownI n a)
    rcases fstI_cases (l := n.devices) (P := fun d => d.vtep = a) with h | h
    · rw [show ownI n a = -1 from h.1]
    · exact absurd h.1.1 c
theorem rList_is (hs : SmN n) {a b : Int} : palingref19_list n a b = some (floodI n a b) := by
  unfold palingref19_list
  rw [loop_first (f := palingref19_list_L1 n a b) n.floods (fun f => f.dev = a ∧ f.vni = b) hs.floods (fun i h0 h1 h2 => by
    have hf := hs.floods
    have hw := wr64 (n := i + 1) (by omega) (by unfold Few at hf; omega)
    simp only [palingref19_list_L1, h1, nth_getI h2, hw, decide_true, if_true, Option.bind_some]
    by_cases c1 : (getI n.floods i).dev = a <;> by_cases c2 : (getI n.floods i).vni = b <;> simp [c1, c2]) (by simp [palingref19_list_L1])]
  show Option.bind (if 0 ≤ floodI n a b then some (Sum.inl (floodI n a b)) else some (Sum.inr ())) _ = _
  by_cases c : 0 ≤ floodI n a b
  · rw [if_pos c]; rfl
  · rw [if_neg c]
    show some (-1) = some (floodI n a b)
    rcases fstI_cases (l := n.floods) (P := fun f => f.dev = a ∧ f.vni = b) with h | h
    · rw [show floodI n a b = -1 from h.1]
    · exact absurd h.1.1 c
theorem rHas_is {t : List Int} {x : Int} (ht : Few t) : palingref19_has t x = some (decide (x ∈ t)) := by
  unfold palingref19_has
  rw [loop_each (f := palingref19_has_L1 t x) t (fun _ y => ¬ y = x) (.inl () : Unit ⊕ Unit) (.inr ()) ht (fun i h0 h1 h2 => by
    have ht' := ht
    have hw := wr64 (n := i + 1) (by omega) (by unfold Few at ht'; omega)
    simp only [palingref19_has_L1, h1, nth_getI h2, hw, decide_true, if_true, Option.bind_some]
    by_cases c : getI t i = x <;> simp [c]) (by simp [palingref19_has_L1])]
  by_cases c : x ∈ t
  · obtain ⟨i, hi, e⟩ := mem_getI c
    rw [if_neg (fun h => h i hi e)]
    simp [c]
  · rw [if_pos (show EachP t (fun _ y => ¬ y = x) from fun i hi e => c (by have := getI_mem hi; rw [e] at this; exact this))]
    simp [c]
/-! ### VTEPs -/
abbrev VpT := (List Api_Device) × (List Api_Port) × (List Api_Link) × (List Api_Domain) × (List Api_Static) × (List Api_Flood) × (List Api_Vrf) × (List Api_Irb) × Nat × Nat × Nat × Nat × Nat × Int
def badVp (e : Int) : VpT := ([], [], [], [], [], [], [], [], 0, 0, 0, 0, 0, e)
noncomputable def vtR (n : Api_Net) (l : Api_Line) : VpT :=
  if (obI n l 5 (LineP5 l)).2 ≠ 0 then badVp (obI n l 5 (LineP5 l)).2
  else if (getI n.devices (devI n l.dev)).vtep ≠ 0 ∨ 0 ≤ ownI n l.addr then badVp 30
  else (n.devices.set (devI n l.dev).toNat { getI n.devices (devI n l.dev) with vtep := l.addr }, n.ports, n.links, n.domains, n.statics, n.floods, n.vrfs, n.irbs, n.devices.length, n.ports.length, n.domains.length, n.floods.length, n.vrfs.length, 0)
theorem vtep_is (hs : SmN n) (hR : stmt_Right l = some (decide (LineP5 l)) ∨ l.kind ≠ 5) : overlay_Vtep n l = some (vtR n l) := by
  unfold overlay_Vtep vtR
  rw [obegin_is hs hR, Option.bind_some]
  rcases obI_cases (n := n) (l := l) (k := 5) (LP := LineP5 l) with ⟨e, he, h⟩ | ⟨hk, hL, hr, hi, h⟩
  · rw [h]; (try simp only); rw [if_pos (eq0 he), if_pos he]; rfl
  rw [h]
  try simp only
  rw [if_neg (by simp), if_neg (by simp), nth_getI hi, Option.bind_some]
  by_cases c1 : (getI n.devices (devI n l.dev)).vtep = 0
  case neg => rw [if_pos (eq0 c1), if_pos (.inl c1)]; rfl
  rw [if_neg (by simpa using c1), overlay_owner_spec hs, Option.bind_some]
  by_cases c2 : 0 ≤ ownI n l.addr
  · rw [if_pos (decide_eq_true c2), if_pos (.inr c2)]; rfl
  rw [if_neg (by simpa using c2), if_neg (by rintro (q | q); exact q c1; exact c2 q), names_Copy_spec hs]
  simp only [Option.bind_some]
  rw [if_pos (by rw [lin_dec]; exact decide_eq_true hi), getI_get? hi, Option.bind_some]
theorem rVtep_is (hs : SmN n) (hn : n.Ok) (hR : palingref11_Right l = some (decide (LineP5 l)) ∨ l.kind ≠ 5) : palingref19_Vtep n l = some (vtR n l) := by
  unfold palingref19_Vtep palingref19_Vtep_J1 vtR
  rw [rbegin_is hs hR, Option.bind_some]
  rcases obI_cases (n := n) (l := l) (k := 5) (LP := LineP5 l) with ⟨e, he, h⟩ | ⟨hk, hL, hr, hi, h⟩
  · rw [h]; (try simp only); rw [if_neg (by simpa using he), if_pos he, Option.bind_some]; (try simp only); rw [if_pos (eq0 he)]; rfl
  rw [h]
  have hv : 0 ≤ (getI n.devices (devI n l.dev)).vtep := by
    have := (hn.1.2 _ (getI_mem hi)).2.2.2.2.1
    exact this.1
  try simp only
  rw [if_pos (by simp), if_neg (by simp), nth_getI hi, Option.bind_some]
  by_cases c1 : (getI n.devices (devI n l.dev)).vtep = 0
  case neg =>
    rw [if_pos (decide_eq_true (show (getI n.devices (devI n l.dev)).vtep > 0 by omega)), if_pos (.inl c1), Option.bind_some]; rfl
  rw [if_neg (by simp; omega), rOwner_is hs, Option.bind_some]
  by_cases c2 : 0 ≤ ownI n l.addr
  · rw [if_pos (decide_eq_true c2), if_pos (.inr c2), Option.bind_some]; rfl
  rw [if_neg (by simpa using c2), if_neg (by rintro (q | q); exact q c1; exact c2 q), Option.bind_some]
  try simp only
  rw [if_neg (by simp), rCopy_spec hs]
  simp only [Option.bind_some]
  rw [if_pos (by rw [lin_dec]; exact decide_eq_true hi), getI_get? hi, Option.bind_some]
/-! ### VNIs -/
noncomputable def vnR (n : Api_Net) (l : Api_Line) : DvT :=
  if (obI n l 6 (LineP6 l)).2 ≠ 0 then badV (obI n l 6 (LineP6 l)).2
  else if (getI n.devices (devI n l.dev)).vtep = 0 then badV 35
  else if domIx n.domains (devI n l.dev) l.vlan < 0 then badV 32
  else if (getI n.domains (domIx n.domains (devI n l.dev) l.vlan)).vni ≠ 0 ∨ 0 ≤ vniI n (devI n l.dev) l.num then badV 30
  else (n.devices, n.ports, n.links, n.domains.set (domIx n.domains (devI n l.dev) l.vlan).toNat { getI n.domains (domIx n.domains (devI n l.dev) l.vlan) with vni := l.num, row := l.row }, n.statics, n.floods, n.vrfs, n.irbs, n.ports.length, n.domains.length, n.floods.length, n.vrfs.length, 0)
theorem vni_is (hs : SmN n) (hR : stmt_Right l = some (decide (LineP6 l)) ∨ l.kind ≠ 6) : overlay_Vni n l = some (vnR n l) := by
  unfold overlay_Vni vnR
  rw [obegin_is hs hR, Option.bind_some]
  rcases obI_cases (n := n) (l := l) (k := 6) (LP := LineP6 l) with ⟨e, he, h⟩ | ⟨hk, hL, hr, hi, h⟩
  · rw [h]; (try simp only); rw [if_pos (eq0 he), if_pos he]; rfl
  rw [h]
  try simp only
  rw [if_neg (by simp), if_neg (by simp), names_Domain_spec hs, if_pos hr, Option.bind_some, nth_getI hi, Option.bind_some]
  by_cases c1 : (getI n.devices (devI n l.dev)).vtep = 0
  · rw [if_pos (by simpa using c1), if_pos c1]; rfl
  rw [if_neg (by simpa using c1), if_neg c1]
  by_cases c2 : domIx n.domains (devI n l.dev) l.vlan < 0
  · rw [if_pos (decide_eq_true c2), if_pos c2]; rfl
  rw [if_neg (by simpa using c2), if_neg c2]
  have hk2 : inL n.domains (domIx n.domains (devI n l.dev) l.vlan) := fstI_inL.1 (by unfold domIx at c2; omega)
  generalize domIx n.domains (devI n l.dev) l.vlan = p at *
  rw [nth_getI hk2, Option.bind_some]
  by_cases c3 : (getI n.domains p).vni = 0
  case neg => rw [if_pos (eq0 c3), if_pos (.inl c3)]; rfl
  rw [if_neg (by simpa using c3), overlay_find_spec hs, Option.bind_some]
  by_cases c4 : 0 ≤ vniI n (devI n l.dev) l.num
  · rw [if_pos (decide_eq_true c4), if_pos (.inr c4)]; rfl
  rw [if_neg (by simpa using c4), if_neg (by rintro (q | q); exact q c3; exact c4 q), names_Copy_spec hs]
  simp only [Option.bind_some]
  rw [if_pos (by rw [lin_dec]; exact decide_eq_true hk2), getI_get? hk2, Option.bind_some, if_pos (by rw [lin_dec]; exact decide_eq_true (inL_setI.2 hk2)), getI_get? (inL_setI.2 hk2), Option.bind_some, getI_setI hk2 hk2, if_pos rfl, List.set_set]
theorem rVni_is (hs : SmN n) (hR : palingref11_Right l = some (decide (LineP6 l)) ∨ l.kind ≠ 6) : palingref19_Vni n l = some (vnR n l) := by
  unfold palingref19_Vni palingref19_Vni_J1 vnR
  rw [rbegin_is hs hR, Option.bind_some]
  rcases obI_cases (n := n) (l := l) (k := 6) (LP := LineP6 l) with ⟨e, he, h⟩ | ⟨hk, hL, hr, hi, h⟩
  · rw [h]; (try simp only)
    rw [if_neg (by simpa using he), if_pos he, Option.bind_some]; (try simp only)
    rw [rAt_spec hs.domains, Option.bind_some]
    unfold palingref19_Vni_J2
    rw [if_neg (by simpa using he), Option.bind_some]; (try simp only)
    unfold palingref19_Vni_J3
    rw [if_neg (by simpa using he), Option.bind_some]; (try simp only)
    rw [if_pos (eq0 he)]; rfl
  rw [h]
  try simp only
  rw [if_pos (by simp), if_neg (by simp), nth_getI hi, Option.bind_some]
  have bad : ∀ {e p : Int}, e ≠ 0 → (palingref19_Vni_J2 n l (devI n l.dev, 0) e p).bind (fun r20 => match r20 with | v18 => (palingref19_Vni_J3 n l (devI n l.dev, 0) p v18).bind fun r31 => match r31 with | v29 => if (v29 != 0) = true then some (badV v29) else none) = some (badV e) := fun he => by
    unfold palingref19_Vni_J2
    rw [if_neg (by simpa using he), Option.bind_some]; (try simp only)
    unfold palingref19_Vni_J3
    rw [if_neg (by simpa using he), Option.bind_some]; (try simp only)
    rw [if_pos (eq0 he)]
  by_cases c1 : (getI n.devices (devI n l.dev)).vtep = 0
  · rw [if_pos (by simpa using c1), if_pos c1, Option.bind_some]; (try simp only)
    rw [rAt_spec hs.domains, Option.bind_some]
    unfold palingref19_Vni_J2
    rw [if_neg (by decide), Option.bind_some]; (try simp only)
    unfold palingref19_Vni_J3
    rw [if_neg (by decide), Option.bind_some]; rfl
  rw [if_neg (by simpa using c1), if_neg c1, Option.bind_some]
  try simp only
  rw [rAt_spec hs.domains, Option.bind_some]
  unfold palingref19_Vni_J2
  rw [if_pos (by decide)]
  by_cases c2 : domIx n.domains (devI n l.dev) l.vlan < 0
  · rw [if_pos (decide_eq_true c2), if_pos c2, Option.bind_some]; (try simp only)
    unfold palingref19_Vni_J3
    rw [if_neg (by decide), Option.bind_some]; rfl
  rw [if_neg (by simpa using c2), if_neg c2, Option.bind_some]
  have hk2 : inL n.domains (domIx n.domains (devI n l.dev) l.vlan) := fstI_inL.1 (by unfold domIx at c2; omega)
  have hb := hr.bare _ hk2
  generalize domIx n.domains (devI n l.dev) l.vlan = p at *
  try simp only
  unfold palingref19_Vni_J3
  rw [if_pos (by decide), nth_getI hk2, Option.bind_some]
  by_cases c3 : (getI n.domains p).vni = 0
  case neg =>
    have hv : 0 ≤ (getI n.domains p).vni := hb.2.2.2.1
    rw [if_pos (decide_eq_true (show (getI n.domains p).vni > 0 by omega)), if_pos (.inl c3), Option.bind_some]; rfl
  rw [if_neg (by simp; omega), rFind_is hs, Option.bind_some]
  by_cases c4 : 0 ≤ vniI n (devI n l.dev) l.num
  · rw [if_pos (decide_eq_true c4), if_pos (.inr c4), Option.bind_some]; rfl
  rw [if_neg (by simpa using c4), if_neg (by rintro (q | q); exact q c3; exact c4 q), Option.bind_some]
  try simp only
  rw [if_neg (by simp), rCopy_spec hs]
  simp only [Option.bind_some]
  rw [if_pos (by rw [lin_dec]; exact decide_eq_true hk2), getI_get? hk2, Option.bind_some, if_pos (by rw [lin_dec]; exact decide_eq_true (inL_setI.2 hk2)), getI_get? (inL_setI.2 hk2), Option.bind_some, getI_setI hk2 hk2, if_pos rfl, List.set_set]
/-! ### Flood lists -/
noncomputable def flR (n : Api_Net) (l : Api_Line) : PtT :=
  if (obI n l 7 (LineP7 l)).2 ≠ 0 then badP (obI n l 7 (LineP7 l)).2
  else if vniI n (devI n l.dev) l.num < 0 then badP 31
  else if 0 ≤ floodI n (devI n l.dev) l.num then badP 30
  else if (getI n.devices (devI n l.dev)).vtep ∈ l.addrs then badP 36
  else if (n.floods.length : Int) = 48 then badP 3
  else (n.devices, n.ports, n.links, n.domains, n.statics, n.floods ++ [⟨l.row, devI n l.dev, l.num, l.addrs⟩], n.vrfs, n.irbs, n.ports.length, n.domains.length, n.vrfs.length, 0)
theorem flood_is (hs : SmN n) (ha : Few l.addrs) (hR : stmt_Right l = some (decide (LineP7 l)) ∨ l.kind ≠ 7) : overlay_Flood n l = some (flR n l) := by
  unfold overlay_Flood flR
  rw [obegin_is hs hR, Option.bind_some]
  rcases obI_cases (n := n) (l := l) (k := 7) (LP := LineP7 l) with ⟨e, he, h⟩ | ⟨hk, hL, hr, hi, h⟩
  · rw [h]; (try simp only); rw [if_pos (eq0 he), if_pos he]; rfl
  rw [h]
  try simp only
  rw [if_neg (show ¬ ((0 : Int) != 0) = true by decide), if_neg (show ¬ ((0 : Int) ≠ 0) from fun q => q rfl), overlay_find_spec hs, Option.bind_some]
  by_cases c1 : vniI n (devI n l.dev) l.num < 0
  · rw [if_pos (decide_eq_true c1), if_pos c1]; rfl
  rw [if_neg (by simpa using c1), if_neg c1, overlay_list_spec hs, Option.bind_some]
  by_cases c2 : 0 ≤ floodI n (devI n l.dev) l.num
  · rw [if_pos (decide_eq_true c2), if_pos c2]; rfl
  rw [if_neg (by simpa using c2), if_neg c2, nth_getI hi, Option.bind_some, Contains_u32_spec ha, Option.bind_some]
  by_cases c3 : (getI n.devices (devI n l.dev)).vtep ∈ l.addrs
  · rw [if_pos (decide_eq_true c3), if_pos c3]; rfl
  rw [if_neg (by simpa using c3), if_neg c3]
  by_cases c4 : (n.floods.length : Int) = 48
  · rw [if_pos (by simpa using c4), if_pos c4]; rfl
  have hf := hr.few.2.2.2.2.2.1
  rw [if_neg (by simpa using c4), if_neg c4, names_Copy_spec hs]
  simp only [Option.bind_some, Clone_uint32_spec ha]
  rw [if_pos (roomy_few (by simp; omega))]
theorem rFlood_is (hs : SmN n) (ha : Few l.addrs) (hR : palingref11_Right l = some (decide (LineP7 l)) ∨ l.kind ≠ 7) : palingref19_Flood n l = some (flR n l) := by
  unfold palingref19_Flood flR
  rw [rbegin_is hs hR, Option.bind_some]
  have k1 : ∀ {r3 : Int × Int}, r3.2 ≠ 0 → palingref19_Flood_J1 n l r3 = some r3.2 := fun he => by unfold palingref19_Flood_J1; rw [if_neg (by simpa using he)]
  have k2 : ∀ {r3 : Int × Int} {v : Int}, v ≠ 0 → palingref19_Flood_J2 n l r3 v = some v := fun he => by unfold palingref19_Flood_J2; rw [if_neg (by simpa using he)]
  have k3 : ∀ {r3 : Int × Int} {v : Int}, v ≠ 0 → palingref19_Flood_J3 n l r3 v = some v := fun he => by unfold palingref19_Flood_J3; rw [if_neg (by simpa using he)]
  have k4 : ∀ {r3 : Int × Int} {v : Int}, v ≠ 0 → palingref19_Flood_J4 n l r3 v = some v := fun he => by unfold palingref19_Flood_J4; rw [if_neg (by simpa using he)]
  rcases obI_cases (n := n) (l := l) (k := 7) (LP := LineP7 l) with ⟨e, he, h⟩ | ⟨hk, hL, hr, hi, h⟩
  · rw [h, k1 he, Option.bind_some]
    simp only
    rw [k2 he, Option.bind_some]; (try simp only)
    rw [k3 he, Option.bind_some]; (try simp only)
    rw [k4 he, Option.bind_some]; (try simp only)
    rw [if_pos (eq0 he), if_pos he]; rfl
  rw [h]
  have j1 : palingref19_Flood_J1 n l (devI n l.dev, 0) = some (if vniI n (devI n l.dev) l.num < 0 then 31 else 0) := by
    unfold palingref19_Flood_J1
    rw [if_pos (by rfl), rFind_is hs, Option.bind_some]
    by_cases c : vniI n (devI n l.dev) l.num < 0
    · rw [if_pos (decide_eq_true c), if_pos c]
    · rw [if_neg (by simpa using c), if_neg c]
  have j2 : palingref19_Flood_J2 n l (devI n l.dev, 0) 0 = some (if 0 ≤ floodI n (devI n l.dev) l.num then 30 else 0) := by
    unfold palingref19_Flood_J2
    rw [if_pos (by rfl), rList_is hs, Option.bind_some]
    by_cases c : 0 ≤ floodI n (devI n l.dev) l.num
    · rw [if_pos (decide_eq_true c), if_pos c]
    · rw [if_neg (by simpa using c), if_neg c]
  have j3 : palingref19_Flood_J3 n l (devI n l.dev, 0) 0 = some (if (getI n.devices (devI n l.dev)).vtep ∈ l.addrs then 36 else 0) := by
    unfold palingref19_Flood_J3
    rw [if_pos (by rfl), nth_getI hi, Option.bind_some, rHas_is ha, Option.bind_some]
    by_cases c : (getI n.devices (devI n l.dev)).vtep ∈ l.addrs
    · rw [if_pos (decide_eq_true c), if_pos c]
    · rw [if_neg (by simpa using c), if_neg c]
  have hf := hr.few.2.2.2.2.2.1
  have j4 : palingref19_Flood_J4 n l (devI n l.dev, 0) 0 = some (if (n.floods.length : Int) = 48 then 3 else 0) := by
    unfold palingref19_Flood_J4
    rw [if_pos (by rfl)]
    by_cases c : (n.floods.length : Int) = 48
    · rw [if_pos (by simp; omega), if_pos c]
    · rw [if_neg (by simp; omega), if_neg c]
  rw [j1, Option.bind_some, if_neg (show ¬ ((devI n l.dev, (0 : Int)) : Int × Int).2 ≠ 0 from fun q => q rfl)]
  try simp only
  by_cases c1 : vniI n (devI n l.dev) l.num < 0
  · rw [if_pos c1, if_pos c1, k2 (by decide), Option.bind_some]; (try simp only)
    rw [k3 (by decide), Option.bind_some]; (try simp only)
    rw [k4 (by decide), Option.bind_some]; rfl
  rw [if_neg c1, if_neg c1, j2, Option.bind_some]; (try simp only)
  by_cases c2 : 0 ≤ floodI n (devI n l.dev) l.num
  · rw [if_pos c2, if_pos c2, k3 (by decide), Option.bind_some]; (try simp only)
    rw [k4 (by decide), Option.bind_some]; rfl
  rw [if_neg c2, if_neg c2, j3, Option.bind_some]; (try simp only)
  by_cases c3 : (getI n.devices (devI n l.dev)).vtep ∈ l.addrs
  · rw [if_pos c3, if_pos c3, k4 (by decide), Option.bind_some]; rfl
  rw [if_neg c3, if_neg c3, j4, Option.bind_some]; (try simp only)
  by_cases c4 : (n.floods.length : Int) = 48
  · rw [if_pos c4, if_pos c4]; rfl
  rw [if_neg c4, if_neg c4, if_neg (by simp), rCopy_spec hs]
  have ha' := ha
  simp only [Option.bind_some]
  rw [if_pos (roomy_few (by unfold Few at ha'; omega)), if_pos (roomy_few (by simp; omega))]
theorem vtR_ok (hs : SmN n) : (∃ e, vtR n l = badVp e) ∨ (SmN { n with devices := n.devices.set (devI n l.dev).toNat { getI n.devices (devI n l.dev) with vtep := l.addr } } ∧ vtR n l = (n.devices.set (devI n l.dev).toNat { getI n.devices (devI n l.dev) with vtep := l.addr }, n.ports, n.links, n.domains, n.statics, n.floods, n.vrfs, n.irbs, n.devices.length, n.ports.length, n.domains.length, n.floods.length, n.vrfs.length, 0)) := by
  unfold vtR
  split
  · exact .inl ⟨_, rfl⟩
  · split
    · exact .inl ⟨_, rfl⟩
    · exact .inr ⟨sm_vtep hs, rfl⟩
theorem vnR_ok (hs : SmN n) : (∃ e, vnR n l = badV e) ∨ (SmN { n with domains := n.domains.set (domIx n.domains (devI n l.dev) l.vlan).toNat { getI n.domains (domIx n.domains (devI n l.dev) l.vlan) with vni := l.num, row := l.row } } ∧ vnR n l = (n.devices, n.ports, n.links, n.domains.set (domIx n.domains (devI n l.dev) l.vlan).toNat { getI n.domains (domIx n.domains (devI n l.dev) l.vlan) with vni := l.num, row := l.row }, n.statics, n.floods, n.vrfs, n.irbs, n.ports.length, n.domains.length, n.floods.length, n.vrfs.length, 0)) := by
  unfold vnR
  split
  · exact .inl ⟨_, rfl⟩
  · split
    · exact .inl ⟨_, rfl⟩
    · split
      · exact .inl ⟨_, rfl⟩
      · rename_i hd
        split
        · exact .inl ⟨_, rfl⟩
        · have hk2 : inL n.domains (domIx n.domains (devI n l.dev) l.vlan) := fstI_inL.1 (by unfold domIx at hd; omega)
          exact .inr ⟨sm_dom hs (show Few (getI n.domains (domIx n.domains (devI n l.dev) l.vlan)).peers from hs.peers _ (getI_mem hk2)), rfl⟩
theorem flR_ok (hs : SmN n) (ha : Few l.addrs) (hg : n.floods.length ≤ 1000) : (∃ e, flR n l = badP e) ∨ (SmN { n with floods := n.floods ++ [⟨l.row, devI n l.dev, l.num, l.addrs⟩] } ∧ flR n l = (n.devices, n.ports, n.links, n.domains, n.statics, n.floods ++ [⟨l.row, devI n l.dev, l.num, l.addrs⟩], n.vrfs, n.irbs, n.ports.length, n.domains.length, n.vrfs.length, 0)) := by
  unfold flR
  split
  · exact .inl ⟨_, rfl⟩
  · split
    · exact .inl ⟨_, rfl⟩
    · split
      · exact .inl ⟨_, rfl⟩
      · split
        · exact .inl ⟨_, rfl⟩
        · split
          · exact .inl ⟨_, rfl⟩
          · exact .inr ⟨sm_flood hs hg ha, rfl⟩
end
theorem overlayPuts (n : Api_Net) (l : Api_Line) (hn : n.Ok) (hl : l.Ok) : palinglaw19_OverlayPuts n l = some true := by
  obtain ⟨b, eb, hb⟩ := great12_spec (l := l)
  simp only [palinglaw19_OverlayPuts, palinglaw16_Great, Great_spec, Option.bind_some, works19]
  by_cases hg : BndN n 200 100
  case neg => simp [hg]
  have hs := hg.sm
  have hgf := hg.floods
  simp only [hg, not_true_eq_false, decide_false, Bool.false_eq_true, if_false, eb, Option.bind_some]
  cases b with
  | true => rfl
  | false =>
    have ho := lnOk_of hl (hb rfl)
    have h5 : (stmt_Right l = some (decide (LineP5 l)) ∨ l.kind ≠ 5) ∧ (palingref11_Right l = some (decide (LineP5 l)) ∨ l.kind ≠ 5) := by
      by_cases hk : l.kind = 5
      · exact ⟨.inl (sRight5 ho hk), .inl (rRight5 ho hk)⟩
      · exact ⟨.inr hk, .inr hk⟩
    have h6 : (stmt_Right l = some (decide (LineP6 l)) ∨ l.kind ≠ 6) ∧ (palingref11_Right l = some (decide (LineP6 l)) ∨ l.kind ≠ 6) := by
      by_cases hk : l.kind = 6
      · exact ⟨.inl (sRight6 ho hk), .inl (rRight6 ho hk)⟩
      · exact ⟨.inr hk, .inr hk⟩
    have h7 : (stmt_Right l = some (decide (LineP7 l)) ∨ l.kind ≠ 7) ∧ (palingref11_Right l = some (decide (LineP7 l)) ∨ l.kind ≠ 7) := by
      by_cases hk : l.kind = 7
      · exact ⟨.inl (sRight7 ho hk), .inl (rRight7 ho hk)⟩
      · exact ⟨.inr hk, .inr hk⟩
    rw [vtep_is hs h5.1, rVtep_is hs hn h5.2, vni_is hs h6.1, rVni_is hs h6.2, flood_is hs ho.few4 h7.1, rFlood_is hs ho.few4 h7.2]
    have e1 : palingref15_Same ⟨(vtR n l).1, (vtR n l).2.1, (vtR n l).2.2.1, (vtR n l).2.2.2.1, (vtR n l).2.2.2.2.1, (vtR n l).2.2.2.2.2.1, (vtR n l).2.2.2.2.2.2.1, (vtR n l).2.2.2.2.2.2.2.1⟩ ⟨(vtR n l).1, (vtR n l).2.1, (vtR n l).2.2.1, (vtR n l).2.2.2.1, (vtR n l).2.2.2.2.1, (vtR n l).2.2.2.2.2.1, (vtR n l).2.2.2.2.2.2.1, (vtR n l).2.2.2.2.2.2.2.1⟩ = some true := by
      rcases vtR_ok (l := l) hs with ⟨e, h⟩ | ⟨hsm, h⟩
      · rw [h]; exact rsame_none
      · rw [h]; exact (rSame_spec hsm (b := { n with devices := n.devices.set (devI n l.dev).toNat { getI n.devices (devI n l.dev) with vtep := l.addr } })).trans (by simp)
    have e2 : palingref15_Same ⟨(vnR n l).1, (vnR n l).2.1, (vnR n l).2.2.1, (vnR n l).2.2.2.1, (vnR n l).2.2.2.2.1, (vnR n l).2.2.2.2.2.1, (vnR n l).2.2.2.2.2.2.1, (vnR n l).2.2.2.2.2.2.2.1⟩ ⟨(vnR n l).1, (vnR n l).2.1, (vnR n l).2.2.1, (vnR n l).2.2.2.1, (vnR n l).2.2.2.2.1, (vnR n l).2.2.2.2.2.1, (vnR n l).2.2.2.2.2.2.1, (vnR n l).2.2.2.2.2.2.2.1⟩ = some true := by
      rcases vnR_ok (l := l) hs with ⟨e, h⟩ | ⟨hsm, h⟩
      · rw [h]; exact rsame_none
      · rw [h]; exact (rSame_spec hsm (b := { n with domains := n.domains.set (domIx n.domains (devI n l.dev) l.vlan).toNat { getI n.domains (domIx n.domains (devI n l.dev) l.vlan) with vni := l.num, row := l.row } })).trans (by simp)
    have e3 : palingref15_Same ⟨(flR n l).1, (flR n l).2.1, (flR n l).2.2.1, (flR n l).2.2.2.1, (flR n l).2.2.2.2.1, (flR n l).2.2.2.2.2.1, (flR n l).2.2.2.2.2.2.1, (flR n l).2.2.2.2.2.2.2.1⟩ ⟨(flR n l).1, (flR n l).2.1, (flR n l).2.2.1, (flR n l).2.2.2.1, (flR n l).2.2.2.2.1, (flR n l).2.2.2.2.2.1, (flR n l).2.2.2.2.2.2.1, (flR n l).2.2.2.2.2.2.2.1⟩ = some true := by
      rcases flR_ok (l := l) hs ho.few4 (by omega) with ⟨e, h⟩ | ⟨hsm, h⟩
      · rw [h]; exact rsame_none
      · rw [h]; exact (rSame_spec hsm (b := { n with floods := n.floods ++ [⟨l.row, devI n l.dev, l.num, l.addrs⟩] })).trans (by simp)
    simp only [Option.bind_some, e1, e2, e3, Bool.not_true, Bool.false_eq_true, if_false, bne_self_eq_false, beq_self_eq_true, if_true]
end Go.Eng
