/- Plain laws of chapter 19 (overlay): VTEPs, VNIs and flood lists put into a net. -/
import Derived.Test.YtgemllooojijnaaGreatEngPS
import Derived.Test.YtgemllooojijnaaGreatEngPR2
import Derived.Test.YtgemllooojijnaaGreatEngPC
set_option linter.unusedVariables false
set_option linter.unusedSectionVars false
set_option linter.unusedSimpArgs false
namespace Go.Eng
open Go Classical
attribute [local congr] ite_cg
section
variable {n : Api_Net} {l : Api_Line}
noncomputable def vniI (n : Api_Net) (dev vni : Int) : Int := fstI n.domains fun d => d.dev = dev ∧ d.vni = vni ∧ vni ≠ 0
noncomputable def floodI (n : Api_Net) (dev vni : Int) : Int := fstI n.floods fun f => f.dev = dev ∧ f.vni = vni
noncomputable def ownI (n : Api_Net) (a : Int) : Int := fstI n.devices fun d => d.vtep = a
theorem overlay_find_spec (hs : SmN n) {a b : Int} : overlay_find n a b = some (vniI n a b) := by
  simp only [overlay_find, slices_IndexFunc_Domain_find_1]
  rw [loop_first n.domains (fun d => d.dev = a ∧ d.vni = b ∧ b ≠ 0) hs.domains (fun i h0 h1 h2 => by
    have := hs.domains
    simp (disch := omega) only [slices_IndexFunc_Domain_find_1_L1, overlay_find_1, h1, nth_getI h2, wr64, bind_ite, Option.bind_some, dif1, dif2, dif3, dif4, dif5, dif6, dif7, dnot, ibeq, ibne, decide_eq_true_eq, if_not2, ge_iff_le, gt_iff_lt, fst_ret, Bool.false_eq_true, decide_false, mrg1, mrg2, mrg3, mrg4, mrg5, mrg6, mrg7, decide_true, if_true]; first | exact fpos Iff.rfl | (split <;> rfl)) (by simp [slices_IndexFunc_Domain_find_1_L1])]
  simp only [bind_ite, Option.bind_some, dif1, dif2, dif3, dif4, dif5, dif6, dif7, dnot, ibeq, ibne, decide_eq_true_eq, if_not2, ge_iff_le, gt_iff_lt, fst_ret, Bool.false_eq_true, decide_false]
  rfl
theorem overlay_list_spec (hs : SmN n) {a b : Int} : overlay_list n a b = some (floodI n a b) := by
  simp only [overlay_list, slices_IndexFunc_Flood_list_1]
  rw [loop_first n.floods (fun d => d.dev = a ∧ d.vni = b) hs.floods (fun i h0 h1 h2 => by
    have := hs.floods
    simp (disch := omega) only [slices_IndexFunc_Flood_list_1_L1, overlay_list_1, h1, nth_getI h2, wr64, bind_ite, Option.bind_some, dif1, dif2, dif3, dif4, dif5, dif6, dif7, dnot, ibeq, ibne, decide_eq_true_eq, if_not2, ge_iff_le, gt_iff_lt, fst_ret, Bool.false_eq_true, decide_false, mrg1, mrg2, mrg3, mrg4, mrg5, mrg6, mrg7, decide_true, if_true]; first | exact fpos Iff.rfl | (split <;> rfl)) (by simp [slices_IndexFunc_Flood_list_1_L1])]
  simp only [bind_ite, Option.bind_some, dif1, dif2, dif3, dif4, dif5, dif6, dif7, dnot, ibeq, ibne, decide_eq_true_eq, if_not2, ge_iff_le, gt_iff_lt, fst_ret, Bool.false_eq_true, decide_false]
  rfl
theorem overlay_owner_spec (hs : SmN n) {a : Int} : overlay_owner n a = some (ownI n a) := by
  simp only [overlay_owner, slices_IndexFunc_Device_owner_1]
  rw [loop_first n.devices (fun d => d.vtep = a) hs.devices (fun i h0 h1 h2 => by
    have := hs.devices
    simp (disch := omega) only [slices_IndexFunc_Device_owner_1_L1, overlay_owner_1, h1, nth_getI h2, wr64, bind_ite, Option.bind_some, dif1, dif2, dif3, dif4, dif5, dif6, dif7, dnot, ibeq, ibne, decide_eq_true_eq, if_not2, ge_iff_le, gt_iff_lt, fst_ret, Bool.false_eq_true, decide_false, mrg1, mrg2, mrg3, mrg4, mrg5, mrg6, mrg7, decide_true, if_true]; first | exact fpos Iff.rfl | (split <;> rfl)) (by simp [slices_IndexFunc_Device_owner_1_L1])]
  simp only [bind_ite, Option.bind_some, dif1, dif2, dif3, dif4, dif5, dif6, dif7, dnot, ibeq, ibne, decide_eq_true_eq, if_not2, ge_iff_le, gt_iff_lt, fst_ret, Bool.false_eq_true, decide_false]
  rfl
theorem Contains_u32_spec {l : List Int} {x : Int} (hl : Few l) : slices_Contains_uint32 l x = some (decide (x ∈ l)) := by
  have : slices_Index_uint32 l x = some (fstI l (fun y => x = y)) := by
    unfold slices_Index_uint32
    rw [loop_first l (fun y => x = y) hl (fun i h0 h1 h2 => by simp (disch := omega) only [slices_Index_uint32_L1, h1, nth_getI h2, wr64, bind_ite, Option.bind_some, dif1, dif2, dif3, dif4, dif5, dif6, dif7, dnot, ibeq, ibne, decide_eq_true_eq, if_not2, ge_iff_le, gt_iff_lt, fst_ret, Bool.false_eq_true, decide_false, decide_true, if_true]; split <;> rfl) (by simp [slices_Index_uint32_L1])]
    simp only [bind_ite, Option.bind_some, dif1, dif2, dif3, dif4, dif5, dif6, dif7, dnot, ibeq, ibne, decide_eq_true_eq, if_not2, ge_iff_le, gt_iff_lt, fst_ret, Bool.false_eq_true, decide_false]
  unfold slices_Contains_uint32
  rw [this]
  simp only [bind_ite, Option.bind_some, dif1, dif2, dif3, dif4, dif5, dif6, dif7, dnot, ibeq, ibne, decide_eq_true_eq, if_not2, ge_iff_le, gt_iff_lt, fst_ret, Bool.false_eq_true, decide_false]
  refine sdec ?_
  have := fstI_none_mem (l := l) (P := fun y => x = y)
  constructor
  · intro h
    apply Classical.byContradiction
    intro hn
    have := this.2 (fun y hy e => hn (e ▸ hy)); omega
  · intro h
    apply Classical.byContradiction
    intro hn
    exact this.1 (by omega) x h rfl
/-- How a line's device is told. -/
theorem obegin_spec (hs : SmN n) {k : Int} {Q : Prop} (hb : l.kind = k → ∃ b, stmt_Right l = some b ∧ (b = true → Q ∧ NameP l.dev)) :
    (∃ e : Int, e ≠ 0 ∧ overlay_begin n l k = some (0, e)) ∨ (l.kind = k ∧ Q ∧ RightP n ∧ inL n.devices (devI n l.dev) ∧ overlay_begin n l k = some (devI n l.dev, 0)) := by
  unfold overlay_begin
  by_cases hk : l.kind = k
  case neg => exact .inl ⟨2, by decide, by rw [if_pos (by simpa using hk)]⟩
  rw [if_neg (by simpa using hk)]
  obtain ⟨b, h1, h2⟩ := hb hk
  rw [h1]
  simp only [Option.bind_some]
  cases b with
  | false => exact .inl ⟨2, by decide, rfl⟩
  | true =>
    simp only [Bool.not_true, Bool.false_eq_true, if_false, names_Right_spec hs, names_Device_spec hs, Option.bind_some]
    by_cases hr : RightP n
    case neg => exact .inl ⟨2, by decide, by simp [hr]⟩
    simp only [hr, decide_true, Bool.not_true, Bool.false_eq_true, if_false, if_true]
    by_cases hd : devI n l.dev < 0
    · exact .inl ⟨31, by decide, by rw [if_pos (decide_eq_true hd)]⟩
    · exact .inr ⟨hk, (h2 rfl).1, trivial, fstI_inL.1 (by unfold devI at hd; omega), by rw [if_neg (by simpa using hd)]⟩
theorem eq0 {e : Int} (h : e ≠ 0) : (e != 0) = true := by simpa using h
theorem overlay_Vtep_spec (hs : SmN n) (hd : l.dev.size ≤ 1000000) :
    (∃ e : Int, e ≠ 0 ∧ overlay_Vtep n l = some ([], [], [], [], [], [], [], [], 0, 0, 0, 0, 0, e)) ∨
    (l.kind = 5 ∧ l.addr ≠ 0 ∧ RightP n ∧ inL n.devices (devI n l.dev) ∧ overlay_Vtep n l =
      some (n.devices.set (devI n l.dev).toNat { getI n.devices (devI n l.dev) with vtep := l.addr }, n.ports, n.links, n.domains, n.statics, n.floods, n.vrfs, n.irbs, n.devices.length, n.ports.length, n.domains.length, n.floods.length, n.vrfs.length, 0)) := by
  unfold overlay_Vtep
  rcases obegin_spec hs (l := l) (k := 5) (fun hk => stmt_R5 hk hd) with ⟨e, he, h⟩ | ⟨hk, hq, hr, hi, h⟩
  · exact .inl ⟨e, he, by rw [h]; simp only [Option.bind_some, eq0 he, if_true]⟩
  rw [h]
  simp only [Option.bind_some, bne_self_eq_false, Bool.false_eq_true, if_false, nth_getI hi, overlay_owner_spec hs, names_Copy_spec hs, lin_dec, hi, decide_true, if_true, getI_get? hi]
  by_cases c1 : (getI n.devices (devI n l.dev)).vtep = 0
  case neg => exact .inl ⟨30, by decide, by rw [if_pos (eq0 c1)]⟩
  rw [if_neg (by simpa using c1)]
  by_cases c2 : ownI n l.addr ≥ 0
  · exact .inl ⟨30, by decide, by rw [if_pos (decide_eq_true c2)]⟩
  · exact .inr ⟨hk, hq, hr, trivial, by rw [if_neg (by simpa using c2)]⟩
theorem overlay_Vni_spec (hs : SmN n) (hd : l.dev.size ≤ 1000000) :
    (∃ e : Int, e ≠ 0 ∧ overlay_Vni n l = some ([], [], [], [], [], [], [], [], 0, 0, 0, 0, e)) ∨
    (l.kind = 6 ∧ (1 ≤ l.num ∧ l.num ≤ 16777215) ∧ RightP n ∧ inL n.devices (devI n l.dev) ∧ inL n.domains (domIx n.domains (devI n l.dev) l.vlan) ∧ (getI n.domains (domIx n.domains (devI n l.dev) l.vlan)).vni = 0 ∧
      vniI n (devI n l.dev) l.num < 0 ∧ overlay_Vni n l =
      some (n.devices, n.ports, n.links, n.domains.set (domIx n.domains (devI n l.dev) l.vlan).toNat { getI n.domains (domIx n.domains (devI n l.dev) l.vlan) with vni := l.num, row := l.row }, n.statics, n.floods, n.vrfs, n.irbs, n.ports.length, n.domains.length, n.floods.length, n.vrfs.length, 0)) := by
  unfold overlay_Vni
  rcases obegin_spec hs (l := l) (k := 6) (fun hk => stmt_R6 hk hd) with ⟨e, he, h⟩ | ⟨hk, hq, hr, hi, h⟩
  · exact .inl ⟨e, he, by rw [h]; simp only [Option.bind_some, eq0 he, if_true]⟩
  rw [h]
  simp only [Option.bind_some, bne_self_eq_false, Bool.false_eq_true, if_false, nth_getI hi, names_Domain_spec hs, hr, overlay_find_spec hs, names_Copy_spec hs, if_true]
  generalize hat : domIx n.domains (devI n l.dev) l.vlan = at_
  by_cases c1 : (getI n.devices (devI n l.dev)).vtep = 0
  · exact .inl ⟨35, by decide, by rw [if_pos (by simpa using c1)]⟩
  rw [if_neg (by simpa using c1)]
  by_cases c2 : at_ < 0
  · exact .inl ⟨32, by decide, by rw [if_pos (decide_eq_true c2)]⟩
  rw [if_neg (by simpa using c2)]
  have hk2 : inL n.domains at_ := by rw [← hat]; exact fstI_inL.1 (by unfold domIx at hat; omega)
  simp only [nth_getI hk2, Option.bind_some, lin_dec, inL_setI, hk2, decide_true, if_true, getI_get? hk2]
  by_cases c3 : (getI n.domains at_).vni = 0
  case neg => exact .inl ⟨30, by decide, by rw [if_pos (eq0 c3)]⟩
  rw [if_neg (by simpa using c3)]
  by_cases c4 : vniI n (devI n l.dev) l.num ≥ 0
  · exact .inl ⟨30, by decide, by rw [if_pos (decide_eq_true c4)]⟩
  refine .inr ⟨hk, hq, trivial, hi, trivial, c3, by omega, ?_⟩
  rw [if_neg (by simpa using c4)]
  rw [getI_get? (inL_setI.2 hk2), Option.bind_some, getI_setI hk2 hk2, if_pos rfl, List.set_set]
theorem overlay_Flood_spec (hs : SmN n) (hd : l.dev.size ≤ 1000000) (ha : Few l.addrs) :
    (∃ e : Int, e ≠ 0 ∧ overlay_Flood n l = some ([], [], [], [], [], [], [], [], 0, 0, 0, e)) ∨
    (l.kind = 7 ∧ l.addrs.length ≤ 16 ∧ RightP n ∧ inL n.devices (devI n l.dev) ∧ n.floods.length ≠ 48 ∧ overlay_Flood n l =
      some (n.devices, n.ports, n.links, n.domains, n.statics, n.floods ++ [⟨l.row, devI n l.dev, l.num, l.addrs⟩], n.vrfs, n.irbs, n.ports.length, n.domains.length, n.vrfs.length, 0)) := by
  unfold overlay_Flood
  rcases obegin_spec hs (l := l) (k := 7) (fun hk => stmt_R7 hk hd ha) with ⟨e, he, h⟩ | ⟨hk, hq, hr, hi, h⟩
  · exact .inl ⟨e, he, by rw [h]; simp only [Option.bind_some, eq0 he, if_true]⟩
  rw [h]
  simp only [Option.bind_some, bne_self_eq_false, Bool.false_eq_true, if_false, nth_getI hi, overlay_find_spec hs, overlay_list_spec hs, Contains_u32_spec ha, names_Copy_spec hs, Clone_uint32_spec ha]
  by_cases c1 : vniI n (devI n l.dev) l.num < 0
  · exact .inl ⟨31, by decide, by rw [if_pos (decide_eq_true c1)]⟩
  rw [if_neg (by simpa using c1)]
  by_cases c2 : floodI n (devI n l.dev) l.num ≥ 0
  · exact .inl ⟨30, by decide, by rw [if_pos (decide_eq_true c2)]⟩
  rw [if_neg (by simpa using c2)]
  by_cases c3 : (getI n.devices (devI n l.dev)).vtep ∈ l.addrs
  · exact .inl ⟨36, by decide, by rw [if_pos (decide_eq_true c3)]⟩
  rw [if_neg (by simpa using c3)]
  by_cases c4 : (n.floods.length : Int) = 48
  · exact .inl ⟨3, by decide, by rw [if_pos (by simpa using c4)]⟩
  rw [if_neg (by simpa using c4)]
  have hf := hr.few.2.2.2.2.2.1
  rw [if_pos (roomy_few (by simp; omega))]
  exact .inr ⟨hk, hq.2, hr, hi, by omega, rfl⟩
theorem works19 : palinglaw19_works = some true := by kernel_rfl
theorem overlay_Find_spec (hs : SmN n) {a b : Int} : overlay_Find n a b = some (if RightP n then vniI n a b else -1) := by
  simp only [overlay_Find, names_Right_spec hs, overlay_find_spec hs, Option.bind_some]
  by_cases h : RightP n <;> simp [h]
theorem names_Same_empty : names_Same ⟨[], [], [], [], [], [], [], []⟩ ⟨[], [], [], [], [], [], [], []⟩ = some true := by kernel_rfl
/-- What is small stays so. -/
theorem sm_vtep (hs : SmN n) {k : Nat} {x : Api_Device} : SmN { n with devices := n.devices.set k x } :=
  { hs with devices := by have := hs.devices; unfold Few at *; simpa using this }
theorem sm_dom (hs : SmN n) {k : Nat} {x : Api_Domain} (hx : Few x.peers) : SmN { n with domains := n.domains.set k x } :=
  { hs with domains := (by have := hs.domains; unfold Few at *; simpa using this), peers := fun d hd => (by
      rcases List.mem_or_eq_of_mem_set hd with h | h
      · exact hs.peers d h
      · rw [h]; exact hx) }
theorem sm_flood (hs : SmN n) {x : Api_Flood} (hn : n.floods.length ≤ 1000) (hx : Few x.addrs) : SmN { n with floods := n.floods ++ [x] } :=
  { hs with floods := (by unfold Few; simp; omega), addrs := fun d hd => (by
      rcases List.mem_append.1 hd with h | h
      · exact hs.addrs d h
      · rw [List.mem_singleton] at h; rw [h]; exact hx) }

theorem overlayKeeps (n : Api_Net) (l : Api_Line) (_ : n.Ok) (_ : l.Ok) : palinglaw19_OverlayKeeps n l = some true := by
  simp only [palinglaw19_OverlayKeeps, works19, Great_spec, Option.bind_some, Bool.not_true, Bool.false_eq_true, if_false]
  by_cases hg : BndN n 200 100
  case neg => simp [hg]
  rw [if_neg (by simp [hg])]
  have hs := hg.sm
  have hgf := hg.floods
  by_cases hd : (l.dev.size : Int) > 300
  · rw [if_pos (decide_eq_true hd)]
  rw [if_neg (by simpa using hd)]
  by_cases ha : (l.addrs.length : Int) > 100
  · rw [if_pos (decide_eq_true ha)]
  rw [if_neg (by simpa using ha)]
  have hfa : Few l.addrs := by unfold Few; omega
  have hd2 : l.dev.size ≤ 1000000 := by omega
  have e0 : ((0 : Int) == 0) = true := rfl
  have en : ∀ {e : Int}, e ≠ 0 → (e == 0) = false := fun h => by simpa using h
  rcases overlay_Vtep_spec hs (l := l) hd2 with ⟨e1, he1, h1⟩ | ⟨hk1, hq1, hr1, hi1, h1⟩ <;>
  rcases overlay_Vni_spec hs (l := l) hd2 with ⟨e2, he2, h2⟩ | ⟨hk2, hq2, hr2, hi2, hi2', hz2, hv2, h2⟩ <;>
  rcases overlay_Flood_spec hs (l := l) hd2 hfa with ⟨e3, he3, h3⟩ | ⟨hk3, hq3, hr3, hi3, hf3, h3⟩ <;> (try omega) <;> rw [h1, h2, h3] <;>
  simp only [Option.bind_some, palinglaw19_OverlayKeeps_J1, palinglaw19_OverlayKeeps_J2, palinglaw19_OverlayKeeps_J3, names_Device_spec hs, en, eq0, e0, *, ne_eq, not_false_eq_true, Bool.false_eq_true, if_false, if_true, bne_self_eq_false, names_Same_empty]
  · have hsm := sm_flood hs (x := ⟨l.row, devI n l.dev, l.num, l.addrs⟩) (by omega) hfa
    have hff := hr3.few.2.2.2.2.2.1
    have hR := right_flood hr3 (s := ⟨l.row, devI n l.dev, l.num, l.addrs⟩) ⟨hi3, hq3⟩ (by omega)
    have hw := wr64 (n := (n.floods.length : Int) + 1) (by omega) (by omega)
    have hne : ((((n.floods ++ [(⟨l.row, devI n l.dev, l.num, l.addrs⟩ : Api_Flood)]).length : Nat) : Int) != (n.floods.length : Int) + 1) = false := by simp
    have hsl : slok (n.floods ++ [(⟨l.row, devI n l.dev, l.num, l.addrs⟩ : Api_Flood)]).length 0 (n.floods.length : Int) = true := by rw [slok_dec]; exact decide_eq_true (by simp; omega)
    have hsame : names_Same n n = some true := by rw [names_Same_spec hs]; simp
    rw [rCopy_spec hsm, Option.bind_some]
    simp only [names_Right_spec hsm, hR, hw, hne, hsl, decide_true, Option.bind_some, Bool.not_true, Bool.false_eq_true, if_false, if_true, take_app1]
    show (names_Same n n).bind _ = some true
    rw [hsame]; rfl
  · have hpe := hs.peers _ (getI_mem hi2')
    have hsm := sm_dom hs (k := (domIx n.domains (devI n l.dev) l.vlan).toNat) (x := { getI n.domains (domIx n.domains (devI n l.dev) l.vlan) with vni := l.num, row := l.row }) hpe
    have hR := right_vni hr2 hi2' hz2 hq2.1 hq2.2 (r := l.row)
    have hf : vniI { n with domains := n.domains.set (domIx n.domains (devI n l.dev) l.vlan).toNat { getI n.domains (domIx n.domains (devI n l.dev) l.vlan) with vni := l.num, row := l.row } } (devI n l.dev) l.num = domIx n.domains (devI n l.dev) l.vlan := by
      have hm := fstI_is (l := n.domains) (P := fun d => d.dev = devI n l.dev ∧ d.vlan = l.vlan) hi2'.1
      unfold vniI
      refine (fstI_eq (inL_setI.2 hi2')).2 ⟨?_, fun j hj hlt => ?_⟩
      · simp only
        rw [getI_setI hi2' hi2', if_pos rfl]
        exact ⟨hm.1, rfl, by omega⟩
      · have hj' := inL_setI.1 hj
        rw [getI_setI hi2' hj', if_neg (by omega)]
        exact fstI_none.1 hv2 j hj'
    simp only [names_Right_spec hsm, overlay_Find_spec hsm, hR, hf, names_Domain_spec hs, hr2, decide_true, Option.bind_some, Bool.not_true, Bool.false_eq_true, if_false, if_true, bne_self_eq_false]
  · have hsm := sm_vtep hs (k := (devI n l.dev).toNat) (x := { getI n.devices (devI n l.dev) with vtep := l.addr })
    have hR := right_vtep hr1 hi1 hq1
    have c1 : ¬ devI n l.dev < 0 := by have := hi1.1; omega
    have c2 : ¬ devI n l.dev ≥ (n.devices.length : Int) := by have := hi1.2; omega
    have hi' : inL (n.devices.set (devI n l.dev).toNat { getI n.devices (devI n l.dev) with vtep := l.addr }) (devI n l.dev) := inL_setI.2 hi1
    have hg2 := getI_get? hi'
    rw [getI_setI hi1 hi1, if_pos rfl] at hg2
    simp only [names_Right_spec hsm, hR, c1, c2, lin_dec, hi', hg2, decide_true, decide_false, Option.bind_some, Bool.not_true, Bool.false_eq_true, if_false, if_true, bne_self_eq_false]
end
end Go.Eng
