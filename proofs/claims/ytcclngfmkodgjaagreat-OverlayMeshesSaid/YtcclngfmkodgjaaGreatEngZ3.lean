/- Chapter 19 (overlay): meshes on both sides: OverlayMeshes. -/
import Derived.Test.YtcclngfmkodgjaaGreatEngY5
import Derived.Test.YtcclngfmkodgjaaGreatEngP19f
import Derived.Test.YtcclngfmkodgjaaGreatMAM
set_option linter.unusedVariables false
set_option linter.unusedSectionVars false
set_option linter.unusedSimpArgs false
namespace Go.Eng
open Go Classical
attribute [local congr] ite_cg
section
variable {n : Api_Net}
theorem rAgrees_is (hs : SmN n) {f : Api_Flood} (hf : inL n.devices f.dev) (ha : Few f.addrs) : palingref19_agrees n f = some (decide (AgreeP n f)) := by
  have ha' := ha
  unfold Few at ha'
  unfold palingref19_agrees
  rw [rFind_is hs, Option.bind_some]
  by_cases c0 : 0 ≤ vniI n f.dev f.vni
  case neg => rw [if_pos (decide_eq_true (by omega)), decide_eq_false (fun h => c0 h.1)]
  rw [if_neg (by simp; omega)]
  rw [loop_each (f := palingref19_agrees_L1 n f) f.addrs (fun _ a => GoodA n f a ∧ FarA n f a) (.inl () : Unit ⊕ Unit) (.inr ()) ha (fun i i0 i1 hi => by
    have hw := wr64 (n := i + 1) (by omega) (by omega)
    simp only [palingref19_agrees_L1, i1, nth_getI hi, rOwner_is hs, decide_true, if_true, Option.bind_some]
    by_cases c2 : getI f.addrs i = 0
    · rw [if_pos (by simpa using c2), if_neg (fun h => h.1.2.1 c2)]
    rw [if_neg (by simpa using c2)]
    by_cases c1 : 0 ≤ ownI n (getI f.addrs i)
    case neg => rw [if_pos (decide_eq_true (by omega)), if_neg (fun h => c1 h.1.1)]
    rw [if_neg (by simp; omega), rFind_is hs, Option.bind_some]
    by_cases c3 : 0 ≤ vniI n (ownI n (getI f.addrs i)) f.vni
    case neg => rw [if_pos (decide_eq_true (by omega)), if_neg (fun h => c3 h.1.2.2.1)]
    rw [if_neg (by simp; omega), rList_is hs, Option.bind_some]
    by_cases c4 : 0 ≤ floodI n (ownI n (getI f.addrs i)) f.vni
    case neg => rw [if_pos (decide_eq_true (by omega)), if_neg (fun h => c4 h.1.2.2.2)]
    have hfl : inL n.floods (floodI n (ownI n (getI f.addrs i)) f.vni) := fstI_inL.1 c4
    have hfar := hs.addrs _ (getI_mem hfl)
    rw [if_neg (by simp; omega), Option.bind_some, nth_getI hfl, Option.bind_some, nth_getI hf, Option.bind_some, rHas_is hfar, Option.bind_some]
    by_cases c5 : (getI n.devices f.dev).vtep ∈ (getI n.floods (floodI n (ownI n (getI f.addrs i)) f.vni)).addrs
    case neg => rw [if_pos (by simpa using c5), if_neg (fun h => c5 h.2.1)]
    rw [if_neg (by simpa using c5)]
    rw [loop_each (f := palingref19_agrees_L2 n f i (getI n.floods (floodI n (ownI n (getI f.addrs i)) f.vni))) f.addrs (fun _ b => b = getI f.addrs i ∨ b ∈ farL n f (getI f.addrs i)) (.inl () : Unit ⊕ Unit) (.inr ()) ha (fun j j0 j1 hj => by
      have hw := wr64 (n := j + 1) (by omega) (by omega)
      simp only [palingref19_agrees_L2, j1, nth_getI hj, nth_getI hi, rHas_is hfar, hw, decide_true, if_true, Option.bind_some]
      by_cases d1 : getI f.addrs j = getI f.addrs i
      · rw [if_neg (by simpa using d1), if_pos (.inl d1)]
      rw [if_pos (by simpa using d1)]
      by_cases d2 : getI f.addrs j ∈ (getI n.floods (floodI n (ownI n (getI f.addrs i)) f.vni)).addrs
      · rw [if_neg (by simpa using d2), if_pos (.inr d2)]
      · rw [if_pos (by simpa using d2), if_neg (by rintro (q | q); exact d1 q; exact d2 q)]) (by simp [palingref19_agrees_L2])]
    by_cases d : EachP f.addrs (fun _ b => b = getI f.addrs i ∨ b ∈ farL n f (getI f.addrs i))
    · rw [if_pos d, if_pos ⟨⟨c1, c2, c3, c4⟩, c5, fun b hb => by obtain ⟨j, hj, rfl⟩ := mem_getI hb; exact d j hj⟩]
      simp [hw]
    · rw [if_neg d, if_neg (fun h => d fun j hj => h.2.2 _ (getI_mem hj))]
      rfl) (by simp [palingref19_agrees_L1])]
  by_cases d : EachP f.addrs (fun _ a => GoodA n f a ∧ FarA n f a)
  · rw [if_pos d, decide_eq_true (show AgreeP n f from ⟨c0, fun a ha => by obtain ⟨j, hj, rfl⟩ := mem_getI ha; exact d j hj⟩)]; rfl
  · rw [if_neg d, decide_eq_false (fun h : AgreeP n f => d fun j hj => h.2 _ (getI_mem hj))]; rfl
theorem rmesh_loop (hs : SmN n) {p : List Api_Port} {q : List Api_Flood} {r : List Api_Vrf} : loopM (fun s : (List Api_Domain) × Int => match s with | (l24, v25) => palingref19_Mesh_L2 n p q r l24 v25) (n.domains, 0) = some (n.domains.map (meshF n)) := by
  have hdf := hs.domains
  refine loop_setmap n.domains (meshF n) id hs.domains (fun m x hm x0 x1 hx hg => ?_) (fun m => by simp [palingref19_Mesh_L2])
  have hw := wr64 (n := x + 1) (by omega) (by unfold Few at hdf; omega)
  have hxm : inL m x := ⟨x0, by omega⟩
  simp only [palingref19_Mesh_L2, x1, rList_is hs, lin_dec, hxm, getI_get? hxm, hg, hw, decide_true, if_true, Option.bind_some]
  by_cases c1 : (getI n.domains x).vni = 0
  · rw [if_pos (by simpa using c1)]
    unfold meshF peersF
    rw [if_neg (fun h => h.1 c1)]
  rw [if_neg (by simpa using c1)]
  by_cases c2 : 0 ≤ floodI n (getI n.domains x).dev (getI n.domains x).vni
  case neg =>
    rw [if_pos (decide_eq_true (by omega))]
    unfold meshF peersF
    rw [if_neg (fun h => c2 h.2)]
  rw [if_neg (by simp; omega)]
  have hfl' : inL n.floods (floodI n (getI n.domains x).dev (getI n.domains x).vni) := fstI_inL.1 c2
  have hff := hs.addrs _ (getI_mem hfl')
  have hin : loopM (fun s : (List Int) × Int => match s with | (l36, v37) => palingref19_Mesh_L3 n p q r m x (getI n.domains x) (getI n.domains x) (floodI n (getI n.domains x).dev (getI n.domains x).vni) l36 v37) ([], 0) = some (peersF n (getI n.domains x)) := by
    unfold peersF
    rw [if_pos ⟨c1, c2⟩]
    refine loop_putmap (getI n.floods (floodI n (getI n.domains x).dev (getI n.domains x).vni)).addrs (fun a => vniI n (ownI n a) (getI n.domains x).vni) id hff (fun y z z0 z1 hz hq => ?_) (fun y => by simp [palingref19_Mesh_L3, nth_getI hfl'])
    have hff' := hff
    unfold Few at hff'
    have hw2 := wr64 (n := z + 1) (by omega) (by omega)
    have hro : roomy 8 (y ++ [vniI n (ownI n (getI (getI n.floods (floodI n (getI n.domains x).dev (getI n.domains x).vni)).addrs z)) (getI n.domains x).vni]) = true := roomy_few (by simp; omega)
    simp only [palingref19_Mesh_L3, nth_getI hfl', z1, lin_dec, hxm, nth_getI hz, rOwner_is hs, rFind_is hs, hro, hw2, decide_true, if_true, Option.bind_some]
  rw [hin]
  rfl
abbrev MeT := (List Api_Device) × (List Api_Port) × (List Api_Link) × (List Api_Domain) × (List Api_Static) × (List Api_Flood) × (List Api_Vrf) × (List Api_Irb) × Nat × Nat × Nat × Nat × Int × Int
def badMe (row e : Int) : MeT := ([], [], [], [], [], [], [], [], 0, 0, 0, 0, row, e)
noncomputable def meR (n : Api_Net) : MeT :=
  if ¬ RightP n then badMe 0 2
  else if 0 ≤ fstI n.floods (fun f => ¬ AgreeP n f) then badMe (getI n.floods (fstI n.floods fun f => ¬ AgreeP n f)).row 36
  else if ¬ RightP (meshN n) then badMe 0 36
  else (n.devices, n.ports, n.links, n.domains.map (meshF n), n.statics, n.floods, n.vrfs, n.irbs, n.ports.length, n.domains.length, n.floods.length, n.vrfs.length, 0, 0)
theorem mesh_is (hs : SmN n) : overlay_Mesh n = some (meR n) := by
  have hff := hs.floods
  have h1 : names_Right ⟨n.devices, n.ports, n.links, n.domains.map (meshF n), n.statics, n.floods, n.vrfs, n.irbs⟩ = some (decide (RightP (meshN n))) := names_Right_spec (sm_mesh hs)
  unfold overlay_Mesh meR
  rw [names_Right_spec hs, Option.bind_some]
  by_cases hr : RightP n
  case neg => rw [if_pos (by simpa using hr), if_pos hr]; rfl
  rw [if_neg (by simpa using hr), if_neg (fun h => h hr)]
  rw [loop_firstv (f := overlay_Mesh_L1 n) n.floods (fun f => ¬ AgreeP n f) (fun _ f => f.row) hs.floods (fun i i0 i1 hi => by
    have hw := wr64 (n := i + 1) (by omega) (by unfold Few at hff; omega)
    simp only [overlay_Mesh_L1, i1, nth_getI hi, agrees_spec hs (hr.floods i hi).1 (hs.addrs _ (getI_mem hi)), hw, decide_true, if_true, Option.bind_some]
    by_cases c : AgreeP n (getI n.floods i) <;> simp [c]) (by simp [overlay_Mesh_L1])]
  by_cases ha : 0 ≤ fstI n.floods (fun f => ¬ AgreeP n f)
  · rw [if_pos ha, if_pos ha]; rfl
  rw [if_neg ha, if_neg ha]
  simp only [Option.bind_some, names_Copy_spec hs, mesh_loop hs, h1]
  by_cases hm : RightP (meshN n)
  · simp only [hm, decide_true, Bool.not_true, Bool.false_eq_true, if_false, not_true_eq_false]
  · simp only [hm, decide_false, Bool.not_false, if_true, not_false_eq_true]; rfl
theorem rMesh_is (hs : SmN n) : palingref19_Mesh n = some (meR n) := by
  have hff := hs.floods
  have h1 : palingref15_Right ⟨n.devices, n.ports, n.links, n.domains.map (meshF n), n.statics, n.floods, n.vrfs, n.irbs⟩ = some (decide (RightP (meshN n))) := rRight_spec (sm_mesh hs)
  unfold palingref19_Mesh meR
  rw [rRight_spec hs, Option.bind_some]
  by_cases hr : RightP n
  case neg => rw [if_pos (by simpa using hr), if_pos hr]; rfl
  rw [if_neg (by simpa using hr), if_neg (fun h => h hr)]
  rw [loop_firstv (f := palingref19_Mesh_L1 n) n.floods (fun f => ¬ AgreeP n f) (fun _ f => f.row) hs.floods (fun i i0 i1 hi => by
    have hw := wr64 (n := i + 1) (by omega) (by unfold Few at hff; omega)
    simp only [palingref19_Mesh_L1, i1, nth_getI hi, rAgrees_is hs (hr.floods i hi).1 (hs.addrs _ (getI_mem hi)), hw, decide_true, if_true, Option.bind_some]
    by_cases c : AgreeP n (getI n.floods i) <;> simp [c]) (by simp [palingref19_Mesh_L1])]
  by_cases ha : 0 ≤ fstI n.floods (fun f => ¬ AgreeP n f)
  · rw [if_pos ha, if_pos ha]; rfl
  rw [if_neg ha, if_neg ha]
  simp only [Option.bind_some, rCopy_spec hs, rmesh_loop hs, h1]
  by_cases hm : RightP (meshN n)
  · simp only [hm, decide_true, Bool.not_true, Bool.false_eq_true, if_false, not_true_eq_false]
  · simp only [hm, decide_false, Bool.not_false, if_true, not_false_eq_true]; rfl
theorem meR_ok (hs : SmN n) : (∃ row e, meR n = badMe row e) ∨ meR n = (n.devices, n.ports, n.links, n.domains.map (meshF n), n.statics, n.floods, n.vrfs, n.irbs, n.ports.length, n.domains.length, n.floods.length, n.vrfs.length, 0, 0) := by
  unfold meR
  split
  · exact .inl ⟨_, _, rfl⟩
  · split
    · exact .inl ⟨_, _, rfl⟩
    · split
      · exact .inl ⟨_, _, rfl⟩
      · exact .inr rfl
end
theorem overlayMeshes (n : Api_Net) (dev vni : Int) (_ : n.Ok) (_ : okI .i64 dev) (_ : okI .i64 vni) : palinglaw19_OverlayMeshes n dev vni = some true := by
  simp only [palinglaw19_OverlayMeshes, Great_spec, Option.bind_some, works19]
  by_cases hg : BndN n 200 100
  case neg => simp [hg]
  have hs := hg.sm
  simp only [hg, not_true_eq_false, decide_false, Bool.false_eq_true, if_false]
  rw [mesh_is hs, rMesh_is hs]
  have e1 : palingref15_Same ⟨(meR n).1, (meR n).2.1, (meR n).2.2.1, (meR n).2.2.2.1, (meR n).2.2.2.2.1, (meR n).2.2.2.2.2.1, (meR n).2.2.2.2.2.2.1, (meR n).2.2.2.2.2.2.2.1⟩ ⟨(meR n).1, (meR n).2.1, (meR n).2.2.1, (meR n).2.2.2.1, (meR n).2.2.2.2.1, (meR n).2.2.2.2.2.1, (meR n).2.2.2.2.2.2.1, (meR n).2.2.2.2.2.2.2.1⟩ = some true := by
    rcases meR_ok hs with ⟨r, e, h⟩ | h
    · rw [h]; exact rsame_none
    · rw [h]; exact (rSame_spec (sm_mesh hs) (b := meshN n)).trans (by simp)
  simp only [Option.bind_some, palinglaw19_OverlayMeshes_J1, rRight_spec hs, rFind_is hs, overlay_Find_spec hs]
  by_cases hr : RightP n
  · simp only [hr, decide_true, if_true, Option.bind_some, e1, beq_self_eq_true]
  · simp only [hr, decide_false, Bool.false_eq_true, if_false, Option.bind_some, e1, beq_self_eq_true, if_true]
end Go.Eng
