/- Plain laws of chapter 19 (overlay): meshes are full: OverlayFull. -/
import Derived.Test.YtgemllooojijnaaEngP19f
set_option linter.unusedVariables false
set_option linter.unusedSectionVars false
set_option linter.unusedSimpArgs false
namespace Go.Eng
open Go Classical
attribute [local congr] ite_cg
theorem overlayFull (n : Api_Net) (_ : n.Ok) : palinglaw19_OverlayFull n = some true := by
  unfold palinglaw19_OverlayFull
  rw [works19, Option.bind_some, if_neg (by simp), Great_spec, Option.bind_some]
  by_cases hg : BndN n 200 100
  case neg => rw [if_pos (by simpa using hg)]
  rw [if_neg (by simpa using hg)]
  have hs := hg.sm
  have hgd := hg.domains
  rcases mesh_spec hs with ⟨row, e, he, h⟩ | ⟨hr, ha, hm⟩
  · rw [h]
    simp only [Option.bind_some]
    rw [if_pos (by simpa using he), names_Same_nil]; rfl
  have hsm := sm_mesh hs
  have hA := mesh_all hs hr ha hm
  have hB := mesh_all hsm hm (fun f hf => mesh_agreeP (ha f hf)) (by
    have : meshN (meshN n) = meshN n := by
      show ({ meshN n with domains := (meshN n).domains.map (meshF (meshN n)) } : Api_Net) = _
      rw [mesh_again]; rfl
    rw [this]; exact hm)
  rw [mesh_again] at hB
  have hB' : overlay_Mesh ⟨n.devices, n.ports, n.links, n.domains.map (meshF n), n.statics, n.floods, n.vrfs, n.irbs⟩ = some (n.devices, n.ports, n.links, n.domains.map (meshF n), n.statics, n.floods, n.vrfs, n.irbs, n.ports.length, (meshN n).domains.length, n.floods.length, n.vrfs.length, 0, 0) := hB
  have hR : names_Right ⟨n.devices, n.ports, n.links, n.domains.map (meshF n), n.statics, n.floods, n.vrfs, n.irbs⟩ = some true := by
    have := names_Right_spec hsm
    rw [decide_eq_true hm] at this
    exact this
  have hSame : names_Same ⟨n.devices, n.ports, n.links, n.domains.map (meshF n), n.statics, n.floods, n.vrfs, n.irbs⟩ ⟨n.devices, n.ports, n.links, n.domains.map (meshF n), n.statics, n.floods, n.vrfs, n.irbs⟩ = some true := by
    have := names_Same_spec hsm (b := meshN n)
    rw [decide_eq_true rfl] at this
    exact this
  rw [hA]
  simp only [Option.bind_some, bne_self_eq_false, Bool.false_eq_true, if_false, hR, hB', hSame, Bool.not_true]
  have hloop : loopM (palinglaw19_OverlayFull_L1 n.devices n.ports n.links (n.domains.map (meshF n)) n.statics n.floods n.vrfs n.irbs n.ports.length n.domains.length n.floods.length n.vrfs.length) 0 = some (.inr ()) := by
    have hlen : (n.domains.map (meshF n)).length = n.domains.length := by simp
    have hmd : ∀ {i}, inL n.domains i → inL (n.domains.map (meshF n)) i := fun hi => ⟨hi.1, by rw [hlen]; exact hi.2⟩
    have hpf : ∀ {i}, inL n.domains i → Few (meshF n (getI n.domains i)).peers := fun hi => peers_len hs
    rw [loop_pass (f := palinglaw19_OverlayFull_L1 n.devices n.ports n.links (n.domains.map (meshF n)) n.statics n.floods n.vrfs n.irbs n.ports.length n.domains.length n.floods.length n.vrfs.length) n.domains (Sum.inr () : Unit ⊕ Unit) (by unfold Few; omega) (fun i i0 i1 hi => ?_) (by simp [palinglaw19_OverlayFull_L1])]
    have hw := wr64 (n := i + 1) (by omega) (by omega)
    have hi' := hmd hi
    simp only [palinglaw19_OverlayFull_L1, i1, lin_dec, hi', getI_get? hi', getI_mesh hi, decide_true, if_true, Option.bind_some]
    have hfp := hpf hi
    have hfp' := hfp
    unfold Few at hfp'
    have hP : ∀ j, inL (meshF n (getI n.domains i)).peers j → PeerP (meshN n) i (meshF n (getI n.domains i)) (getI (meshF n (getI n.domains i)).peers j) := fun j hj => by
      have hp := hm.peers i hi'
      have hg2 : getI (meshN n).domains i = meshF n (getI n.domains i) := getI_mesh hi
      rw [hg2] at hp
      exact (hp j hj).1
    rw [loop_pass (f := palinglaw19_OverlayFull_L2 n.devices n.ports n.links (n.domains.map (meshF n)) n.statics n.floods n.vrfs n.irbs n.ports.length n.domains.length n.floods.length n.vrfs.length i (meshF n (getI n.domains i))) (meshF n (getI n.domains i)).peers (Sum.inr () : Unit ⊕ Unit) hfp (fun j j0 j1 hj => ?_) (by simp [palinglaw19_OverlayFull_L2])]
    · simp only [Option.bind_some, hw]
    obtain ⟨q1, q2, q3, q4, q5, q6, q7, q8, q9⟩ := hP j hj
    have hw2 := wr64 (n := j + 1) (by omega) (by omega)
    generalize hkk : getI (meshF n (getI n.domains i)).peers j = k at *
    have q1' : inL (n.domains.map (meshF n)) k := q1
    have hk0 : inL n.domains k := ⟨q1'.1, by have := q1'.2; rw [hlen] at this; exact this⟩
    have hgk : getI (meshN n).domains k = meshF n (getI n.domains k) := getI_mesh hk0
    rw [hgk] at q4 q5 q9
    have c1 : ¬ k < 0 := by have := hk0.1; omega
    have c2 : ¬ k ≥ (n.domains.length : Int) := by have := hk0.2; omega
    have c3 : ((meshF n (getI n.domains k)).vni != (meshF n (getI n.domains i)).vni) = false := by rw [q5]; simp
    have c4 : ((meshF n (getI n.domains k)).dev == (meshF n (getI n.domains i)).dev) = false := by simpa using q4
    simp only [palinglaw19_OverlayFull_L2, j1, nth_getI hj, hkk, c1, c2, lin_dec, q1', getI_get? q1', getI_mesh hk0, has_spec (hpf hk0), q9, c3, c4, decide_true, decide_false, Bool.not_true, Bool.false_eq_true, if_true, if_false, Option.bind_some]
    rw [loop_pass (f := palinglaw19_OverlayFull_L3 n.devices n.ports n.links (n.domains.map (meshF n)) n.statics n.floods n.vrfs n.irbs n.ports.length n.domains.length n.floods.length n.vrfs.length i (meshF n (getI n.domains i)) j k) (meshF n (getI n.domains i)).peers (Sum.inr () : Unit ⊕ Unit) hfp (fun y y0 y1 hy => ?_) (by simp [palinglaw19_OverlayFull_L3])]
    · simp only [Option.bind_some, hw2]
    have hw3 := wr64 (n := y + 1) (by omega) (by omega)
    simp only [palinglaw19_OverlayFull_L3, y1, nth_getI hy, lin_dec, q1', getI_get? q1', getI_mesh hk0, has_spec (hpf hk0), hw3, decide_true, if_true, Option.bind_some]
    by_cases c : getI (meshF n (getI n.domains i)).peers y = k
    · rw [if_neg (by simpa using c)]
    · rw [if_pos (by simpa using c)]
      have hkm : k ∈ peersF n (getI n.domains i) := by rw [← hkk]; exact getI_mem hj
      have hx := (mesh_clique hs ha hkm (getI_mem hy) c).2
      have hx' : getI (meshF n (getI n.domains i)).peers y ∈ (meshF n (getI n.domains k)).peers := hx
      simp only [hx', decide_true, Bool.not_true, Bool.false_eq_true, if_false]
  rw [hloop]
  rfl
end Go.Eng
