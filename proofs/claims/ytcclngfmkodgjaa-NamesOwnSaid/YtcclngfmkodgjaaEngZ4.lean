/- Chapter 15 (names): what is written into a copy: NamesOwn. -/
import Derived.Test.YtcclngfmkodgjaaEngGP1
import Derived.Test.YtcclngfmkodgjaaMAM
set_option linter.unusedVariables false
set_option linter.unusedSectionVars false
set_option linter.unusedSimpArgs false
namespace Go.Eng
open Go Classical
attribute [local congr] ite_cg
theorem pmis_is {p : List Bool} {i : Nat} {b : Bool} (h : p[i]? = some b) : pmis p i b = true := by
  unfold pmis; rw [h]; simp
theorem rep_set {n i : Nat} (h : i < n) : (List.replicate i true ++ List.replicate (n - i) false).set i true = List.replicate (i + 1) true ++ List.replicate (n - (i + 1)) false := by
  rw [List.set_append_right _ _ (by simp)]
  rw [show n - i = (n - (i + 1)) + 1 by omega, List.replicate_succ]
  simp only [List.length_replicate, Nat.sub_self, List.set_cons_zero]
  rw [List.replicate_succ', List.append_assoc]
  rfl
theorem rep_set_true {n i : Nat} : (List.replicate n true).set i true = List.replicate n true := by
  apply List.ext_getElem?
  intro k
  rw [List.getElem?_set]
  split
  · rename_i h
    subst h
    simp only [List.length_replicate, List.getElem?_replicate]
  · rfl
theorem loop_own {α ρ : Type} [Inhabited α] {f : List α × List Bool × Int → Option ((List α × List Bool × Int) ⊕ ρ)} (l : List α) (out : List α × List Bool → ρ) (hb : Few l)
    (h1 : ∀ (p : List Bool) (i : Int), 0 ≤ i → i < l.length → inL l i → pmis p i.toNat false = true → f (l, p, i) = some (.inl (l, p.set i.toNat true, i + 1))) (h2 : ∀ p, f (l, p, l.length) = some (.inr (out (l, p)))) :
    loopM f (l, List.replicate l.length false, 0) = some (out (l, List.replicate l.length true)) := by
  have hb' := hb
  unfold Few at hb'
  have := loopM_trace (f := f) (fun i => (l, List.replicate i true ++ List.replicate (l.length - i) false, (i : Int))) l.length (r := out (l, List.replicate l.length true)) (by omega) (fun i hi => by
    rw [h1 _ (i : Int) (by omega) (by omega) ⟨by omega, by omega⟩ (pmis_is (by
      rw [List.getElem?_append_right (by simp)]
      simp only [Int.toNat_natCast, List.length_replicate, Nat.sub_self]
      rw [List.getElem?_replicate, if_pos (by omega)]))]
    simp only [Int.toNat_natCast]
    rw [rep_set hi]
    simp) (by
    simp only [Nat.sub_self, List.replicate_zero, List.append_nil]
    exact h2 _)
  simpa using this
theorem loop_setown {α ρ : Type} [Inhabited α] {f : List α × List Bool × Int → Option ((List α × List Bool × Int) ⊕ ρ)} (l : List α) (g : α → α) (out : List α × List Bool → ρ) (hb : Few l)
    (h1 : ∀ (m : List α) (i : Int), m.length = l.length → 0 ≤ i → i < l.length → inL l i → getI m i = getI l i → pmis (List.replicate l.length true) i.toNat true = true → f (m, List.replicate l.length true, i) = some (.inl (m.set i.toNat (g (getI l i)), List.replicate l.length true, i + 1))) (h2 : ∀ m, f (m, List.replicate l.length true, l.length) = some (.inr (out (m, List.replicate l.length true)))) :
    loopM f (l, List.replicate l.length true, 0) = some (out (l.map g, List.replicate l.length true)) := by
  have hb' := hb
  unfold Few at hb'
  have hlen : ∀ i, i ≤ l.length → ((l.take i).map g ++ l.drop i).length = l.length := fun i hi => by simp; omega
  have := loopM_trace (f := f) (fun i => ((l.take i).map g ++ l.drop i, List.replicate l.length true, (i : Int))) l.length (r := out (l.map g, List.replicate l.length true)) (by omega) (fun i hi => by
    have hin : inL l (i : Int) := ⟨by omega, by omega⟩
    have hd : l.drop i = getI l (i : Int) :: l.drop (i + 1) := by
      have h := getI_get? hin
      obtain ⟨h1, h2⟩ := List.getElem?_eq_some_iff.1 h
      rw [← h2]; simp
    have hl1 : ((l.take i).map g).length = i := by simp; omega
    have hg : getI ((l.take i).map g ++ l.drop i) (i : Int) = getI l (i : Int) := by
      rw [hd]
      unfold getI
      simp only [Int.toNat_natCast]
      rw [List.getElem?_append_right (by omega), hl1]; simp
    rw [h1 _ (i : Int) (hlen i (by omega)) (by omega) (by omega) hin hg (pmis_is (by
      rw [List.getElem?_replicate, if_pos (by simpa using hi)]))]
    simp only [Int.toNat_natCast]
    congr 3
    rw [List.set_append_right _ _ (by omega), hl1, hd, take_succ_get hi]
    simp) (by
    simp only [List.take_length, List.drop_length, List.append_nil]
    exact h2 _)
  simpa using this
section
variable {n : Api_Net}
theorem names_Copy_dp_spec {a : Api_Net} (hs : SmN a) : names_Copy_dp a = some (a.devices, a.ports, a.links, a.domains, a.statics, a.floods, a.vrfs, a.irbs, List.replicate a.ports.length true, a.ports.length, List.replicate a.domains.length true, a.domains.length, List.replicate a.floods.length true, a.floods.length, List.replicate a.vrfs.length true, a.vrfs.length) := by
  simp only [names_Copy_dp, Clone_Device_spec hs.devices, Clone_Port_spec hs.ports, Clone_Link_spec hs.links, Clone_Domain_spec hs.domains, Clone_Static_spec hs.statics, Clone_Flood_spec hs.floods, Clone_Vrf_spec hs.vrfs, Clone_Irb_spec hs.irbs, Option.bind_some]
  rw [loop_own a.ports id hs.ports (fun p i h0 h1 h2 h3 => by
    have := hs.ports
    have hw := wr64 (n := i + 1) (by omega) (by omega)
    simp only [names_Copy_dp_L1, h1, h3, lin_dec, h2, getI_get? h2, Clone_int_spec (hs.tagged _ (getI_mem h2)), decide_true, if_true, Option.bind_some, hw]
    rw [set_getI h2]) (fun p => by simp [names_Copy_dp_L1])]
  simp only [id, Option.bind_some]
  rw [loop_own a.domains id hs.domains (fun p i h0 h1 h2 h3 => by
    have := hs.domains
    have hw := wr64 (n := i + 1) (by omega) (by omega)
    simp only [names_Copy_dp_L2, h1, h3, lin_dec, h2, getI_get? h2, Clone_int_spec (hs.peers _ (getI_mem h2)), decide_true, if_true, Option.bind_some, hw]
    rw [set_getI h2]) (fun p => by simp [names_Copy_dp_L2])]
  simp only [id, Option.bind_some]
  rw [loop_own a.floods id hs.floods (fun p i h0 h1 h2 h3 => by
    have := hs.floods
    have hw := wr64 (n := i + 1) (by omega) (by omega)
    simp only [names_Copy_dp_L3, h1, h3, lin_dec, h2, getI_get? h2, Clone_uint32_spec (hs.addrs _ (getI_mem h2)), decide_true, if_true, Option.bind_some, hw]
    rw [set_getI h2]) (fun p => by simp [names_Copy_dp_L3])]
  simp only [id, Option.bind_some]
  rw [loop_own a.vrfs id hs.vrfs (fun p i h0 h1 h2 h3 => by
    have := hs.vrfs
    have hw := wr64 (n := i + 1) (by omega) (by omega)
    simp only [names_Copy_dp_L4, h1, h3, lin_dec, h2, getI_get? h2, Clone_int_spec (hs.imports _ (getI_mem h2)), Clone_int_spec (hs.exports _ (getI_mem h2)), decide_true, if_true, Option.bind_some, hw]
    rw [set_getI h2]) (fun p => by simp [names_Copy_dp_L4])]
  simp only [id, Option.bind_some]
def incL (l : List Int) : List Int := l.map fun x => wr_i64 (x + 1)
theorem inc_loop {f : List Int × Int → Option ((List Int × Int) ⊕ List Int)} (l : List Int) (hb : Few l)
    (h1 : ∀ (m : List Int) (i : Int), 0 ≤ i → i < l.length → inL m i → f (m, i) = some (.inl (m.set i.toNat (wr_i64 (getI m i + 1)), i + 1))) (h2 : ∀ m, f (m, l.length) = some (.inr m)) :
    loopM f (l, 0) = some (incL l) :=
  loop_setmap l (fun x => wr_i64 (x + 1)) id hb (fun m i hm i0 i1 hi hg => by
    rw [h1 m i i0 i1 ⟨i0, by omega⟩, hg]) h2
theorem works15z : palinglaw15_works = some true := by kernel_rfl
theorem namesOwn (n : Api_Net) (_ : n.Ok) : palinglaw15_NamesOwn n = some true := by
  unfold palinglaw15_NamesOwn
  rw [works15z, Option.bind_some, if_neg (by simp), Great_spec, Option.bind_some]
  by_cases hg : BndN n 200 100
  case neg => rw [if_pos (by simpa using hg)]
  have hs := hg.sm
  rw [if_neg (by simpa using hg), names_Copy_spec hs]
  have hc : names_Copy_dp ⟨n.devices, n.ports, n.links, n.domains, n.statics, n.floods, n.vrfs, n.irbs⟩ = _ := names_Copy_dp_spec hs
  simp only [Option.bind_some, hc]
  rw [loop_setmap n.devices (fun d => ({ d with priority := wr_i64 (d.priority + 1) } : Api_Device)) id hs.devices (fun m i hm i0 i1 hi hq => by
    have := hs.devices
    have hw := wr64 (n := i + 1) (by omega) (by omega)
    have him : inL m i := ⟨i0, by omega⟩
    simp only [palinglaw15_NamesOwn_L1, i1, lin_dec, him, getI_get? him, hq, hw, decide_true, if_true, Option.bind_some]) (fun m => by simp [palinglaw15_NamesOwn_L1])]
  simp only [id, Option.bind_some]
  rw [loop_setown n.ports (fun p => ({ p with native := wr_i64 (p.native + 1), tagged := incL p.tagged } : Api_Port)) id hs.ports (fun m i hm i0 i1 hi hq hp => by
    have := hs.ports
    have hw := wr64 (n := i + 1) (by omega) (by omega)
    have him : inL m i := ⟨i0, by omega⟩
    have hfw := hs.tagged _ (getI_mem hi)
    have hfw' := hfw
    unfold Few at hfw'
    simp only [palinglaw15_NamesOwn_L2, i1, hp, lin_dec, him, getI_get? him, hq, hw, decide_true, if_true, Option.bind_some]
    rw [inc_loop (getI n.ports i).tagged hfw (fun q k k0 k1 hk => by
      have hw2 := wr64 (n := k + 1) (by omega) (by omega)
      simp only [palinglaw15_NamesOwn_L3, k1, lin_dec, him, hk, getI_get? hk, hw2, decide_true, if_true, Option.bind_some]) (fun q => by simp [palinglaw15_NamesOwn_L3])]
    simp only [Option.bind_some, rep_set_true]) (fun m => by simp [palinglaw15_NamesOwn_L2])]
  simp only [id, Option.bind_some]
  rw [loop_setown n.domains (fun p => ({ p with vlan := wr_i64 (p.vlan + 1), peers := incL p.peers } : Api_Domain)) id hs.domains (fun m i hm i0 i1 hi hq hp => by
    have := hs.domains
    have hw := wr64 (n := i + 1) (by omega) (by omega)
    have him : inL m i := ⟨i0, by omega⟩
    have hfw := hs.peers _ (getI_mem hi)
    have hfw' := hfw
    unfold Few at hfw'
    simp only [palinglaw15_NamesOwn_L4, i1, hp, lin_dec, him, getI_get? him, hq, hw, decide_true, if_true, Option.bind_some]
    rw [inc_loop (getI n.domains i).peers hfw (fun q k k0 k1 hk => by
      have hw2 := wr64 (n := k + 1) (by omega) (by omega)
      simp only [palinglaw15_NamesOwn_L5, k1, lin_dec, him, hk, getI_get? hk, hw2, decide_true, if_true, Option.bind_some]) (fun q => by simp [palinglaw15_NamesOwn_L5])]
    simp only [Option.bind_some, rep_set_true]) (fun m => by simp [palinglaw15_NamesOwn_L4])]
  simp only [id, Option.bind_some]
  rw [loop_setown n.vrfs (fun p => ({ p with dev := wr_i64 (p.dev + 1), imports := incL p.imports } : Api_Vrf)) (fun _ => ()) hs.vrfs (fun m i hm i0 i1 hi hq hp => by
    have := hs.vrfs
    have hw := wr64 (n := i + 1) (by omega) (by omega)
    have him : inL m i := ⟨i0, by omega⟩
    have hfw := hs.imports _ (getI_mem hi)
    have hfw' := hfw
    unfold Few at hfw'
    simp only [palinglaw15_NamesOwn_L6, i1, hp, lin_dec, him, getI_get? him, hq, hw, decide_true, if_true, Option.bind_some]
    rw [inc_loop (getI n.vrfs i).imports hfw (fun q k k0 k1 hk => by
      have hw2 := wr64 (n := k + 1) (by omega) (by omega)
      simp only [palinglaw15_NamesOwn_L7, k1, lin_dec, him, hk, getI_get? hk, hw2, decide_true, if_true, Option.bind_some]) (fun q => by simp [palinglaw15_NamesOwn_L7])]
    simp only [Option.bind_some, rep_set_true]) (fun m => by simp [palinglaw15_NamesOwn_L6])]
  simp only [Option.bind_some]
  rw [names_Same_spec hs]
  simp
end
end Go.Eng
