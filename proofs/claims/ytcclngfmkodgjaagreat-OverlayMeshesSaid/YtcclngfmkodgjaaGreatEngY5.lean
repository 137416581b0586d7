/- Chapter 19 (overlay): VTEPs, VNIs and flood lists put on both sides: OverlayPuts. -/
import Derived.Test.YtcclngfmkodgjaaGreatEngY4
import Derived.Test.YtcclngfmkodgjaaGreatEngGP19a
set_option linter.unusedVariables false
set_option linter.unusedSectionVars false
set_option linter.unusedSimpArgs false
namespace Go.Eng
open Go Classical
attribute [local congr] ite_cg
section
variable {n : Api_Net} {l : Api_Line} {k : Int} {LP : Prop}
theorem rFind_is (hs : SmN n) {a b : Int} : palingref19_Find n a b = some (vniI n a b) := by
  unfold palingref19_Find
  rw [loop_first (f := palingref19_Find_L1 n a b) n.domains (fun d => d.dev = a ∧ d.vni = b ∧ b ≠ 0) hs.domains (fun i h0 h1 h2 => by
    have hf := hs.domains
    have hw := wr64 (n := i + 1) (by omega) (by unfold Few at hf; omega)
    simp only [palingref19_Find_L1, h1, nth_getI h2, hw, decide_true, if_true, Option.bind_some]
    by_cases c1 : (getI n.domains i).dev = a <;> by_cases c2 : (getI n.domains i).vni = b <;> by_cases c3 : b = 0 <;> simp [c1, c2, c3]) (by simp [palingref19_Find_L1])]
  show Option.bind (if 0 ≤ vniI n a b then some (Sum.inl (vniI n a b)) else some (Sum.inr ())) _ = _
  by_cases c : 0 ≤ vniI n a b
  · rw [if_pos c]; rfl
  · rw [if_neg c]
    show some (-1) = some (vniI n a b)
    rcases fstI_cases (l := n.domains) (P := fun d => d.dev = a ∧ d.vni = b ∧ b ≠ 0) with h | h
    · rw [show vniI n a b = -1 from h.1]
    · exact absurd h.1.1 c
theorem rOwner_is (hs : SmN n) {a : Int} : palingref19_Owner n a = some (ownI n a) := by
  unfold palingref19_Owner
  rw [loop_first (f := palingref19_Owner_L1 n a) n.devices (fun d => d.vtep = a) hs.devices (fun i h0 h1 h2 => by
    have hf := hs.devices
    have hw := wr64 (n := i + 1) (by omega) (by unfold Few at hf; omega)
    simp only [palingref19_Owner_L1, h1, nth_getI h2, hw, decide_true, if_true, Option.bind_some]
    by_cases c1 : (getI n.devices i).vtep = a <;> simp [c1]) (by simp [palingref19_Owner_L1])]
  show Option.bind (if 0 ≤ ownI n a then some (Sum.inl (ownI n a)) else some (Sum.inr ())) _ = _
  by_cases c : 0 ≤ ownI n a
  · rw [if_pos c]; rfl
  · rw [if_neg c]
    show some (-1) = some (ownI n a)
    rcases fstI_cases (l := n.devices) (P := fun d => d.vtep = a) with h | h
    · rw [show ownI n a = -1 from h.1]
    · exact absurd h.1.1 c
theorem rList_is (hs : SmN n) {a b : Int} : palingref19_list n a b = some (floodI n a b) := by
  unfold palingref19_list
  rw [loop_first (f := palingref19_list_L1 n a b) n.floods (fun f => f.dev = a ∧ f.vni = b) hs.floods (fun i h0 h1 h2 => by
    have hf := hs.floods
    have hw := wr64 (n := i + 1) (by omega) (by unfold Few at hf; omega)
    simp only [palingref19_list_L1, h1, nth_getI h2, hw, decide_true, if_true, Option.bind_some]
    by_cases c1 : (getI n.floods i).dev = a <;> by_cases c2 : (getI n.floods i).vni = b <;> simp [c1, c2]) (by simp [palingref19_list_L1])]
  show Option.bind (if 0 ≤ floodI n a b then some (Sum.inl (floodI n a b)) else some (Sum.inr ())) _ = _
  by_cases c : 0 ≤ floodI n a b
  · rw [if_pos c]; rfl
  · rw [if_neg c]
    show some (-1) = some (floodI n a b)
    rcases fstI_cases (l := n.floods) (P := fun f => f.dev = a ∧ f.vni = b) with h | h
    · rw [show floodI n a b = -1 from h.1]
    · exact absurd h.1.1 c
theorem rHas_is {t : List Int} {x : Int} (ht : Few t) : palingref19_has t x = some (decide (x ∈ t)) := by
  unfold palingref19_has
  rw [loop_each (f := palingref19_has_L1 t x) t (fun _ y => ¬ y = x) (.inl () : Unit ⊕ Unit) (.inr ()) ht (fun i h0 h1 h2 => by
    have ht' := ht
    have hw := wr64 (n := i + 1) (by omega) (by unfold Few at ht'; omega)
    simp only [palingref19_has_L1, h1, nth_getI h2, hw, decide_true, if_true, Option.bind_some]
    by_cases c : getI t i = x <;> simp [c]) (by simp [palingref19_has_L1])]
  by_cases c : x ∈ t
  · obtain ⟨i, hi, e⟩ := mem_getI c
    rw [if_neg (fun h => h i hi e)]
    simp [c]
  · rw [if_pos (show EachP t (fun _ y => ¬ y = x) from fun i hi e => c (by have := getI_mem hi; rw [e] at this; exact this))]
    simp [c]
/-! ### VTEPs -/
/-! ### VNIs -/
/-! ### Flood lists -/
end
end Go.Eng
