/- Plain laws of chapter 23 (owners): owners that may be. -/
import Derived.Test.YtlinloabahbioaaEngR15b
set_option linter.unusedVariables false
set_option linter.unusedSectionVars false
set_option linter.unusedSimpArgs false

namespace Go.Eng
open Go Classical
attribute [local congr] ite_cg
section
variable {n : Api_Net}
/-- Owners that may be. -/
def OwnP (n : Api_Net) (l : List Int) : Prop := l.length = n.ports.length ∧ RightP n ∧ EachP l fun i t => (0 ≤ (getI n.ports i).link → t = -1) ∧ ((getI n.ports i).link < 0 → 0 ≤ t ∧ t < 10)
theorem port_link (hr : RightP n) {i : Int} (hi : inL n.ports i) : (getI n.ports i).link = -1 ∨ 0 ≤ (getI n.ports i).link := by
  rcases (hr.ports i hi).2.2.2.2.2.2.2.2 with h | h
  · exact .inl h
  · exact .inr h.1.1
theorem owners_Right_spec (hs : SmN n) {l : List Int} (hl : Few l) : owners_Right n l = some (decide (OwnP n l)) := by
  have hf : l.length ≤ 1000000 := hl
  unfold owners_Right OwnP
  by_cases h1 : l.length = n.ports.length
  case neg =>
    have : ((l.length : Int) != (n.ports.length : Int)) = true := by rw [ibne]; exact decide_eq_true (by omega)
    simp [this, h1]
  have h1' : ((l.length : Int) != (n.ports.length : Int)) = false := by rw [ibne]; exact decide_eq_false (by omega)
  by_cases hr : RightP n
  case neg => simp [h1', names_Right_spec hs, hr]
  simp only [h1', names_Right_spec hs, hr, h1, true_and, Bool.false_eq_true, if_false, decide_true, Bool.not_true, Option.bind_some]
  rw [loop_each (f := owners_Right_L1 n l) l (fun i t => (0 ≤ (getI n.ports i).link → t = -1) ∧ ((getI n.ports i).link < 0 → 0 ≤ t ∧ t < 10)) (.inl ()) (.inr ()) hl (fun i i0 i1 hi => by
    have hw := wr64 (n := i + 1) (by omega) (by omega)
    have hp : inL n.ports i := ⟨i0, by omega⟩
    simp only [owners_Right_L1, i1, nth_getI hi, nth_getI hp, hw, bind_ite, Option.bind_some, dif1, dif2, dif3, dif4, dif5, dif6, dif7, dnot, ibeq, ibne, decide_eq_true_eq, if_not2, ge_iff_le, gt_iff_lt, fst_ret, Bool.false_eq_true, decide_false, mrg1, mrg2, mrg3, mrg4, mrg5, mrg6, mrg7, decide_true, if_true]
    by_cases c : 0 ≤ (getI n.ports i).link
    · have c2 : ¬ (getI n.ports i).link < 0 := by omega
      by_cases d : getI l i = -1 <;> simp [c, c2, d]
    · have c2 : (getI n.ports i).link < 0 := by omega
      by_cases d : getI l i < 0
      · simp [c, c2, d]; omega
      · by_cases d2 : 10 ≤ getI l i
        · simp [c, c2, d, d2]
        · have : 0 ≤ getI l i ∧ getI l i < 10 := by omega
          simp [c, c2, d, d2, this]) (by simp [owners_Right_L1])]
  simp only [bind_ite, Option.bind_some, dif1, dif2, dif3, dif4, dif5, dif6, dif7, dnot, ibeq, ibne, decide_eq_true_eq, if_not2, ge_iff_le, gt_iff_lt, fst_ret, Bool.false_eq_true, decide_false, true_and]
theorem rOwners_Right_spec (hs : SmN n) {l : List Int} (hl : Few l) : palingref23_Right n l = some (decide (OwnP n l)) := by
  have hf : l.length ≤ 1000000 := hl
  unfold palingref23_Right OwnP
  by_cases h1 : l.length = n.ports.length
  case neg =>
    have : ((l.length : Int) != (n.ports.length : Int)) = true := by rw [ibne]; exact decide_eq_true (by omega)
    simp [this, h1]
  have h1' : ((l.length : Int) != (n.ports.length : Int)) = false := by rw [ibne]; exact decide_eq_false (by omega)
  by_cases hr : RightP n
  case neg => simp [h1', rRight_spec hs, hr]
  simp only [h1', rRight_spec hs, hr, h1, true_and, Bool.false_eq_true, if_false, decide_true, Bool.not_true, Option.bind_some]
  rw [loop_each (f := palingref23_Right_L1 n l) l (fun i t => (0 ≤ (getI n.ports i).link → t = -1) ∧ ((getI n.ports i).link < 0 → 0 ≤ t ∧ t < 10)) (.inl ()) (.inr ()) hl (fun i i0 i1 hi => by
    have hw := wr64 (n := i + 1) (by omega) (by omega)
    have hp : inL n.ports i := ⟨i0, by omega⟩
    have hlk := port_link hr hp
    simp only [palingref23_Right_L1, palingref23_Right_J2, i1, nth_getI hi, nth_getI hp, hw, bind_ite, Option.bind_some, dif1, dif2, dif3, dif4, dif5, dif6, dif7, dnot, ibeq, ibne, decide_eq_true_eq, if_not2, ge_iff_le, gt_iff_lt, fst_ret, Bool.false_eq_true, decide_false, decide_true, if_true]
    rcases hlk with c | c
    · have c2 : ¬ 0 ≤ (getI n.ports i).link := by omega
      have c3 : (getI n.ports i).link < 0 := by omega
      by_cases d : getI l i < 0
      · simp [c, d]; omega
      · by_cases d2 : 9 < getI l i
        · simp [c, d, d2]; omega
        · have : 0 ≤ getI l i ∧ getI l i < 10 := by omega
          simp [c, d, d2, this]
    · have c2 : ¬ (getI n.ports i).link < 0 := by omega
      have c3 : ¬ (getI n.ports i).link = -1 := by omega
      by_cases d : getI l i = -1 <;> simp [c, c2, c3, d]) (by simp [palingref23_Right_L1])]
  simp only [bind_ite, Option.bind_some, dif1, dif2, dif3, dif4, dif5, dif6, dif7, dnot, ibeq, ibne, decide_eq_true_eq, if_not2, ge_iff_le, gt_iff_lt, fst_ret, Bool.false_eq_true, decide_false, true_and]
noncomputable def ofL (l : List Int) (t : Int) : List Int := gatherI l (fun _ x => x = t) (fun i _ => i)
theorem rOf_spec {l : List Int} {t : Int} (hl : Few l) : palingref23_Of l t = some (ofL l t) := by
  have hf : l.length ≤ 1000000 := hl
  unfold palingref23_Of
  rw [loop_gather (f := fun s : (List Int) × Int => match s with | (l3, v4) => palingref23_Of_L1 l t l3 v4) l (fun _ x => x = t) (fun i _ => i) (out := id) hl (fun i s h0 h1 h2 h3 => by
    have hw := wr64 (n := i + 1) (by omega) (by omega)
    have h5 : roomy 8 (s ++ [i]) = true := roomy_few (by simp; omega)
    simp only [palingref23_Of_L1, h1, nth_getI h2, h5, hw, decide_true, if_true, Option.bind_some, ibeq]
    by_cases c : getI l i = t <;> simp [c]) (fun s => by simp [palingref23_Of_L1])]
  rfl
end
end Go.Eng
