/- Plain laws of chapter 36: where packets are led, on both sides. -/
import Derived.Test.YtlinloabahbioaaEngL4
set_option linter.unusedVariables false
set_option linter.unusedSectionVars false
set_option linter.unusedSimpArgs false
namespace Go.Eng
open Go Classical
attribute [local congr] ite_cg
section
variable {n : Api_Net}
noncomputable def chR (n : Api_Net) (irb to : Int) : Int × Bool := match choose_Address n irb to with | some r => r | none => (0, false)
theorem chR_spec (ho : n.Ok) (hs : SmN n) (hr : RightP n) (hb : n.irbs.length ≤ 200) {irb to : Int} : choose_Address n irb to = some (chR n irb to) ∧ palingref36_Address n irb to = some (chR n irb to) := by
  obtain ⟨r, h1, h2⟩ := addr_same ho hs hr hb (irb := irb) (to := to)
  have : chR n irb to = r := by unfold chR; rw [h1]
  rw [this]; exact ⟨h1, h2⟩
def conv36 (x : Choose_Lead) : Palingref36_Lead := ⟨x.to, x.domain, x.addr⟩
noncomputable def leads36 (n : Api_Net) (irb : Int) : List Choose_Lead := gatherI n.irbs (fun i _ => (chR n irb i).2 = true) (fun i y => ⟨i, y.domain, (chR n irb i).1⟩)
theorem chooseRoutes_none (hs : SmN n) {k : Int} (h : ¬ (RightP n ∧ inL n.domains k ∧ ¬ (getI n.domains k).irb < 0)) : choose_Routes n k = some [] := by
  by_cases h1 : inL n.domains k
  case neg =>
    have : k < 0 ∨ (n.domains.length : Int) ≤ k := by unfold inL at h1; omega
    rcases this with g | g
    · simp [choose_Routes, g]
    · simp only [choose_Routes, bind_ite, Option.bind_some, dif1, dif2, dif3, dif4, dif5, dif6, dif7, dnot, ibeq, ibne, decide_eq_true_eq, if_not2, ge_iff_le, gt_iff_lt, fst_ret, Bool.false_eq_true, decide_false, g]; simp
  have a0 : ¬ k < 0 := by have := h1.1; omega
  have a1 : ¬ (n.domains.length : Int) ≤ k := by have := h1.2; omega
  by_cases h2 : (getI n.domains k).irb < 0
  · simp only [choose_Routes, a0, a1, nth_getI h1, h2, bind_ite, Option.bind_some, dif1, dif2, dif3, dif4, dif5, dif6, dif7, dnot, ibeq, ibne, decide_eq_true_eq, if_not2, ge_iff_le, gt_iff_lt, fst_ret, Bool.false_eq_true, decide_false]; simp
  · have hr : ¬ RightP n := fun g => h ⟨g, h1, h2⟩
    simp only [choose_Routes, a0, a1, nth_getI h1, h2, names_Right_spec hs, hr, bind_ite, Option.bind_some, dif1, dif2, dif3, dif4, dif5, dif6, dif7, dnot, ibeq, ibne, decide_eq_true_eq, if_not2, ge_iff_le, gt_iff_lt, fst_ret, Bool.false_eq_true, decide_false]; simp
theorem chooseRoutes_some (ho : n.Ok) (hs : SmN n) (hb : n.irbs.length ≤ 200) (hr : RightP n) {k : Int} (h1 : inL n.domains k) (h2 : ¬ (getI n.domains k).irb < 0) : choose_Routes n k = some (leads36 n (getI n.domains k).irb) := by
  have a0 : ¬ k < 0 := by have := h1.1; omega
  have a1 : ¬ (n.domains.length : Int) ≤ k := by have := h1.2; omega
  have hloop := loop_gather (f := fun s : (List Choose_Lead) × Int => match s with | (l11, v12) => choose_Routes_L1 n k l11 v12) n.irbs (fun i _ => (chR n (getI n.domains k).irb i).2 = true) (fun i y => ⟨i, y.domain, (chR n (getI n.domains k).irb i).1⟩) (out := id) hs.irbs (fun i s h0 hi hin hl => by
    have hw := wr64 (n := i + 1) (by omega) (by omega)
    have h5 : roomy 24 (s ++ [(⟨i, (getI n.irbs i).domain, (chR n (getI n.domains k).irb i).1⟩ : Choose_Lead)]) = true := roomy_few (by simp; omega)
    simp only [choose_Routes_L1, hi, nth_getI hin, nth_getI h1, (chR_spec ho hs hr hb).1, hw, h5, decide_true, if_true, Option.bind_some]
    by_cases c : (chR n (getI n.domains k).irb i).2 = true <;> simp [c]) (fun s => by simp [choose_Routes_L1])
  simp only [choose_Routes, a0, a1, nth_getI h1, h2, names_Right_spec hs, hr, hloop, bind_ite, Option.bind_some, dif1, dif2, dif3, dif4, dif5, dif6, dif7, dnot, ibeq, ibne, decide_eq_true_eq, if_not2, ge_iff_le, gt_iff_lt, fst_ret, Bool.false_eq_true, decide_false]
  simp [leads36]
theorem refRoutes_none {k : Int} (h : ¬ (inL n.domains k ∧ ¬ (getI n.domains k).irb = -1)) : palingref36_Routes n k = some [] := by
  by_cases h1 : inL n.domains k
  case neg => simp [palingref36_Routes, rPlace_spec, h1]
  have h2 : (getI n.domains k).irb = -1 := Classical.not_not.1 (fun g => h ⟨h1, g⟩)
  simp [palingref36_Routes, rPlace_spec, h1, nth_getI h1, h2]
theorem refRoutes_some (ho : n.Ok) (hs : SmN n) (hb : n.irbs.length ≤ 200) (hr : RightP n) {k : Int} (h1 : inL n.domains k) (h2 : ¬ (getI n.domains k).irb = -1) : palingref36_Routes n k = some ((leads36 n (getI n.domains k).irb).map conv36) := by
  have hloop := loop_gather (f := fun s : (List Palingref36_Lead) × Int => match s with | (l9, v10) => palingref36_Routes_L1 n k l9 v10) n.irbs (fun i _ => (chR n (getI n.domains k).irb i).2 = true) (fun i y => ⟨i, y.domain, (chR n (getI n.domains k).irb i).1⟩) (out := id) hs.irbs (fun i s h0 hi hin hl => by
    have hw := wr64 (n := i + 1) (by omega) (by omega)
    have h5 : roomy 24 (s ++ [(⟨i, (getI n.irbs i).domain, (chR n (getI n.domains k).irb i).1⟩ : Palingref36_Lead)]) = true := roomy_few (by simp; omega)
    simp only [palingref36_Routes_L1, hi, nth_getI hin, nth_getI h1, (chR_spec ho hs hr hb).2, hw, h5, decide_true, if_true, Option.bind_some]
    by_cases c : (chR n (getI n.domains k).irb i).2 = true <;> simp [c]) (fun s => by simp [palingref36_Routes_L1])
  have hmap : (leads36 n (getI n.domains k).irb).map conv36 = gatherI n.irbs (fun i _ => (chR n (getI n.domains k).irb i).2 = true) (fun i y => (⟨i, y.domain, (chR n (getI n.domains k).irb i).1⟩ : Palingref36_Lead)) := by
    unfold leads36 gatherI
    rw [List.map_filterMap]
    congr 1
    funext q
    split <;> rfl
  simp only [palingref36_Routes, rPlace_spec, h1, nth_getI h1, h2, hloop, bind_ite, Option.bind_some, dif1, dif2, dif3, dif4, dif5, dif6, dif7, dnot, ibeq, ibne, decide_eq_true_eq, if_not2, ge_iff_le, gt_iff_lt, fst_ret, Bool.false_eq_true, decide_false, decide_true]
  simp [hmap]
end
end Go.Eng
