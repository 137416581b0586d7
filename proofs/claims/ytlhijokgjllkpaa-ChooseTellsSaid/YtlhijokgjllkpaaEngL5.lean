/- Part of the proof of ChooseTells: where packets are led, and the law. No conditions. -/
import Derived.Test.YtlhijokgjllkpaaEngL4
set_option linter.unusedVariables false
set_option linter.unusedSectionVars false
set_option linter.unusedSimpArgs false
namespace Go.Eng
open Go Classical
attribute [local congr] ite_cg
section
variable {n : Api_Net}
noncomputable def chR (n : Api_Net) (irb to : Int) : Int × Bool := match choose_Address n irb to with | some r => r | none => (0, false)
theorem chR_spec (ho : n.Ok) (hs : SmN n) (hr : RightP n) (hb : n.irbs.length ≤ 200) {irb to : Int} : choose_Address n irb to = some (chR n irb to) ∧ palingref36_Address n irb to = some (chR n irb to) := by
  obtain ⟨r, h1, h2⟩ := addr_same ho hs hr hb (irb := irb) (to := to)
  have : chR n irb to = r := by unfold chR; rw [h1]
  rw [this]; exact ⟨h1, h2⟩
def conv36 (x : Choose_Lead) : Palingref36_Lead := ⟨x.to, x.domain, x.addr⟩
noncomputable def leads36 (n : Api_Net) (irb : Int) : List Choose_Lead := gatherI n.irbs (fun i _ => (chR n irb i).2 = true) (fun i y => ⟨i, y.domain, (chR n irb i).1⟩)
theorem chooseRoutes_none (hs : SmN n) {k : Int} (h : ¬ (RightP n ∧ inL n.domains k ∧ ¬ (getI n.domains k).irb < 0)) : choose_Routes n k = some [] := by
  by_cases h1 : inL n.domains k
  case neg =>
    have : k < 0 ∨ (n.domains.length : Int) ≤ k := by unfold inL at h1; omega
    rcases this with g | g
    · simp [choose_Routes, g]
    · simp only [choose_Routes, bind_ite, Option.bind_some, dif1, dif2, dif3, dif4, dif5, dif6, dif7, dnot, ibeq, ibne, decide_eq_true_eq, if_not2, ge_iff_le, gt_iff_lt, fst_ret, Bool.false_eq_true, decide_false, g]; simp
  have a0 : ¬ k < 0 := by have := h1.1; omega
  have a1 : ¬ (n.domains.length : Int) ≤ k := by have := h1.2; omega
  by_cases h2 : (getI n.domains k).irb < 0
  · simp only [choose_Routes, a0, a1, nth_getI h1, h2, bind_ite, Option.bind_some, dif1, dif2, dif3, dif4, dif5, dif6, dif7, dnot, ibeq, ibne, decide_eq_true_eq, if_not2, ge_iff_le, gt_iff_lt, fst_ret, Bool.false_eq_true, decide_false]; simp
  · have hr : ¬ RightP n := fun g => h ⟨g, h1, h2⟩
    simp only [choose_Routes, a0, a1, nth_getI h1, h2, names_Right_spec hs, hr, bind_ite, Option.bind_some, dif1, dif2, dif3, dif4, dif5, dif6, dif7, dnot, ibeq, ibne, decide_eq_true_eq, if_not2, ge_iff_le, gt_iff_lt, fst_ret, Bool.false_eq_true, decide_false]; simp
theorem chooseRoutes_some (ho : n.Ok) (hs : SmN n) (hb : n.irbs.length ≤ 200) (hr : RightP n) {k : Int} (h1 : inL n.domains k) (h2 : ¬ (getI n.domains k).irb < 0) : choose_Routes n k = some (leads36 n (getI n.domains k).irb) := by
  have a0 : ¬ k < 0 := by have := h1.1; omega
  have a1 : ¬ (n.domains.length : Int) ≤ k := by have := h1.2; omega
  have hloop := loop_gather (f := fun s : (List Choose_Lead) × Int => match s with | (l11, v12) => choose_Routes_L1 n k l11 v12) n.irbs (fun i _ => (chR n (getI n.domains k).irb i).2 = true) (fun i y => ⟨i, y.domain, (chR n (getI n.domains k).irb i).1⟩) (out := id) hs.irbs (fun i s h0 hi hin hl => by
    have hw := wr64 (n := i + 1) (by omega) (by omega)
    have h5 : roomy 24 (s ++ [(⟨i, (getI n.irbs i).domain, (chR n (getI n.domains k).irb i).1⟩ : Choose_Lead)]) = true := roomy_few (by simp; omega)
    simp only [choose_Routes_L1, hi, nth_getI hin, nth_getI h1, (chR_spec ho hs hr hb).1, hw, h5, decide_true, if_true, Option.bind_some]
    by_cases c : (chR n (getI n.domains k).irb i).2 = true <;> simp [c]) (fun s => by simp [choose_Routes_L1])
  simp only [choose_Routes, a0, a1, nth_getI h1, h2, names_Right_spec hs, hr, hloop, bind_ite, Option.bind_some, dif1, dif2, dif3, dif4, dif5, dif6, dif7, dnot, ibeq, ibne, decide_eq_true_eq, if_not2, ge_iff_le, gt_iff_lt, fst_ret, Bool.false_eq_true, decide_false]
  simp [leads36]
theorem refRoutes_none {k : Int} (h : ¬ (inL n.domains k ∧ ¬ (getI n.domains k).irb = -1)) : palingref36_Routes n k = some [] := by
  by_cases h1 : inL n.domains k
  case neg => simp [palingref36_Routes, rPlace_spec, h1]
  have h2 : (getI n.domains k).irb = -1 := Classical.not_not.1 (fun g => h ⟨h1, g⟩)
  simp [palingref36_Routes, rPlace_spec, h1, nth_getI h1, h2]
theorem refRoutes_some (ho : n.Ok) (hs : SmN n) (hb : n.irbs.length ≤ 200) (hr : RightP n) {k : Int} (h1 : inL n.domains k) (h2 : ¬ (getI n.domains k).irb = -1) : palingref36_Routes n k = some ((leads36 n (getI n.domains k).irb).map conv36) := by
  have hloop := loop_gather (f := fun s : (List Palingref36_Lead) × Int => match s with | (l9, v10) => palingref36_Routes_L1 n k l9 v10) n.irbs (fun i _ => (chR n (getI n.domains k).irb i).2 = true) (fun i y => ⟨i, y.domain, (chR n (getI n.domains k).irb i).1⟩) (out := id) hs.irbs (fun i s h0 hi hin hl => by
    have hw := wr64 (n := i + 1) (by omega) (by omega)
    have h5 : roomy 24 (s ++ [(⟨i, (getI n.irbs i).domain, (chR n (getI n.domains k).irb i).1⟩ : Palingref36_Lead)]) = true := roomy_few (by simp; omega)
    simp only [palingref36_Routes_L1, hi, nth_getI hin, nth_getI h1, (chR_spec ho hs hr hb).2, hw, h5, decide_true, if_true, Option.bind_some]
    by_cases c : (chR n (getI n.domains k).irb i).2 = true <;> simp [c]) (fun s => by simp [palingref36_Routes_L1])
  have hmap : (leads36 n (getI n.domains k).irb).map conv36 = gatherI n.irbs (fun i _ => (chR n (getI n.domains k).irb i).2 = true) (fun i y => (⟨i, y.domain, (chR n (getI n.domains k).irb i).1⟩ : Palingref36_Lead)) := by
    unfold leads36 gatherI
    rw [List.map_filterMap]
    congr 1
    funext q
    split <;> rfl
  simp only [palingref36_Routes, rPlace_spec, h1, nth_getI h1, h2, hloop, bind_ite, Option.bind_some, dif1, dif2, dif3, dif4, dif5, dif6, dif7, dnot, ibeq, ibne, decide_eq_true_eq, if_not2, ge_iff_le, gt_iff_lt, fst_ret, Bool.false_eq_true, decide_false, decide_true]
  simp [hmap]
theorem eqLead_dec {x y : Palingref36_Lead} : eq_Palingref36_Lead x y = decide (x = y) := by
  unfold eq_Palingref36_Lead; rw [Bool.eq_iff_iff]; cases x; cases y; simp
theorem CT_loop {l : List Choose_Lead} (hl : l.length ≤ 200) : loopM (palinglaw36_ChooseTells_L1 l (l.map conv36)) 0 = some (.inr ()) := by
  refine loop_pass (f := palinglaw36_ChooseTells_L1 l (l.map conv36)) l (Sum.inr ()) (by unfold Few; omega) (fun i h0 h1 h2 => ?_) (by simp [palinglaw36_ChooseTells_L1])
  have hw := wr64 (n := i + 1) (by omega) (by omega)
  have hlin : lin l i = true := by unfold lin; exact decide_eq_true ⟨h0, h1⟩
  have hlin2 : lin (l.map conv36) i = true := by unfold lin; exact decide_eq_true ⟨h0, by simpa using h1⟩
  have hg : (l.map conv36)[i.toNat]? = some (conv36 (getI l i)) := by rw [List.getElem?_map, getI_get? h2]; rfl
  have he : eq_Palingref36_Lead (⟨(getI l i).to, (getI l i).domain, (getI l i).addr⟩ : Palingref36_Lead) (conv36 (getI l i)) = true := by rw [eqLead_dec]; exact decide_eq_true rfl
  simp only [palinglaw36_ChooseTells_L1, h1, hlin, hlin2, getI_get? h2, hg, he, hw, decide_true, if_true, Option.bind_some, Bool.not_true, Bool.false_eq_true, if_false]

theorem chooseTells (n : Api_Net) (k j : Int) (ho : n.Ok) (_ : okI .i64 k) (_ : okI .i64 j) : palinglaw36_ChooseTells n k j = some true := by
  by_cases hg : BndN n 200 100
  case neg => simp [palinglaw36_ChooseTells, works36b, Great_spec, hg]
  have hs := hg.sm
  have hb := hg.irbs
  by_cases hr : RightP n
  case neg =>
    obtain ⟨r, h1, h2⟩ := choose_Address_spec ho hs (irb := k) (to := j)
    have : r = (0, false) := by rcases h2 with ⟨e, _⟩ | ⟨a, _, h, _⟩; exact e; exact absurd h hr
    subst this
    have h3 := chooseRoutes_none hs (k := k) (fun h => hr h.1)
    simp [palinglaw36_ChooseTells, works36b, Great_spec, hg, h1, h3, rRight_spec hs, hr]
  obtain ⟨c1, c2⟩ := chR_spec ho hs hr hb (irb := k) (to := j)
  by_cases hd : inL n.domains k ∧ ¬ (getI n.domains k).irb = -1
  · have hirb : ¬ (getI n.domains k).irb < 0 := by
      have hbare := (rightP_iff.1 hr).2.1 k hd.1
      rcases hbare.2.2.2.2.2.1 with h | h
      · exact absurd h hd.2
      · have := h.1.1; omega
    have e1 := chooseRoutes_some ho hs hb hr hd.1 hirb
    have e2 := refRoutes_some ho hs hb hr hd.1 hd.2
    have hlen : (leads36 n (getI n.domains k).irb).length ≤ 200 := Nat.le_trans gatherI_len hb
    simp [palinglaw36_ChooseTells, works36b, Great_spec, hg, c1, c2, e1, e2, rRight_spec hs, hr, CT_loop hlen]
  · have e2 := refRoutes_none hd
    have e1 : choose_Routes n k = some [] := by
      refine chooseRoutes_none hs (fun h => hd ⟨h.2.1, fun g => h.2.2 (by omega)⟩)
    have := CT_loop (l := []) (by simp)
    simp only [List.map_nil] at this
    simp [palinglaw36_ChooseTells, works36b, Great_spec, hg, c1, c2, e1, e2, rRight_spec hs, hr, this]
end
end Go.Eng
