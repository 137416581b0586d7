/- Plain laws of chapter 35: ReachBoth. -/
import Derived.Test.YtlinloabahbioaaEngW5
import Derived.Test.YtlinloabahbioaaEngP21a
set_option linter.unusedVariables false
set_option linter.unusedSectionVars false
set_option linter.unusedSimpArgs false
namespace Go.Eng
open Go Classical
attribute [local congr] ite_cg

theorem comps_All_no {n : Api_Net} (hs : SmN n) (h : ¬ RightP n) : comps_All n = some [] := by
  simp only [comps_All, names_Right_spec hs, Option.bind_some, decide_eq_false h, Bool.not_false, if_true]
theorem reachBoth (n : Api_Net) (a b : Int) (_ : n.Ok) (_ : okI .i64 a) (_ : okI .i64 b) : palinglaw35_ReachBoth n a b = some true := by
  simp only [palinglaw35_ReachBoth, Great_spec, Option.bind_some, works35, Bool.not_true, Bool.false_eq_true, if_false]
  by_cases hg : BndN n 200 100
  case neg => simp [hg]
  have hs := hg.sm
  have hdl := hg.domains
  simp only [hg, not_true_eq_false, decide_false, Bool.false_eq_true, if_false]
  by_cases hr : RightP n
  case neg =>
    rw [reach_Steps_no hs (fun h => hr h.2), reach_Steps_no hs (fun h => hr h.2), comps_All_no hs hr]
    simp
  obtain ⟨T, hT, eT⟩ := comps_All_spec hg hr
  rw [eT]
  by_cases ha : inL n.domains a
  case neg =>
    rw [reach_Steps_no hs (fun h => ha h.1)]
    by_cases hb : inL n.domains b
    · rw [reach_Steps_spec hg hr hb]; simp
    · rw [reach_Steps_no hs (fun h => hb h.1)]; simp
  rw [reach_Steps_spec hg hr ha]
  by_cases hb : inL n.domains b
  case neg =>
    rw [reach_Steps_no hs (fun h => hb h.1)]; simp
  rw [reach_Steps_spec hg hr hb]
  have hDa := full_dist hg hr ha
  have hDb := full_dist hg hr hb
  have a0 := ha.1; have a1 := ha.2; have b0 := hb.1; have b1 := hb.2
  have hsy := hops_symm hr
  have e1 := hDa.both hDb hsy
  have hco : 0 ≤ DW domH (fullW n a) b ↔ Conn (EA n) a b := by
    constructor
    · intro h
      exact hDa.conn (fun i j h h0 h1 => (hops_EA ⟨h0, h1⟩).1 h) (DW domH (fullW n a) b).toNat b (by omega)
    · intro h
      have key : ∀ x y, EA n x y → (0 ≤ DW domH (fullW n a) x → 0 ≤ DW domH (fullW n a) y) := fun x y hxy hx => by
        obtain ⟨h', hh, rfl⟩ := (hops_EA (EA_in hr hxy).1).2 hxy
        exact (hDa.edge x hx h' hh).1
      have := h.set (P := fun x => 0 ≤ DW domH (fullW n a) x) (fun x y hxy => ⟨key x y hxy, key y x (EA_symm hr hxy)⟩)
      exact this.1 (by rw [hDa.zero]; omega)
  have hTT := hT.iff a0 a1 b0 b1
  have iab : inL (mkL n.domains.length (DW domH (fullW n a))) b := mkL_inL.2 hb
  have iba : inL (mkL n.domains.length (DW domH (fullW n b))) a := mkL_inL.2 ha
  have ita : inL (mkL n.domains.length T) a := mkL_inL.2 ha
  have itb : inL (mkL n.domains.length T) b := mkL_inL.2 hb
  simp only [Option.bind_some, mkL_len]
  have n0 : (n.domains.length : Int) ≠ 0 := by omega
  rw [if_neg (by simpa using n0), if_neg (by simpa using n0), if_neg (by simp), if_neg (by simp), if_neg (by simpa using a0), if_neg (by simpa using b0), if_neg (by simpa using a1), if_neg (by simpa using b1),
    if_pos (linT iab), getI_get? iab, Option.bind_some, if_pos (linT iba), getI_get? iba, Option.bind_some, mkL_get iab, mkL_get iba, if_pos (by simpa using e1), Option.bind_some, if_pos (linT ita), getI_get? ita, Option.bind_some, if_pos (linT itb), getI_get? itb, Option.bind_some, Option.bind_some, mkL_get ita, mkL_get itb]
  have k1 : decide (DW domH (fullW n a) b ≥ 0) = (T a == T b) := by
    rw [Bool.eq_iff_iff]
    simp only [decide_eq_true_eq, beq_iff_eq, ge_iff_le]
    rw [hco, hTT]
  have k2 : (DW domH (fullW n a) b == 0) = (a == b) := by
    rw [Bool.eq_iff_iff]
    simp only [beq_iff_eq]
    constructor
    · intro h; exact (hDa.only b h).symm
    · intro h; subst h; exact hDa.zero
  rw [k1, k2]
  simp
end Go.Eng
