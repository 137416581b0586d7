/- Plain laws of chapter 35: ReachHops, ReachPaths, ReachGoes. -/
import Derived.Test.YtlinloabahbioaaEngW4
import Derived.Test.YtlinloabahbioaaEngPEi
set_option linter.unusedVariables false
set_option linter.unusedSectionVars false
set_option linter.unusedSimpArgs false
namespace Go.Eng
open Go Classical
attribute [local congr] ite_cg

theorem works35 : palinglaw35_works = some true := by kernel_rfl
section
variable {n : Api_Net}
theorem reachHops (n : Api_Net) (d : Int) (_ : n.Ok) (_ : okI .i64 d) : palinglaw35_ReachHops n d = some true := by
  simp only [palinglaw35_ReachHops, Great_spec, Option.bind_some, works35]
  by_cases hg : BndN n 200 100
  case neg => simp [hg]
  have hs := hg.sm
  simp only [hg, not_true_eq_false, decide_false, Bool.false_eq_true, if_false]
  rw [Fits_spec hs]
  by_cases h : inL n.domains d ∧ RightP n
  · obtain ⟨hd, hr⟩ := h
    have hhl := hopsI_len hg hd
    rw [reach_Hops_spec hg hr hd, reach_Steps_spec hg hr hd]
    simp only [Option.bind_some, decide_eq_true (show inL n.domains d ∧ RightP n from ⟨hd, hr⟩), Bool.not_true, Bool.false_eq_true, if_false]
    rw [Told_spec (by unfold Few; omega), Option.bind_some]
    rw [rHops_spec hg hr hd, Option.bind_some]
    rw [rSameH_spec (by unfold Few; simp; omega), Option.bind_some, if_pos (by simp), rSteps_spec hg hr hd, Option.bind_some]
    simp only
    rw [rInts_spec (by unfold Few; rw [mkL_len]; have := hg.domains; omega), Option.bind_some]
    simp
  · rw [reach_Hops_no hs h, reach_Steps_no hs h]
    simp [h]
theorem way_len (hg : BndN n 200 100) (hr : RightP n) {a b : Int} (ha : inL n.domains a) (h : 0 ≤ DW domH (fullW n a) b) : ((wayI n a b).length : Int) = DW domH (fullW n a) b + 1 ∧ (wayI n a b).length ≤ 200 := by
  obtain ⟨j, hj, rfl⟩ := (way_pos hg hr ha).1 h
  have hF := full_good hg hr ha
  rw [wayI_at hg hr ha hj, hF.DW_at hj]
  have := hF.lens hj; have := hF.len; have := hj.2; have := hg.domains
  exact ⟨by omega, by omega⟩
theorem reachPaths (n : Api_Net) (a b : Int) (_ : n.Ok) (_ : okI .i64 a) (_ : okI .i64 b) : palinglaw35_ReachPaths n a b = some true := by
  simp only [palinglaw35_ReachPaths, Great_spec, Option.bind_some, works35]
  by_cases hg : BndN n 200 100
  case neg => simp [hg]
  have hs := hg.sm
  simp only [hg, not_true_eq_false, decide_false, Bool.false_eq_true, if_false]
  rw [Fits_spec hs]
  by_cases h : inL n.domains a ∧ RightP n
  · by_cases h2 : inL n.domains b ∧ RightP n
    · obtain ⟨ha, hr⟩ := h
      obtain ⟨hb, _⟩ := h2
      rw [reach_Path_spec hg hr ha hb, rPath_spec hg hr ha, Fits_spec hs]
      simp only [Option.bind_some, decide_eq_true (show inL n.domains a ∧ RightP n from ⟨ha, hr⟩), decide_eq_true (show inL n.domains b ∧ RightP n from ⟨hb, hr⟩), Bool.not_true, Bool.false_eq_true, if_false]
      by_cases c : 0 ≤ DW domH (fullW n a) b
      · have hl := (way_len hg hr ha c).2
        rw [if_pos c, if_pos c]
        simp only
        rw [Told_spec (by unfold Few; omega), Option.bind_some]
        rw [rSameH_spec (by unfold Few; simp; omega), Option.bind_some]
        simp
      · rw [if_neg c, if_neg c]
        simp only
        rw [Told_spec few_nil, Option.bind_some]
        rw [rSameH_spec (by simp [Few]), Option.bind_some]
        simp
    · rw [reach_Path_no hs (.inr h2), Fits_spec hs]
      have hb : ¬ inL n.domains b := fun q => h2 ⟨q, h.2⟩
      simp [h, hb]
  · rw [reach_Path_no hs (.inl h)]
    simp [h]
theorem eqRH_dec {x y : Reach_Hop} : eq_Reach_Hop x y = decide (x = y) := by
  cases x; cases y
  rw [Bool.eq_iff_iff]
  simp [eq_Reach_Hop]
theorem reachGoes (n : Api_Net) (a b : Int) (_ : n.Ok) (_ : okI .i64 a) (_ : okI .i64 b) : palinglaw35_ReachGoes n a b = some true := by
  simp only [palinglaw35_ReachGoes, Great_spec, Option.bind_some, works35, Bool.not_true, Bool.false_eq_true, if_false]
  by_cases hg : BndN n 200 100
  case neg => simp [hg]
  have hs := hg.sm
  have hdl := hg.domains
  simp only [hg, not_true_eq_false, decide_false, Bool.false_eq_true, if_false]
  by_cases h : inL n.domains a ∧ RightP n
  case neg =>
    rw [reach_Path_no hs (.inl h), reach_Steps_no hs h]
    simp
  obtain ⟨ha, hr⟩ := h
  rw [reach_Steps_spec hg hr ha]
  by_cases h2 : inL n.domains b ∧ RightP n
  case neg =>
    rw [reach_Path_no hs (.inr h2)]
    have hb : ¬ inL n.domains b := fun h => h2 ⟨h, hr⟩
    simp only [Option.bind_some, Bool.not_false, if_true]
    by_cases c : b < 0
    · simp [c]
    · have : b ≥ (n.domains.length : Int) := by
        apply Classical.byContradiction
        intro hn
        exact hb ⟨by omega, by omega⟩
      simp [c, this]
  obtain ⟨hb, _⟩ := h2
  have hb0 := hb.1; have hb1 := hb.2
  have ib : inL (mkL n.domains.length (DW domH (fullW n a))) b := mkL_inL.2 hb
  rw [reach_Path_spec hg hr ha hb]
  by_cases c : 0 ≤ DW domH (fullW n a) b
  case neg =>
    have hD := (full_dist hg hr ha).ge b
    rw [if_neg c]
    simp only [Option.bind_some, Bool.not_false, if_true, Int.natCast_zero, beq_self_eq_true]
    rw [if_neg (by simp; omega), if_neg (by simp; omega), if_pos (linT ib), getI_get? ib, Option.bind_some, mkL_get ib]
    have : DW domH (fullW n a) b = -1 := by omega
    simp [this]
  have hl := way_len hg hr ha c
  rw [if_pos c]
  simp only [Option.bind_some, Bool.not_true, Bool.false_eq_true, if_false]
  rw [if_neg (by simp; omega), if_neg (by simp; omega), if_pos (linT ib), getI_get? ib, Option.bind_some, mkL_get ib, wr64 (by omega) (by have := (full_dist hg hr ha).lt b; omega), if_neg (by simp; omega), if_neg (by have := hl.1; simp only [beq_iff_eq]; omega)]
  obtain ⟨j, hj, rfl⟩ := (way_pos hg hr ha).1 c
  have hF := full_good hg hr ha
  rw [wayI_at hg hr ha hj] at hl ⊢
  -- every hop of a way is one of the domain's that the one ahead came to
  have key : ∀ (m : Nat) (j : Int), j < m → inL (fullW n a) j → getI (getI (fullW n a) j) 0 = rootH a ∧ ∀ k, 0 < k → inL (getI (fullW n a) j) k → getI (getI (fullW n a) j) k ∈ hopsI n (getI (getI (fullW n a) j) (k - 1)).domain := by
    intro m
    induction m with
    | zero => intro j h1 h2; have := h2.1; omega
    | succ m ih =>
      intro j h1 h2
      by_cases j0 : j = 0
      · subst j0
        rw [hF.root]
        exact ⟨rfl, fun k k0 hk => by have := hk.2; simp at this; omega⟩
      · have := h2.1
        obtain ⟨k, h', k0, kj, e1, e2⟩ := hF.par j h2 (by omega)
        have hk : inL (fullW n a) k := ⟨k0, by have := h2.2; omega⟩
        have ihk := ih k (by omega) hk
        have hkl := hF.lens hk
        rw [e2]
        refine ⟨?_, fun q q0 hq => ?_⟩
        · rw [getI_app ⟨by omega, by omega⟩]; exact ihk.1
        · rcases inL_app1.1 hq with hq | rfl
          · rw [getI_app hq, getI_app ⟨by omega, by have := hq.2; omega⟩]; exact ihk.2 q q0 hq
          · rw [getI_last, getI_app ⟨by omega, by omega⟩]
            have : endD domH (getI (fullW n a) k) = (getI (getI (fullW n a) k) ((getI (fullW n a) k).length - 1)).domain := by
              unfold endD getI
              rw [List.getLast?_eq_getElem?]
              congr 3
              omega
            rw [← this]; exact e1
  obtain ⟨kr, kh⟩ := key ((fullW n a).length) j hj.2 hj
  have hend : (getI (getI (fullW n a) j) (((getI (fullW n a) j).length : Int) - 1)).domain = endD domH (getI (fullW n a) j) := by
    unfold endD getI
    rw [List.getLast?_eq_getElem?]
    congr 3
    omega
  have hdr := hF.rng j hj
  have hops_nat : ∀ k : Nat, inL (getI (fullW n a) j) (k : Int) → inL n.domains (getI (getI (fullW n a) j) (k : Int)).domain := by
    intro k
    induction k with
    | zero => intro _; rw [Int.natCast_zero, kr]; exact ha
    | succ k ih =>
      intro hk
      have hk2 := hk.2
      have h1 := ih ⟨by omega, by omega⟩
      have h2 := kh _ (by omega) hk
      rw [show ((k + 1 : Nat) : Int) - 1 = (k : Int) by omega] at h2
      exact hops_in hr _ h1.1 h1.2 _ h2
  have hops_ends : ∀ k, inL (getI (fullW n a) j) k → inL n.domains (getI (getI (fullW n a) j) k).domain := fun k hk => by
    have h0 := hk.1
    have := hops_nat k.toNat (by rw [show ((k.toNat : Nat) : Int) = k by omega]; exact hk)
    rwa [show ((k.toNat : Nat) : Int) = k by omega] at this
  generalize getI (fullW n a) j = w at *
  have i0 : inL w 0 := ⟨by omega, by omega⟩
  have i1 : inL w ((w.length : Int) - 1) := ⟨by omega, by omega⟩
  rw [if_pos (linT i0), getI_get? i0, Option.bind_some, kr, eqRH_dec, if_neg (by simp), wr64 (by omega) (by omega), if_pos (linT i1), getI_get? i1, Option.bind_some, hend, if_neg (by simp)]
  have e : loopM (palinglaw35_ReachGoes_L1 n w w.length) 1 = some (.inr ()) := by
    have := loopM_trace (f := palinglaw35_ReachGoes_L1 n w w.length) (r := .inr ()) (fun k => (k : Int) + 1) (w.length - 1) (by omega) (fun k hk => by
      have ik : inL w (k : Int) := ⟨by omega, by omega⟩
      have ik1 : inL w ((k : Int) + 1) := ⟨by omega, by omega⟩
      have hd := hops_ends _ ik
      have hhl := hopsI_len hg hd
      have hm := kh ((k : Int) + 1) (by omega) ik1
      rw [show (k : Int) + 1 - 1 = k by omega] at hm
      simp only [palinglaw35_ReachGoes_L1]
      rw [if_pos (by simp; omega), wr64 (n := (k : Int) + 1 - 1) (by omega) (by omega), show (k : Int) + 1 - 1 = k by omega, if_pos (linT ik), getI_get? ik, Option.bind_some, reach_Hops_spec hg hr hd, Option.bind_some]
      have ea := loop_any (f := fun s : Bool × Int => match s with | (v49, v50) => palinglaw35_ReachGoes_L2 n w w.length ((k : Int) + 1) (hopsI n (getI w (k : Int)).domain) v49 v50) (hopsI n (getI w (k : Int)).domain) (fun _ h => h = getI w ((k : Int) + 1)) (out := fun b => b) (by unfold Few; omega) (fun i b i0 i1 hi => by
        simp only [palinglaw35_ReachGoes_L2]
        rw [if_pos (by simpa using i1), if_pos (linT hi), getI_get? hi, Option.bind_some, wr64 (by omega) (by omega), if_pos (linT ik1), getI_get? ik1, Option.bind_some, eqRH_dec]
        cases b <;> simp) (fun b => by simp [palinglaw35_ReachGoes_L2])
      rw [ea, Option.bind_some]
      have hex : ∃ i, inL (hopsI n (getI w (k : Int)).domain) i ∧ getI (hopsI n (getI w (k : Int)).domain) i = getI w ((k : Int) + 1) := by
        obtain ⟨i, hi, e⟩ := mem_getI hm
        exact ⟨i, hi, e⟩
      rw [decide_eq_true hex, if_neg (by simp), wr64 (by omega) (by omega)]
      simp) (by
      simp only [palinglaw35_ReachGoes_L1]
      rw [if_neg (by simp; omega)])
    simpa using this
  rw [e]
  rfl
end
end Go.Eng
