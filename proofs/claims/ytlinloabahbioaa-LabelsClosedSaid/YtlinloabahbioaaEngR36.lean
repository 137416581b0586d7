/- Part of the proof of ChooseTells: the document's answer, in words. No conditions. -/
import Derived.Test.YtlinloabahbioaaEngP36a
import Derived.Test.YtlinloabahbioaaEngR15
set_option linter.unusedVariables false
set_option linter.unusedSectionVars false
set_option linter.unusedSimpArgs false
namespace Go.Eng
open Go Classical
attribute [local congr] ite_cg

theorem r02Right_spec {p : Api_Prefix} (h : PreOk p) : palingref02_Right p = some true := by
  have := h.b0; have := h.b1
  simp only [palingref02_Right, bind_ite, Option.bind_some, dif1, dif2, dif3, dif4, dif5, dif6, dif7, dnot, ibeq, ibne, decide_eq_true_eq, if_not2, ge_iff_le, gt_iff_lt, fst_ret, Bool.false_eq_true, decide_false]
  rw [decide_eq_true ⟨by omega, by omega⟩]
theorem pw_succ (k : Nat) : pw (k + 1) = pw k * 2 := by unfold pw; rw [Nat.pow_succ]; simp
theorem r02size_spec {p : Api_Prefix} (h : PreOk p) : palingref02_size p = some (pw (kOf p)) := by
  have b0 := h.b0; have b1 := h.b1
  have hk := kOf_le h
  have hkb : (kOf p : Int) = 32 - p.bits := by unfold kOf; omega
  have := loopM_trace (f := fun s : Int × Int => match s with | (v2, v3) => palingref02_size_L1 v2 v3) (r := pw (kOf p)) (fun i => (pw i, p.bits + (i : Int))) (kOf p) (by omega) (fun i hi => by
    have h1 := pw_pos i
    have h2 := pw_le (k := i) (by omega)
    have e1 := wr64 (n := pw i * 2) (by omega) (by omega)
    have e2 := wr64 (n := p.bits + (i : Int) + 1) (by omega) (by omega)
    have hlt : p.bits + (i : Int) < 32 := by omega
    simp only [palingref02_size_L1, hlt, decide_true, if_true, e1, e2]
    rw [pw_succ]
    simp [Int.add_assoc]) (by
    have hn : ¬ p.bits + (kOf p : Int) < 32 := by omega
    simp [palingref02_size_L1, hn])
  have e0 : (pw 0, p.bits + ((0 : Nat) : Int)) = ((1 : Int), p.bits) := by simp [pw]
  rw [e0] at this
  simp only [palingref02_size, this, Option.bind_some]
theorem r02First_spec {p : Api_Prefix} (h : PreOk p) : palingref02_First p = some (firstA p) := by
  have h1 := first_le h
  have hp := pw_pos (kOf p)
  have hq := pw_le (kOf_le h)
  have ha0 := h.a0; have ha1 := h.a1
  have hd : p.addr / pw (kOf p) * pw (kOf p) = firstA p := by
    unfold firstA
    have := Int.emod_add_mul_ediv p.addr (pw (kOf p))
    rw [Int.mul_comm] at this
    omega
  have e1 := wr64 (n := p.addr) (by omega) (by omega)
  have hdiv : Int.tdiv p.addr (pw (kOf p)) = p.addr / pw (kOf p) := Int.tdiv_eq_ediv_of_nonneg (by omega)
  have hd0 : 0 ≤ p.addr / pw (kOf p) := Int.ediv_nonneg (by omega) (by omega)
  have hd1 : p.addr / pw (kOf p) ≤ p.addr := Int.ediv_le_self _ (by omega)
  have e2 := wr64 (n := p.addr / pw (kOf p)) (by omega) (by omega)
  have e3 := wr64 (n := firstA p) (by omega) (by omega)
  have e4 := wr32 (n := firstA p) (by omega) (by omega)
  have hne : ¬ pw (kOf p) = 0 := by omega
  simp only [palingref02_First, r02Right_spec h, r02size_spec h, bind_ite, Option.bind_some, dif1, dif2, dif3, dif4, dif5, dif6, dif7, dnot, ibeq, ibne, decide_eq_true_eq, if_not2, ge_iff_le, gt_iff_lt, fst_ret, Bool.false_eq_true, decide_false, Bool.not_true, hne, ne_eq, not_false_eq_true, if_true, e1, hdiv, e2, hd, e3, e4, if_false]
theorem r02Last_spec {p : Api_Prefix} (h : PreOk p) : palingref02_Last p = some (lastA p) := by
  have h1 := first_le h
  have hp := pw_pos (kOf p)
  have hq := pw_le (kOf_le h)
  have hl : lastA p = firstA p + (pw (kOf p) - 1) := rfl
  have e1 := wr64 (n := firstA p) (by omega) (by omega)
  have e2 := wr64 (n := firstA p + pw (kOf p)) (by omega) (by omega)
  have e3 := wr64 (n := firstA p + pw (kOf p) - 1) (by omega) (by omega)
  have e4 := wr32 (n := firstA p + pw (kOf p) - 1) (by omega) (by omega)
  simp only [palingref02_Last, r02Right_spec h, r02size_spec h, r02First_spec h, bind_ite, Option.bind_some, dif1, dif2, dif3, dif4, dif5, dif6, dif7, dnot, ibeq, ibne, decide_eq_true_eq, if_not2, ge_iff_le, gt_iff_lt, fst_ret, Bool.false_eq_true, decide_false, Bool.not_true, if_false, e1, e2, e3, e4]
  congr 1; omega
theorem r02Has_spec {p : Api_Prefix} {a : Int} (h : PreOk p) : palingref02_Has p a = some (decide (HasP p a)) := by
  simp only [palingref02_Has, r02Right_spec h, r02First_spec h, r02Last_spec h, bind_ite, Option.bind_some, dif1, dif2, dif3, dif4, dif5, dif6, dif7, dnot, ibeq, ibne, decide_eq_true_eq, if_not2, ge_iff_le, gt_iff_lt, fst_ret, Bool.false_eq_true, decide_false, if_true]
  exact sdec (by unfold HasP; simp)

section
variable {n : Api_Net}
theorem r30device_spec (hr : RightP n) {i : Int} (hi : inL n.irbs i) : palingref30_device n i = some (irbDev n i) := by
  simp only [palingref30_device, nth_getI hi, nth_getI (hr.irb hi).1, Option.bind_some]; rfl
theorem r20Leaks_spec (hs : SmN n) {a b : Int} (ha : inL n.vrfs a) (hb : inL n.vrfs b) : palingref20_Leaks n a b = some (decide (LeaksP n a b)) := by
  have fi := hs.imports _ (getI_mem hb)
  have fe := hs.exports _ (getI_mem ha)
  simp only [palingref20_Leaks, rPlace_spec, ha, hb, bind_ite, Option.bind_some, dif1, dif2, dif3, dif4, dif5, dif6, dif7, dnot, ibeq, ibne, decide_eq_true_eq, if_not2, ge_iff_le, gt_iff_lt, fst_ret, Bool.false_eq_true, decide_false, Bool.not_true, if_false, decide_true]
  rw [loop_each (f := palingref20_Leaks_L1 n a b) (getI n.vrfs a).exports (fun _ t => ¬ ((getI n.vrfs a).dev = (getI n.vrfs b).dev ∧ t ∈ (getI n.vrfs b).imports)) (.inl ()) (.inr ()) fe (fun i h0 h1 h2 => by
    simp (disch := omega) only [palingref20_Leaks_L1, nth_getI ha, nth_getI hb, h1, nth_getI h2, rIn_spec fi, wr64, bind_ite, Option.bind_some, dif1, dif2, dif3, dif4, dif5, dif6, dif7, dnot, ibeq, ibne, decide_eq_true_eq, if_not2, ge_iff_le, gt_iff_lt, fst_ret, Bool.false_eq_true, decide_false, mrg1, mrg2, mrg3, mrg4, mrg5, mrg6, mrg7, decide_true, if_true]
    by_cases c1 : (getI n.vrfs a).dev = (getI n.vrfs b).dev <;> by_cases c2 : getI (getI n.vrfs a).exports i ∈ (getI n.vrfs b).imports <;> simp [c1, c2]) (by simp [palingref20_Leaks_L1, nth_getI ha])]
  have hk : EachP (getI n.vrfs a).exports (fun _ t => ¬ ((getI n.vrfs a).dev = (getI n.vrfs b).dev ∧ t ∈ (getI n.vrfs b).imports)) ↔ ¬ ((getI n.vrfs a).dev = (getI n.vrfs b).dev ∧ ∃ t ∈ (getI n.vrfs a).exports, t ∈ (getI n.vrfs b).imports) := by
    rw [eachP_mem]
    constructor
    · rintro h ⟨h1, t, h2, h3⟩; exact h t h2 ⟨h1, h3⟩
    · rintro h t h2 ⟨h1, h3⟩; exact h ⟨h1, t, h2, h3⟩
  unfold LeaksP
  by_cases e : a = b
  · simp [e]
  · by_cases h : EachP (getI n.vrfs a).exports (fun _ t => ¬ ((getI n.vrfs a).dev = (getI n.vrfs b).dev ∧ t ∈ (getI n.vrfs b).imports))
    · rw [if_pos h]
      have := hk.1 h
      simp only [e, if_false, false_or, Option.bind_some, this, decide_false]
    · rw [if_neg h]
      have := Classical.not_not.1 (fun g => h (hk.2 g))
      simp only [e, if_false, false_or, Option.bind_some]
      rw [decide_eq_true this]

/-- The best one so far. -/
def BestTo (n : Api_Net) (irb x i m : Int) : Prop :=
  (m = -1 ∧ ∀ j, inL n.irbs j → j < i → ¬ CandP n irb x j) ∨
  (inL n.irbs m ∧ m < i ∧ CandP n irb x m ∧ ∀ j, inL n.irbs j → j < i → CandP n irb x j → keyI n irb j ≤ keyI n irb m ∧ (j < m → keyI n irb j < keyI n irb m))
theorem r30better_spec (hr : RightP n) {irb a b : Int} (hi : inL n.irbs irb) (ha : inL n.irbs a) (hb : inL n.irbs b) : palingref30_better n irb a b = some (decide (keyI n irb b < keyI n irb a)) := by
  simp only [palingref30_better, nth_getI hi, nth_getI ha, nth_getI hb, bind_ite, Option.bind_some, dif1, dif2, dif3, dif4, dif5, dif6, dif7, dnot, ibeq, ibne, decide_eq_true_eq, if_not2, ge_iff_le, gt_iff_lt, fst_ret, Bool.false_eq_true, decide_false]
  by_cases h : (getI n.irbs a).net.bits = (getI n.irbs b).net.bits
  · by_cases c1 : (getI n.irbs a).vrf = (getI n.irbs irb).vrf <;> by_cases c2 : (getI n.irbs b).vrf = (getI n.irbs irb).vrf <;> simp [c1, c2, keyI, h] <;> try omega
  · by_cases c1 : (getI n.irbs a).vrf = (getI n.irbs irb).vrf <;> by_cases c2 : (getI n.irbs b).vrf = (getI n.irbs irb).vrf <;> simp [c1, c2, keyI, h] <;> omega
theorem r30Lookup_spec (ho : n.Ok) (hs : SmN n) (hr : RightP n) {irb x : Int} (hi : inL n.irbs irb) :
    ∃ r, palingref30_Lookup n irb x = some r ∧ ((r = (0, false) ∧ NoLed n irb x) ∨ ∃ m, r = (m, true) ∧ LedP n irb x m) := by
  have hf := hs.irbs
  obtain ⟨q, h1, h2⟩ := loopM_rule (f := fun s : Int × Int => match s with | (v7, v8) => palingref30_Lookup_L1 n irb x v7 v8)
    (fun s => 0 ≤ s.2 ∧ s.2 ≤ n.irbs.length ∧ BestTo n irb x s.2 s.1 ∧ ∀ j, inL n.irbs j → j < s.2 → ¬ (irbDev n j = irbDev n irb ∧ (getI n.irbs j).net.addr = x))
    (fun r => match r with | .inl _ => OwnA n irb x | .inr m => BestTo n irb x n.irbs.length m ∧ ¬ OwnA n irb x) (fun s => (n.irbs.length - s.2).toNat) (s := (-1, 0)) (fun s hI => by
      obtain ⟨m, i⟩ := s
      obtain ⟨h0, h1, hb, hn⟩ := hI
      simp only at h0 h1 hb hn ⊢
      by_cases hlt : i < n.irbs.length
      · have hii : inL n.irbs i := ⟨h0, hlt⟩
        have hP := (irb_pre ho hr hii).1
        have hw := wr64 (n := i + 1) (by omega) (by unfold Few at hf; omega)
        have skip : ¬ CandP n irb x i → BestTo n irb x (i + 1) m := fun hc => by
          rcases hb with ⟨e, h⟩ | ⟨a1, a2, a3, a4⟩
          · exact .inl ⟨e, fun j hj hji => by by_cases e : j = i; subst e; exact hc; exact h j hj (by omega)⟩
          · exact .inr ⟨a1, by omega, a3, fun j hj hji hc' => by by_cases e : j = i; subst e; exact absurd hc' hc; exact a4 j hj (by omega) hc'⟩
        have own1 : ¬ (irbDev n i = irbDev n irb ∧ (getI n.irbs i).net.addr = x) → ∀ j, inL n.irbs j → j < i + 1 → ¬ (irbDev n j = irbDev n irb ∧ (getI n.irbs j).net.addr = x) := fun h j hj hji => by
          by_cases e : j = i; subst e; exact h; exact hn j hj (by omega)
        simp only [palingref30_Lookup_L1, hlt, nth_getI hii, nth_getI hi, r30device_spec hr hii, r30device_spec hr hi, r02Has_spec hP, r20Leaks_spec hs (hr.irb hii).2.1 (hr.irb hi).2.1, hw, bind_ite, Option.bind_some, dif1, dif2, dif3, dif4, dif5, dif6, dif7, dnot, ibeq, ibne, decide_eq_true_eq, if_not2, ge_iff_le, gt_iff_lt, fst_ret, Bool.false_eq_true, decide_false, decide_true, if_true]
        by_cases c1 : irbDev n i = irbDev n irb
        case neg =>
          refine ⟨_, if_neg c1, ⟨by omega, by omega, skip (fun h => c1 h.2.1.symm), own1 (fun h => c1 h.1)⟩, by omega⟩
        rw [if_pos c1]
        by_cases c2 : (getI n.irbs i).net.addr = x
        · refine ⟨_, if_pos c2, i, hii, c1, c2⟩
        rw [if_neg c2]
        by_cases c3 : HasP (getI n.irbs i).net x
        case neg => refine ⟨_, if_neg c3, ⟨by omega, by omega, skip (fun h => c3 h.1), own1 (fun h => c2 h.2)⟩, by omega⟩
        rw [if_pos c3]
        by_cases c4 : LeaksP n (getI n.irbs i).vrf (getI n.irbs irb).vrf
        case neg => refine ⟨_, if_neg c4, ⟨by omega, by omega, skip (fun h => c4 h.2.2), own1 (fun h => c2 h.2)⟩, by omega⟩
        rw [if_pos c4]
        have hc : CandP n irb x i := ⟨c3, c1.symm, c4⟩
        rcases hb with ⟨e, h⟩ | ⟨a1, a2, a3, a4⟩
        · refine ⟨_, if_pos (by omega), ⟨by omega, by omega, .inr ⟨hii, by omega, hc, fun j hj hji hc' => ?_⟩, own1 (fun h => c2 h.2)⟩, by omega⟩
          by_cases e : j = i
          · subst e; exact ⟨Int.le_refl _, fun h => by omega⟩
          · exact absurd hc' (h j hj (by omega))
        · rw [if_neg (by have := a1.1; omega), r30better_spec hr hi hii a1]
          simp only [Option.bind_some, decide_eq_true_eq]
          by_cases c5 : keyI n irb m < keyI n irb i
          · refine ⟨_, if_pos c5, ⟨by omega, by omega, .inr ⟨hii, by omega, hc, fun j hj hji hc' => ?_⟩, own1 (fun h => c2 h.2)⟩, by omega⟩
            by_cases e : j = i
            · subst e; exact ⟨Int.le_refl _, fun h => by omega⟩
            · have := (a4 j hj (by omega) hc').1; simp only; exact ⟨by omega, fun _ => by omega⟩
          · refine ⟨_, if_neg c5, ⟨by omega, by omega, .inr ⟨a1, by omega, a3, fun j hj hji hc' => ?_⟩, own1 (fun h => c2 h.2)⟩, by omega⟩
            by_cases e : j = i
            · subst e; simp only; exact ⟨by omega, fun h => by omega⟩
            · exact a4 j hj (by omega) hc'
      · have : i = n.irbs.length := by omega
        subst this
        refine ⟨.inr (.inr m), by simp [palingref30_Lookup_L1], hb, ?_⟩
        rintro ⟨j, hj, h⟩
        exact hn j hj hj.2 h) ⟨by simp, by simp, .inl ⟨rfl, fun j hj h => by have := hj.1; simp at h; omega⟩, fun j hj h => by have := hj.1; simp at h; omega⟩ (by simp only; unfold Few at hf; omega)
  simp only [palingref30_Lookup, rPlace_spec, hi, h1, bind_ite, Option.bind_some, dif1, dif2, dif3, dif4, dif5, dif6, dif7, dnot, ibeq, ibne, decide_eq_true_eq, if_not2, ge_iff_le, gt_iff_lt, fst_ret, Bool.false_eq_true, decide_false, decide_true, Bool.not_true, if_false]
  rcases q with u | m
  · exact ⟨_, rfl, .inl ⟨rfl, .inl h2⟩⟩
  · obtain ⟨hb, hno⟩ := h2
    rcases hb with ⟨rfl, h⟩ | ⟨a1, a2, a3, a4⟩
    · exact ⟨_, by simp, .inl ⟨rfl, .inr fun j hj => h j hj hj.2⟩⟩
    · have : ¬ m < 0 := by have := a1.1; omega
      exact ⟨(m, true), by simp [this], .inr ⟨m, rfl, hno, a1, a3, fun j hj hc => a4 j hj hj.2 hc⟩⟩
end
end Go.Eng
