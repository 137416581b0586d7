/- The plain law of LinksCrosses. -/
import Derived.Test.YtlinloabahbioaaEngL2
set_option linter.unusedVariables false
set_option linter.unusedSectionVars false
set_option linter.unusedSimpArgs false
namespace Go.Eng
open Go Classical
attribute [local congr] ite_cg
variable {n : Api_Net}

theorem rCross_spec (hs : SmN n) (hr : RightP n) {p v : Int} : palingref17_Cross n p v = some (crossI n p v) := by
  unfold palingref17_Cross
  rw [rOther_spec hs hr]
  simp only [bind_ite, Option.bind_some, dif1, dif2, dif3, dif4, dif5, dif6, dif7, dnot, ibeq, ibne, decide_eq_true_eq, if_not2, ge_iff_le, gt_iff_lt, fst_ret, Bool.false_eq_true, decide_false]
  by_cases h : 0 ≤ othI n p
  case neg =>
    have h1 : othI n p < 0 := by omega
    unfold crossI
    simp [h, h1]
  have h1 : ¬ othI n p < 0 := by omega
  have hO := othI_othP h
  have f1 := hs.tagged _ (getI_mem hO.ip)
  have f2 := hs.tagged _ (getI_mem hO.iq)
  simp only [h1, if_false, palingref17_Cross_J1, nth_getI hO.ip, nth_getI hO.iq, rIn_spec f1, rIn_spec f2, bind_ite, Option.bind_some, dif1, dif2, dif3, dif4, dif5, dif6, dif7, dnot, ibeq, ibne, decide_eq_true_eq, if_not2, ge_iff_le, gt_iff_lt, fst_ret, Bool.false_eq_true, decide_false, mrg1, mrg2, mrg3, mrg4, mrg5, mrg6, mrg7]
  have pp := hr.ports _ hO.ip
  have pq := hr.ports _ hO.iq
  have u1 := pp.2.2.2.2.1
  have u3 := pq.2.1
  unfold crossI toI MemP
  generalize othI n p = q at *
  generalize getI n.ports p = a at *
  generalize getI n.ports q = b at *
  by_cases hv0 : v = 0
  · simp [hv0]
  by_cases hv : v = a.native
  · subst hv
    by_cases hb : b.native = 0
    · have : ¬ 0 < b.native := by omega
      simp [h, hv0, hb, u1]
    · have : 0 < b.native := by omega
      simp [h, hv0, hb, this]
  · have hv' : ¬ a.native = v := fun e => hv e.symm
    by_cases m1 : v ∈ a.tagged <;> by_cases m2 : v ∈ b.tagged <;> simp [h, hv0, hv, hv', m1, m2]

theorem rDomain_spec (hs : SmN n) (hr : RightP n) {p v : Int} : palingref17_Domain n p v = some (if (crossI n p v).2.2 = true then (domIx n.domains (getI n.ports (othI n p)).dev (toI n p (othI n p) v), true) else (0, false)) := by
  simp only [palingref17_Domain, rCross_spec hs hr, Option.bind_some]
  unfold crossI
  by_cases h : 0 ≤ othI n p ∧ MemP (getI n.ports p) v ∧ toI n p (othI n p) v ≠ 0
  · have hO := othI_othP h.1
    simp only [if_pos h, Bool.not_true, Bool.false_eq_true, if_false, if_true, nth_getI hO.iq, Option.bind_some, rAt_spec hs.domains]
  · simp only [if_neg h, Bool.not_false, Bool.false_eq_true, if_false, if_true]

end Go.Eng
