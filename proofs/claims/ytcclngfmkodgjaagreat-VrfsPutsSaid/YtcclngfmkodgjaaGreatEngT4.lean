/- Plain laws of chapter 11: whether a link's line may be, on both sides. -/
import Derived.Test.YtcclngfmkodgjaaGreatEngT3
import Derived.Test.YtcclngfmkodgjaaGreatEngGR15
set_option linter.unusedVariables false
set_option linter.unusedSectionVars false
set_option linter.unusedSimpArgs false
namespace Go.Eng
open Go Classical
attribute [local congr] ite_cg

theorem rSameL_spec {a b : Api_Line} (h1 : Few a.tagged) (h2 : Few a.imports) (h3 : Few a.exports) (h4 : Few a.addrs) : palingref11_Same a b = some (decide (a = b)) := by
  by_cases e : a = b
  · subst e
    simp [palingref11_Same, seqB_dec, rInts_spec h1, rInts_spec h2, rInts_spec h3, rAddrs_spec h4]
  · rw [decide_eq_false e]
    cases a; cases b
    simp only [palingref11_Same, seqB_dec, rInts_spec h1, rInts_spec h2, rInts_spec h3, rAddrs_spec h4, Option.bind_some, beq_iff_eq, decide_eq_true_eq] at *
    repeat' split
    all_goals first | rfl | skip
    all_goals simp_all
theorem sSameL_spec {a b : Api_Line} (h1 : Few a.tagged) (h2 : Few a.imports) (h3 : Few a.exports) (h4 : Few a.addrs) : stmt_Same a b = some (decide (a = b)) := by
  by_cases e : a = b
  · subst e
    simp [stmt_Same, seqB_dec, Equal_int_spec h1, Equal_int_spec h2, Equal_int_spec h3, Equal_uint32_spec h4]
  · rw [decide_eq_false e]
    cases a; cases b
    simp only [stmt_Same, seqB_dec, Equal_int_spec h1, Equal_int_spec h2, Equal_int_spec h3, Equal_uint32_spec h4, Option.bind_some, beq_iff_eq, decide_eq_true_eq] at *
    repeat' split
    all_goals first | rfl | skip
    all_goals simp_all
end Go.Eng
