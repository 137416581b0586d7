/- Plain laws of chapter 01: every address has a text. -/
import Derived.Test.YtcclngfmkodgjaaGreatEngT1
set_option linter.unusedVariables false
set_option linter.unusedSectionVars false
set_option linter.unusedSimpArgs false
namespace Go.Eng
open Go Classical

theorem linT1 {α : Type} {l : List α} {i : Int} (h : inL l i) : lin l i = true := by rw [lin_dec]; exact decide_eq_true h
end Go.Eng
