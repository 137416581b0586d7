/- Plain laws of chapter 01: every address has a text. -/
import Derived.Test.YtcclngfmkodgjaaGreatEngT1
set_option linter.unusedVariables false
set_option linter.unusedSectionVars false
set_option linter.unusedSimpArgs false
namespace Go.Eng
open Go Classical

end Go.Eng
