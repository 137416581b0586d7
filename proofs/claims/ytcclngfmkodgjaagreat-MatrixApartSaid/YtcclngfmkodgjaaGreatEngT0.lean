/- Plain laws of chapter 03 (numbers as texts): a number written in decimal digits is read again. -/
import Derived.Test.YtcclngfmkodgjaaGreatEngGP1
set_option linter.unusedVariables false
set_option linter.unusedSectionVars false
set_option linter.unusedSimpArgs false
namespace Go.Eng
open Go Classical

end Go.Eng
