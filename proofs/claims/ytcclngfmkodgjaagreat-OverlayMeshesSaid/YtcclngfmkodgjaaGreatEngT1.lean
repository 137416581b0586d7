/- Plain laws of chapter 03: what is written is read again. -/
import Derived.Test.YtcclngfmkodgjaaGreatEngT0
import Derived.Test.YtcclngfmkodgjaaGreatEngPE
set_option linter.unusedVariables false
set_option linter.unusedSectionVars false
set_option linter.unusedSimpArgs false
namespace Go.Eng
open Go Classical

end Go.Eng
