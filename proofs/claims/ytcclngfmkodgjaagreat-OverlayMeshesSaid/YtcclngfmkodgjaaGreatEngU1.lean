/- Chapter 01: an address's text is read again. -/
import Derived.Test.YtcclngfmkodgjaaGreatEngT2
import Derived.Test.YtcclngfmkodgjaaGreatEngGL7a
set_option linter.unusedVariables false
set_option linter.unusedSectionVars false
set_option linter.unusedSimpArgs false
namespace Go.Eng
open Go Classical
end Go.Eng
