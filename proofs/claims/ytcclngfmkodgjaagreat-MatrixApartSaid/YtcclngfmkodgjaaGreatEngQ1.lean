/- Numbers as texts: the program's writing (num.Text). -/
import Derived.Test.YtcclngfmkodgjaaGreatEngT0
set_option linter.unusedVariables false
set_option linter.unusedSectionVars false
set_option linter.unusedSimpArgs false
namespace Go.Eng
open Go Classical
end Go.Eng
