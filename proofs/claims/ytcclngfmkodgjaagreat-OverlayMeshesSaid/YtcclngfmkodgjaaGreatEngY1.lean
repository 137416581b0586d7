/- Chapters 02 and 03: texts of addresses, and of lists of them, on the reference's side. -/
import Derived.Test.YtcclngfmkodgjaaGreatEngY0
set_option linter.unusedVariables false
set_option linter.unusedSectionVars false
set_option linter.unusedSimpArgs false
namespace Go.Eng
open Go Classical
section


end
/-! ### Lists of addresses -/
section


end
end Go.Eng
