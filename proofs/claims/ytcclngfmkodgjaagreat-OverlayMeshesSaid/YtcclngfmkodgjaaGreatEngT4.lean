/- Plain laws of chapter 11: whether a link's line may be, on both sides. -/
import Derived.Test.YtcclngfmkodgjaaGreatEngT3
import Derived.Test.YtcclngfmkodgjaaGreatEngGR15
set_option linter.unusedVariables false
set_option linter.unusedSectionVars false
set_option linter.unusedSimpArgs false
namespace Go.Eng
open Go Classical
attribute [local congr] ite_cg

end Go.Eng
