/- Static entries on both sides. -/
import Derived.Test.YtcclngfmkodgjaaGreatEngGP1
import Derived.Test.YtcclngfmkodgjaaGreatEngGL7a
set_option linter.unusedVariables false
set_option linter.unusedSectionVars false
set_option linter.unusedSimpArgs false
namespace Go.Eng
open Go Classical
attribute [local congr] ite_cg
section

end
end Go.Eng
