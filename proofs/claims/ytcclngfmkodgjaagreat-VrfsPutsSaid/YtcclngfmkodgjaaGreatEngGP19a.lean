/- Part of the proof of VrfsPuts: plain laws of the printed mirrors. No conditions. -/
import Derived.Test.YtcclngfmkodgjaaGreatEngGR15
import Derived.Test.YtcclngfmkodgjaaGreatEngGP1
set_option linter.unusedVariables false
set_option linter.unusedSectionVars false
set_option linter.unusedSimpArgs false
namespace Go.Eng
open Go Classical
attribute [local congr] ite_cg
section

end
end Go.Eng

set_option linter.unusedVariables false
set_option linter.unusedSectionVars false
set_option linter.unusedSimpArgs false
namespace Go.Eng
open Go Classical
attribute [local congr] ite_cg
section

end
end Go.Eng

set_option linter.unusedVariables false
set_option linter.unusedSectionVars false
set_option linter.unusedSimpArgs false
namespace Go.Eng
open Go Classical
attribute [local congr] ite_cg
section

end
end Go.Eng
