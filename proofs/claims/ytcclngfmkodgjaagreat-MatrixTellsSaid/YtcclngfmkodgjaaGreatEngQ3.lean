/- Chapter 18 (domains): with a static entry a net may be: DomainsKeeps. -/
import Derived.Test.YtcclngfmkodgjaaGreatEngGPS
import Derived.Test.YtcclngfmkodgjaaGreatEngGP1
set_option linter.unusedVariables false
set_option linter.unusedSectionVars false
set_option linter.unusedSimpArgs false
namespace Go.Eng
open Go Classical
attribute [local congr] Yl
section

end
end Go.Eng
