/- Chapter 18 (domains): with a static entry a net may be: DomainsKeeps. -/
import Derived.Test.YtcclngfmkodgjaaGreatEngGR15
import Derived.Test.YtcclngfmkodgjaaGreatEngGP1
import Derived.Test.YtcclngfmkodgjaaGreatEngGF1
import Derived.Test.YtcclngfmkodgjaaGreatEngL7s
set_option linter.unusedVariables false
set_option linter.unusedSectionVars false
set_option linter.unusedSimpArgs false
namespace Go.Eng
open Go Classical
attribute [local congr] ite_cg
section

end
end Go.Eng
