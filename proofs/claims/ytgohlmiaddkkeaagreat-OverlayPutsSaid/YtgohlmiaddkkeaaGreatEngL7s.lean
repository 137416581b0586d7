/- Static entries on both sides. -/
import Derived.Test.YtgohlmiaddkkeaaGreatEngGP1
import Derived.Test.YtgohlmiaddkkeaaGreatEngGL7a
set_option linter.unusedVariables false
set_option linter.unusedSectionVars false
set_option linter.unusedSimpArgs false
namespace Go.Eng
open Go Classical
attribute [local congr] ite_cg
section
variable {n : Api_Net}
noncomputable def statI (n : Api_Net) (d x : Int) : Int := fstI n.statics fun s => s.domain = d ∧ s.mac = x
end
end Go.Eng
