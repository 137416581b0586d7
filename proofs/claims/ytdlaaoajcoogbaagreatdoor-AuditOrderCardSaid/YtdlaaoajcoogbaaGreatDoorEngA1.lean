/- Chapter 47 (audit): what is noted, on the reference's side. -/
import Derived.Test.YtdlaaoajcoogbaaGreatDoorEngA0
set_option linter.unusedVariables false
set_option linter.unusedSectionVars false
set_option linter.unusedSimpArgs false
namespace Go.Eng
open Go Classical
attribute [local congr] ite_cg
section

section


end
end
end Go.Eng
