/- Chapter 31 (bridge): things that go out, alike on both sides: BridgeSames. -/
import Derived.Test.YtngflgclljfmjaaGreatEngGP1
import Derived.Test.YtngflgclljfmjaaGreatMAM
set_option linter.unusedVariables false
set_option linter.unusedSectionVars false
set_option linter.unusedSimpArgs false
namespace Go.Eng
open Go Classical
attribute [local congr] ite_cg
def toldO (x : Bridge_Out) : Palingref31_Out := ⟨x.kind, x.port, x.domain, x.bytes, x.frame, x.error⟩
theorem works31 : palinglaw31_works = some true := by kernel_rfl
end Go.Eng
