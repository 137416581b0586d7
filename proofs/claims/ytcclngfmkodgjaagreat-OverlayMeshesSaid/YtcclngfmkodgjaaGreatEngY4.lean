/- Chapter 16 (ports): devices and ports put on both sides: PortsPuts. -/
import Derived.Test.YtcclngfmkodgjaaGreatEngY3
import Derived.Test.YtcclngfmkodgjaaGreatEngGPR4
import Derived.Test.YtcclngfmkodgjaaGreatEngGR15
set_option linter.unusedVariables false
set_option linter.unusedSectionVars false
set_option linter.unusedSimpArgs false
namespace Go.Eng
open Go Classical
attribute [local congr] ite_cg
section
variable {n : Api_Net} {l : Api_Line} {k : Int} {LP : Prop}
theorem rsame_none : palingref15_Same ⟨[], [], [], [], [], [], [], []⟩ ⟨[], [], [], [], [], [], [], []⟩ = some true := by kernel_rfl
end
end Go.Eng
