/- Chapter 11: which lines of devices, ports, VTEPs, VNIs and flood lists may be, on both sides. -/
import Derived.Test.YtcclngfmkodgjaaGreatEngY2
set_option linter.unusedVariables false
set_option linter.unusedSectionVars false
set_option linter.unusedSimpArgs false
namespace Go.Eng
open Go Classical
attribute [local congr] ite_cg
section
variable {a b c d e f : ByteArray}
end
def g0 : Gs := ⟨⟨nilS, nilS, nilS, nilS, nilS, 0, 0, 0, 0, 0, 0⟩, [], [], [], []⟩
section
variable {l : Api_Line}
/-! #### Devices -/
/-! #### VTEPs -/
/-! #### VNIs -/
/-! #### Flood lists -/
/-! #### Ports -/
end
end Go.Eng
