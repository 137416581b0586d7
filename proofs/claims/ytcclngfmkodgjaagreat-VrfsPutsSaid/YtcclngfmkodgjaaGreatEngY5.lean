/- Chapter 19 (overlay): VTEPs, VNIs and flood lists put on both sides: OverlayPuts. -/
import Derived.Test.YtcclngfmkodgjaaGreatEngY4
import Derived.Test.YtcclngfmkodgjaaGreatEngGP19a
set_option linter.unusedVariables false
set_option linter.unusedSectionVars false
set_option linter.unusedSimpArgs false
namespace Go.Eng
open Go Classical
attribute [local congr] ite_cg
section
variable {n : Api_Net} {l : Api_Line} {k : Int} {LP : Prop}
noncomputable def obI (n : Api_Net) (l : Api_Line) (k : Int) (LP : Prop) : Int × Int :=
  if ¬ (l.kind = k ∧ LP ∧ RightP n) then (0, 2) else if devI n l.dev < 0 then (0, 31) else (devI n l.dev, 0)
/-! ### VTEPs -/
/-! ### VNIs -/
/-! ### Flood lists -/
end
end Go.Eng
