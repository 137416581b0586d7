/- Chapter 47 (audit): how notes are written, on both sides: AuditTells. -/
import Derived.Test.YtdlaaoajcoogbaaGreatDoorEngA1
set_option linter.unusedVariables false
set_option linter.unusedSectionVars false
set_option linter.unusedSimpArgs false
namespace Go.Eng
open Go Classical
attribute [local congr] ite_cg
section
variable {n : Api_Net}
section
variable (hs : SmN n) (hg : BndN n 200 100) (hr : RightP n) (ho : n.Ok)
include hs hg hr ho
end
/-! ### Texts -/
theorem works47 : palinglaw47_works = some true := by kernel_rfl
end
end Go.Eng
