/- Chapter 11: lines' words, on both sides. -/
import Derived.Test.YtcclngfmkodgjaaGreatEngY1
set_option linter.unusedVariables false
set_option linter.unusedSectionVars false
set_option linter.unusedSimpArgs false
namespace Go.Eng
open Go Classical
attribute [local congr] ite_cg
structure Gs where
  s : Sc
  T : List Int
  I : List Int
  E : List Int
  A : List Int
section
variable {ws : List ByteArray} {row kd : Int} {fm : ByteArray}
end
/-! ### Words -/
section
variable {x : ByteArray} {nm row kd n : Int} {g : Gs}
end
end Go.Eng
