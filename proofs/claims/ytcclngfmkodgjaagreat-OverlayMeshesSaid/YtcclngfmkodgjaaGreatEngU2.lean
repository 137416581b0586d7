/- Chapter 11: words of lines that hold no lists; static entries' lines, on both sides. -/
import Derived.Test.YtcclngfmkodgjaaGreatEngU1
import Derived.Test.YtcclngfmkodgjaaGreatEngT4
import Derived.Test.YtcclngfmkodgjaaGreatEngQ3
import Derived.Test.YtcclngfmkodgjaaGreatEngGL7a
set_option linter.unusedVariables false
set_option linter.unusedSectionVars false
set_option linter.unusedSimpArgs false
namespace Go.Eng
open Go Classical
/-! ### A line's words without lists -/
structure Sc where
  dev : ByteArray
  port : ByteArray
  peer : ByteArray
  far : ByteArray
  name : ByteArray
  mac : Int
  addr : Int
  bits : Int
  vlan : Int
  num : Int
  cost : Int
section
variable {ws : List ByteArray} {row kd : Int} {fm : ByteArray}
end
end Go.Eng
