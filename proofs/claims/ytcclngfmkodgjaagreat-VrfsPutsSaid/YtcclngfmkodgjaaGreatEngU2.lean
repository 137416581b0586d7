/- Chapter 11: words of lines that hold no lists; static entries' lines, on both sides. -/
import Derived.Test.YtcclngfmkodgjaaGreatEngU1
import Derived.Test.YtcclngfmkodgjaaGreatEngT4
import Derived.Test.YtcclngfmkodgjaaGreatEngQ3
import Derived.Test.YtcclngfmkodgjaaGreatEngGL7a
set_option linter.unusedVariables false
set_option linter.unusedSectionVars false
set_option linter.unusedSimpArgs false
namespace Go.Eng
open Go Classical
/-! ### A line's words without lists -/
structure Sc where
  dev : ByteArray
  port : ByteArray
  peer : ByteArray
  far : ByteArray
  name : ByteArray
  mac : Int
  addr : Int
  bits : Int
  vlan : Int
  num : Int
  cost : Int
abbrev fS (ws : List ByteArray) (row : Int) (fm : ByteArray) (kd : Int) := fun s : (List Int) × (List Int) × (List Int) × ByteArray × ByteArray × ByteArray × ByteArray × ByteArray × Int × Int × Int × Int × Int × Int × Int × Int × (List Int) => match s with | (l31, l32, l33, v34, v35, v36, v37, v38, v39, v40, v41, v42, v43, v44, v45, v46, l47) => palingref11_Read_L3 ws row fm kd l31 l32 l33 v34 v35 v36 v37 v38 v39 v40 v41 v42 v43 v44 v45 v46 l47
section
variable {ws : List ByteArray} {row kd : Int} {fm : ByteArray}
end
end Go.Eng
