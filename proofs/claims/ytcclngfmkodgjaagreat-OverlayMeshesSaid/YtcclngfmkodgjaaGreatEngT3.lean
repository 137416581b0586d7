/- Plain laws of chapter 11: a link's line, on the reference's side. -/
import Derived.Test.YtcclngfmkodgjaaGreatEngT2
import Derived.Test.YtcclngfmkodgjaaGreatEngGF1
set_option linter.unusedVariables false
set_option linter.unusedSectionVars false
set_option linter.unusedSimpArgs false
namespace Go.Eng
open Go Classical

section
variable {a b c d : ByteArray} {row : Int}
abbrev nilS : ByteArray := ⟨#[]⟩
end
end Go.Eng
