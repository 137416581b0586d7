/- Chapters 02 and 03: texts of addresses, and of lists of them, on the reference's side. -/
import Derived.Test.YtgohlmiaddkkeaaGreatEngY0
set_option linter.unusedVariables false
set_option linter.unusedSectionVars false
set_option linter.unusedSimpArgs false
namespace Go.Eng
open Go Classical
section
variable {L : List Int} (hb : ∀ x ∈ L, 0 ≤ x ∧ x < 256) (hL : L.length ≤ 1000)
include hb hL
end
/-! ### Lists of addresses -/
section
variable {l : List Int} (hl : l.length ≤ 16) (ho : ∀ x ∈ l, 0 ≤ x ∧ x < 4294967296)
include hl ho
end
end Go.Eng
