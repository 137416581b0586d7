/- Plain laws of chapter 11: a link's line, on the reference's side. -/
import Derived.Test.YtcclngfmkodgjaaGreatEngT2
import Derived.Test.YtcclngfmkodgjaaGreatEngGF1
set_option linter.unusedVariables false
set_option linter.unusedSectionVars false
set_option linter.unusedSimpArgs false
namespace Go.Eng
open Go Classical

section
variable {a b c d : ByteArray} {row : Int}
abbrev nilS : ByteArray := ⟨#[]⟩
theorem wordN {x dev port peer far name : ByteArray} {k r kd m1 m2 m3 m4 m5 m6 : Int} {l1 l2 l3 l4 : List Int} (hx : x.size ≤ 1000000) : palingref11_word_own 78 x k r kd dev port peer far name m1 m2 m3 m4 m5 m6 l1 l2 l3 l4 =
    if NameP x then (palingref11_name_own x k r kd dev port peer far name m1 m2 m3 m4 m5 m6 l1 l2 l3 l4).bind (fun q => some (Sum.inl (q.1, q.2.1, q.2.2.1, q.2.2.2.1, q.2.2.2.2, m1, m2, m3, m4, m5, m6, 0))) else some (Sum.inl (dev, port, peer, far, name, m1, m2, m3, m4, m5, m6, 20)) := by
  unfold palingref11_word_own
  rw [if_pos (show ((78 : Int) == 78) = true from rfl), r03Name_spec hx, Option.bind_some]
  by_cases h : NameP x
  · rw [if_neg (by simpa using h), if_pos h]
  · rw [if_pos (by simpa using h), if_neg h]
end
end Go.Eng
