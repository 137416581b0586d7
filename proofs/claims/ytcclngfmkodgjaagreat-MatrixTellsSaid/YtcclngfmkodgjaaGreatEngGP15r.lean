/- Part of the proof of MatrixTells: plain laws of the printed mirrors. No conditions. -/
import Derived.Test.YtcclngfmkodgjaaGreatEngGV0
import Derived.Test.YtcclngfmkodgjaaGreatEngGP1
set_option linter.unusedVariables false
set_option linter.unusedSectionVars false
set_option linter.unusedSimpArgs false
namespace Go.Eng
open Go Classical
attribute [local congr] Yl
section
end
end Go.Eng

set_option linter.unusedVariables false
set_option linter.unusedSectionVars false
set_option linter.unusedSimpArgs false
namespace Go.Eng
open Go Classical
attribute [local congr] Yl

/-! ### Items deleted -/
/-! ### Ports that may be gone out at -/
section
variable {n:Z2} {fw:List Bool}
structure Zcf (n:Z2) (fw:List Bool):Prop where
 right:ZM n
 len:fw.length=n.links.length
theorem Zcf.link (h:Zcf n fw) {p:Int} (hp:inL n.ports p):(Z0 n.ports p).link= -1∨inL fw (Z0 n.ports p).link:=by
 rcases(h.right.ports p hp).2.2.2.2.2.2.2.2 with h1|h1
 ·exact .inl h1
 ·right
  have:=h1.1
  unfold inL at this⊢
  rw[h.len];exact this
end
end Go.Eng
