/- Chapter 18 (domains): with a static entry a net may be: DomainsKeeps. -/
import Derived.Test.YtgohlmiaddkkeaaGreatEngGR15
import Derived.Test.YtgohlmiaddkkeaaGreatEngGP1
import Derived.Test.YtgohlmiaddkkeaaGreatEngGF1
import Derived.Test.YtgohlmiaddkkeaaGreatEngL7s
set_option linter.unusedVariables false
set_option linter.unusedSectionVars false
set_option linter.unusedSimpArgs false
namespace Go.Eng
open Go Classical
attribute [local congr] ite_cg
section
variable {n : Api_Net} {l : Api_Line}
structure StatOk (n : Api_Net) (l : Api_Line) (d p : Int) : Prop where
  right : RightP n
  ed : d = domIx n.domains (devI n l.dev) l.vlan
  ep : p = portI n (devI n l.dev) l.port
  id : inL n.domains d
  ip : inL n.ports p
  mem : MemP (getI n.ports p) l.vlan
  free : statI n d l.mac < 0
  few : n.statics.length < 64
end
end Go.Eng
