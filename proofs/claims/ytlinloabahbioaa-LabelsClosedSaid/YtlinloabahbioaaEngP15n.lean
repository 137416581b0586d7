/- Plain laws of chapter 15: what a domain's ports are. -/
import Derived.Test.YtlinloabahbioaaEngP15
set_option linter.unusedVariables false
set_option linter.unusedSectionVars false
set_option linter.unusedSimpArgs false
namespace Go.Eng
open Go Classical
attribute [local congr] ite_cg
section
variable {n : Api_Net}
/-- A port is one of a domain's. -/
def InDom (n : Api_Net) (k : Int) (p : Api_Port) : Prop := p.dev = (getI n.domains k).dev ∧ MemP p (getI n.domains k).vlan
noncomputable def membersL (n : Api_Net) (k : Int) : List Int := gatherI n.ports (fun _ p => InDom n k p) (fun i _ => i)
end
end Go.Eng
