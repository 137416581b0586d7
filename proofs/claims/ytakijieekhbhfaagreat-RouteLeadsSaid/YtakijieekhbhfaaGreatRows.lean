/-
  No cell of these rows narrows 'for every input' (looked for: loops, veiled, ifaces, maps, wideKeys, modest, calm, conditions, laid).
  DERIVED. THE GIVEN ROWS OF THIS SEAT. 2 by the template 'for every input the law returns true; each argument reads behind the call as it read before'; 0 by the template 'total and deterministic' (their statements: YtakijieekhbhfaaGreatTotals.lean).
  GIVEN WITH THE SEED: the statements are not yours to turn. If you find one false, say at which input.
  Laid BY PROGRAM, IN A SANDBOX (cutbox-rows.mjs): the forced cells as the released guide's own fill.sh prints them over the translation e5bb5ab2ddaa6faa… (all of the seat's roots in one cut). By AI agents, Wed Nov 11 2026. No macro, syntax, notation, axiom, sorry.
-/
import Derived.Test.YtakijieekhbhfaaGreatChecked
import GoSem.Claim
import GoSem.ClaimJoined
import GoSem.ClaimMapViews
import Derived.JoinedTies
import Derived.KernelRfl
namespace Go.Proofs.YtakijieekhbhfaaGreat
/- THE CELL 'sum', in the pinned program and in every row, IS THE sha256 OF THE DUMP (.gsa) THAT YtakijieekhbhfaaGreatProg.lean LOADS. Nothing in Lean hashes anything: it is a label: what it is worth is what the hold of that sum in a sandbox is worth. -/
noncomputable def Tryz.pinned : Pinned := { name := "ytakijieekhbhfaagreat", sum := "e5bb5ab2ddaa6faa7cc5989a2a438870657aafbe57b74eeb30dd0459eafc8d21", checked := Tryz.checked }
namespace Rows
def none {H : Type} : Left H := { results := [], args := [] }

/-- 'palinglaw30.RouteLeads': WHATEVER THE INPUT: true; the input reads as it did. -/
def routeLeadsSpec : ChangeSpec := { name := "routeLeads", fn := fun _ => fun
  | [d1, d2, d3, d4] => { results := [.lit (.bool true)], args := [d1, d2, d3, d4] }
  | _ => none }
def routeLeadsRow : OpenClaim := { program := "ytakijieekhbhfaagreat", sum := "e5bb5ab2ddaa6faa7cc5989a2a438870657aafbe57b74eeb30dd0459eafc8d21", func := "paling/palinglaw30.RouteLeads", spec := "routeLeads", unfollowed := true, recurses := true, apart := false }
def RouteLeadsSaid : Prop := routeLeadsRow.holds Tryz.pinned (OpenSpec.ofChange routeLeadsSpec)

/-- ITS FALSE NEIGHBOUR: 'it returns false'. Refute it at one input. -/
def routeLeadsWrong : ChangeSpec := { name := "routeLeads", fn := fun _ => fun
  | [d1, d2, d3, d4] => { results := [.lit (.bool false)], args := [d1, d2, d3, d4] }
  | _ => none }
def RouteLeadsWrongFalsely : Prop := routeLeadsRow.holds Tryz.pinned (OpenSpec.ofChange routeLeadsWrong)

/-- 'palinglaw28.LeaveMeshes': WHATEVER THE INPUT: true; the input reads as it did. -/
def leaveMeshesSpec : ChangeSpec := { name := "leaveMeshes", fn := fun _ => fun
  | [d1, d2, d3, d4, d5] => { results := [.lit (.bool true)], args := [d1, d2, d3, d4, d5] }
  | _ => none }
def leaveMeshesRow : OpenClaim := { program := "ytakijieekhbhfaagreat", sum := "e5bb5ab2ddaa6faa7cc5989a2a438870657aafbe57b74eeb30dd0459eafc8d21", func := "paling/palinglaw28.LeaveMeshes", spec := "leaveMeshes", unfollowed := true, recurses := true, apart := false }
def LeaveMeshesSaid : Prop := leaveMeshesRow.holds Tryz.pinned (OpenSpec.ofChange leaveMeshesSpec)

/-- ITS FALSE NEIGHBOUR: 'it returns false'. Refute it at one input. -/
def leaveMeshesWrong : ChangeSpec := { name := "leaveMeshes", fn := fun _ => fun
  | [d1, d2, d3, d4, d5] => { results := [.lit (.bool false)], args := [d1, d2, d3, d4, d5] }
  | _ => none }
def LeaveMeshesWrongFalsely : Prop := leaveMeshesRow.holds Tryz.pinned (OpenSpec.ofChange leaveMeshesWrong)

/- THE SECOND FORM. 'bulk': how many values and letters a reading holds, each counted each time it is reached (what is shared counts as often as it is met; a slice's spare places count too). A statement '..UptoSaid' is the law's where the arguments, and the package variables that the reading takes, are together of bulk at most 1048576: NARROWER than '..Said'. Prove '..Said' where nothing that the law and all that it calls make is longer than what came in: it says more and counts as full. Else prove '..UptoSaid'. A law counts once. -/
mutual
def uptoBulk {H : Type} : DataW H → Nat
  | .lit (.string bytes) => bytes.length + 1
  | .lit _ => 1
  | .nil => 1
  | .ptr d => uptoBulk d + 1
  | .slice elems spare => uptoBulkAll elems + uptoBulkAll spare + 1
  | .agg parts => uptoBulkAll parts + 1
  | .iface _ d => uptoBulk d + 1
  | .map entries => uptoBulkEntries entries + 1
  | .held _ => 1
def uptoBulkAll {H : Type} : List (DataW H) → Nat
  | [] => 0
  | d :: r => uptoBulk d + uptoBulkAll r
def uptoBulkEntries {H : Type} : List (Lit × DataW H) → Nat
  | [] => 0
  | x :: r => uptoBulkEntry x + uptoBulkEntries r
def uptoBulkEntry {H : Type} : Lit × DataW H → Nat
  | (.string bytes, d) => bytes.length + uptoBulk d + 1
  | (_, d) => uptoBulk d + 1
 end
def uptoSmall : (H : Type) → List (DataW H) → Bool := fun _ ds => decide (uptoBulkAll ds ≤ 1048576)
def OpenSpec.upto (s : _root_.Go.ChangeSpec) : _root_.Go.OpenSpec := { _root_.Go.OpenSpec.ofChange s with cond := some uptoSmall }

/-- 'palinglaw30.RouteLeads', WHERE WHAT IT READS IS OF BULK AT MOST 1048576: true; the input reads as it did. -/
def routeLeadsUptoRow : OpenClaim := { program := "ytakijieekhbhfaagreat", sum := "e5bb5ab2ddaa6faa7cc5989a2a438870657aafbe57b74eeb30dd0459eafc8d21", func := "paling/palinglaw30.RouteLeads", spec := "routeLeads", unfollowed := true, recurses := true, apart := false, narrowed := true }
def RouteLeadsUptoSaid : Prop := routeLeadsUptoRow.holds Tryz.pinned (OpenSpec.upto routeLeadsSpec)

/-- 'palinglaw28.LeaveMeshes', WHERE WHAT IT READS IS OF BULK AT MOST 1048576: true; the input reads as it did. -/
def leaveMeshesUptoRow : OpenClaim := { program := "ytakijieekhbhfaagreat", sum := "e5bb5ab2ddaa6faa7cc5989a2a438870657aafbe57b74eeb30dd0459eafc8d21", func := "paling/palinglaw28.LeaveMeshes", spec := "leaveMeshes", unfollowed := true, recurses := true, apart := false, narrowed := true }
def LeaveMeshesUptoSaid : Prop := leaveMeshesUptoRow.holds Tryz.pinned (OpenSpec.upto leaveMeshesSpec)

end Rows
end Go.Proofs.YtakijieekhbhfaaGreat
