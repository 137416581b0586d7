/-
  No cell of these rows narrows 'for every input' (looked for: loops, veiled, ifaces, maps, wideKeys, modest, calm, conditions, laid).
  DERIVED. THE GIVEN ROWS OF THIS SEAT. 6 by the template 'for every input the law returns true; each argument reads behind the call as it read before'; 0 by the template 'total and deterministic' (their statements: YtlinloabahbioaaTotals.lean).
  GIVEN WITH THE SEED: the statements are not yours to turn. If you find one false, say at which input.
  Laid BY PROGRAM, IN A SANDBOX (cutbox-rows.mjs): the forced cells as the released guide's own fill.sh prints them over the translation e5386db6e345760c… (all of the seat's roots in one cut). By AI agents, Wed Nov 11 2026. No macro, syntax, notation, axiom, sorry.
-/
import Derived.Test.YtlinloabahbioaaChecked
import GoSem.Claim
import GoSem.ClaimJoined
import GoSem.ClaimMapViews
import Derived.JoinedTies
import Derived.KernelRfl
namespace Go.Proofs.Ytlinloabahbioaa
/- THE CELL 'sum', in the pinned program and in every row, IS THE sha256 OF THE DUMP (.gsa) THAT YtlinloabahbioaaProg.lean LOADS. Nothing in Lean hashes anything: it is a label: what it is worth is what the hold of that sum in a sandbox is worth. -/
noncomputable def Try.pinned : Pinned := { name := "ytlinloabahbioaa", sum := "e5386db6e345760cfe5ae6cf9336b028735827ee0f113c93fe525f207fec3e58", checked := Try.checked }
namespace Rows
def none {H : Type} : Left H := { results := [], args := [] }

/-- 'palinglaw35.ReachHops': WHATEVER THE INPUT: true; the input reads as it did. -/
def reachHopsSpec : ChangeSpec := { name := "reachHops", fn := fun _ => fun
  | [d1, d2] => { results := [.lit (.bool true)], args := [d1, d2] }
  | _ => none }
def reachHopsRow : OpenClaim := { program := "ytlinloabahbioaa", sum := "e5386db6e345760cfe5ae6cf9336b028735827ee0f113c93fe525f207fec3e58", func := "paling/palinglaw35.ReachHops", spec := "reachHops", unfollowed := true, recurses := true, apart := false }
def ReachHopsSaid : Prop := reachHopsRow.holds Try.pinned (OpenSpec.ofChange reachHopsSpec)

/-- ITS FALSE NEIGHBOUR: 'it returns false'. Refute it at one input. -/
def reachHopsWrong : ChangeSpec := { name := "reachHops", fn := fun _ => fun
  | [d1, d2] => { results := [.lit (.bool false)], args := [d1, d2] }
  | _ => none }
def ReachHopsWrongFalsely : Prop := reachHopsRow.holds Try.pinned (OpenSpec.ofChange reachHopsWrong)

/-- 'palinglaw35.ReachPaths': WHATEVER THE INPUT: true; the input reads as it did. -/
def reachPathsSpec : ChangeSpec := { name := "reachPaths", fn := fun _ => fun
  | [d1, d2, d3] => { results := [.lit (.bool true)], args := [d1, d2, d3] }
  | _ => none }
def reachPathsRow : OpenClaim := { program := "ytlinloabahbioaa", sum := "e5386db6e345760cfe5ae6cf9336b028735827ee0f113c93fe525f207fec3e58", func := "paling/palinglaw35.ReachPaths", spec := "reachPaths", unfollowed := true, recurses := true, apart := false }
def ReachPathsSaid : Prop := reachPathsRow.holds Try.pinned (OpenSpec.ofChange reachPathsSpec)

/-- ITS FALSE NEIGHBOUR: 'it returns false'. Refute it at one input. -/
def reachPathsWrong : ChangeSpec := { name := "reachPaths", fn := fun _ => fun
  | [d1, d2, d3] => { results := [.lit (.bool false)], args := [d1, d2, d3] }
  | _ => none }
def ReachPathsWrongFalsely : Prop := reachPathsRow.holds Try.pinned (OpenSpec.ofChange reachPathsWrong)

/-- 'palinglaw35.ReachGoes': WHATEVER THE INPUT: true; the input reads as it did. -/
def reachGoesSpec : ChangeSpec := { name := "reachGoes", fn := fun _ => fun
  | [d1, d2, d3] => { results := [.lit (.bool true)], args := [d1, d2, d3] }
  | _ => none }
def reachGoesRow : OpenClaim := { program := "ytlinloabahbioaa", sum := "e5386db6e345760cfe5ae6cf9336b028735827ee0f113c93fe525f207fec3e58", func := "paling/palinglaw35.ReachGoes", spec := "reachGoes", unfollowed := true, recurses := true, apart := false }
def ReachGoesSaid : Prop := reachGoesRow.holds Try.pinned (OpenSpec.ofChange reachGoesSpec)

/-- ITS FALSE NEIGHBOUR: 'it returns false'. Refute it at one input. -/
def reachGoesWrong : ChangeSpec := { name := "reachGoes", fn := fun _ => fun
  | [d1, d2, d3] => { results := [.lit (.bool false)], args := [d1, d2, d3] }
  | _ => none }
def ReachGoesWrongFalsely : Prop := reachGoesRow.holds Try.pinned (OpenSpec.ofChange reachGoesWrong)

/-- 'palinglaw35.ReachBoth': WHATEVER THE INPUT: true; the input reads as it did. -/
def reachBothSpec : ChangeSpec := { name := "reachBoth", fn := fun _ => fun
  | [d1, d2, d3] => { results := [.lit (.bool true)], args := [d1, d2, d3] }
  | _ => none }
def reachBothRow : OpenClaim := { program := "ytlinloabahbioaa", sum := "e5386db6e345760cfe5ae6cf9336b028735827ee0f113c93fe525f207fec3e58", func := "paling/palinglaw35.ReachBoth", spec := "reachBoth", unfollowed := true, recurses := true, apart := false }
def ReachBothSaid : Prop := reachBothRow.holds Try.pinned (OpenSpec.ofChange reachBothSpec)

/-- ITS FALSE NEIGHBOUR: 'it returns false'. Refute it at one input. -/
def reachBothWrong : ChangeSpec := { name := "reachBoth", fn := fun _ => fun
  | [d1, d2, d3] => { results := [.lit (.bool false)], args := [d1, d2, d3] }
  | _ => none }
def ReachBothWrongFalsely : Prop := reachBothRow.holds Try.pinned (OpenSpec.ofChange reachBothWrong)

/-- 'palinglaw42.LabelsClosed': WHATEVER THE INPUT: true; the input reads as it did. -/
def labelsClosedSpec : ChangeSpec := { name := "labelsClosed", fn := fun _ => fun
  | [d1, d2] => { results := [.lit (.bool true)], args := [d1, d2] }
  | _ => none }
def labelsClosedRow : OpenClaim := { program := "ytlinloabahbioaa", sum := "e5386db6e345760cfe5ae6cf9336b028735827ee0f113c93fe525f207fec3e58", func := "paling/palinglaw42.LabelsClosed", spec := "labelsClosed", unfollowed := true, recurses := true, apart := false }
def LabelsClosedSaid : Prop := labelsClosedRow.holds Try.pinned (OpenSpec.ofChange labelsClosedSpec)

/-- ITS FALSE NEIGHBOUR: 'it returns false'. Refute it at one input. -/
def labelsClosedWrong : ChangeSpec := { name := "labelsClosed", fn := fun _ => fun
  | [d1, d2] => { results := [.lit (.bool false)], args := [d1, d2] }
  | _ => none }
def LabelsClosedWrongFalsely : Prop := labelsClosedRow.holds Try.pinned (OpenSpec.ofChange labelsClosedWrong)

/-- 'palinglaw17.LinksKeeps': WHATEVER THE INPUT: true; the input reads as it did. -/
def linksKeepsSpec : ChangeSpec := { name := "linksKeeps", fn := fun _ => fun
  | [d1, d2] => { results := [.lit (.bool true)], args := [d1, d2] }
  | _ => none }
def linksKeepsRow : OpenClaim := { program := "ytlinloabahbioaa", sum := "e5386db6e345760cfe5ae6cf9336b028735827ee0f113c93fe525f207fec3e58", func := "paling/palinglaw17.LinksKeeps", spec := "linksKeeps", unfollowed := true, recurses := true, apart := false }
def LinksKeepsSaid : Prop := linksKeepsRow.holds Try.pinned (OpenSpec.ofChange linksKeepsSpec)

/-- ITS FALSE NEIGHBOUR: 'it returns false'. Refute it at one input. -/
def linksKeepsWrong : ChangeSpec := { name := "linksKeeps", fn := fun _ => fun
  | [d1, d2] => { results := [.lit (.bool false)], args := [d1, d2] }
  | _ => none }
def LinksKeepsWrongFalsely : Prop := linksKeepsRow.holds Try.pinned (OpenSpec.ofChange linksKeepsWrong)

/- THE SECOND FORM. 'bulk': how many values and letters a reading holds, each counted each time it is reached (what is shared counts as often as it is met; a slice's spare places count too). A statement '..UptoSaid' is the law's where the arguments, and the package variables that the reading takes, are together of bulk at most 1048576: NARROWER than '..Said'. Prove '..Said' where nothing that the law and all that it calls make is longer than what came in: it says more and counts as full. Else prove '..UptoSaid'. A law counts once. -/
mutual
def uptoBulk {H : Type} : DataW H → Nat
  | .lit (.string bytes) => bytes.length + 1
  | .lit _ => 1
  | .nil => 1
  | .ptr d => uptoBulk d + 1
  | .slice elems spare => uptoBulkAll elems + uptoBulkAll spare + 1
  | .agg parts => uptoBulkAll parts + 1
  | .iface _ d => uptoBulk d + 1
  | .map entries => uptoBulkEntries entries + 1
  | .held _ => 1
def uptoBulkAll {H : Type} : List (DataW H) → Nat
  | [] => 0
  | d :: r => uptoBulk d + uptoBulkAll r
def uptoBulkEntries {H : Type} : List (Lit × DataW H) → Nat
  | [] => 0
  | x :: r => uptoBulkEntry x + uptoBulkEntries r
def uptoBulkEntry {H : Type} : Lit × DataW H → Nat
  | (.string bytes, d) => bytes.length + uptoBulk d + 1
  | (_, d) => uptoBulk d + 1
 end
def uptoSmall : (H : Type) → List (DataW H) → Bool := fun _ ds => decide (uptoBulkAll ds ≤ 1048576)
def OpenSpec.upto (s : _root_.Go.ChangeSpec) : _root_.Go.OpenSpec := { _root_.Go.OpenSpec.ofChange s with cond := some uptoSmall }

/-- 'palinglaw35.ReachHops', WHERE WHAT IT READS IS OF BULK AT MOST 1048576: true; the input reads as it did. -/
def reachHopsUptoRow : OpenClaim := { program := "ytlinloabahbioaa", sum := "e5386db6e345760cfe5ae6cf9336b028735827ee0f113c93fe525f207fec3e58", func := "paling/palinglaw35.ReachHops", spec := "reachHops", unfollowed := true, recurses := true, apart := false, narrowed := true }
def ReachHopsUptoSaid : Prop := reachHopsUptoRow.holds Try.pinned (OpenSpec.upto reachHopsSpec)

/-- 'palinglaw35.ReachPaths', WHERE WHAT IT READS IS OF BULK AT MOST 1048576: true; the input reads as it did. -/
def reachPathsUptoRow : OpenClaim := { program := "ytlinloabahbioaa", sum := "e5386db6e345760cfe5ae6cf9336b028735827ee0f113c93fe525f207fec3e58", func := "paling/palinglaw35.ReachPaths", spec := "reachPaths", unfollowed := true, recurses := true, apart := false, narrowed := true }
def ReachPathsUptoSaid : Prop := reachPathsUptoRow.holds Try.pinned (OpenSpec.upto reachPathsSpec)

/-- 'palinglaw35.ReachGoes', WHERE WHAT IT READS IS OF BULK AT MOST 1048576: true; the input reads as it did. -/
def reachGoesUptoRow : OpenClaim := { program := "ytlinloabahbioaa", sum := "e5386db6e345760cfe5ae6cf9336b028735827ee0f113c93fe525f207fec3e58", func := "paling/palinglaw35.ReachGoes", spec := "reachGoes", unfollowed := true, recurses := true, apart := false, narrowed := true }
def ReachGoesUptoSaid : Prop := reachGoesUptoRow.holds Try.pinned (OpenSpec.upto reachGoesSpec)

/-- 'palinglaw35.ReachBoth', WHERE WHAT IT READS IS OF BULK AT MOST 1048576: true; the input reads as it did. -/
def reachBothUptoRow : OpenClaim := { program := "ytlinloabahbioaa", sum := "e5386db6e345760cfe5ae6cf9336b028735827ee0f113c93fe525f207fec3e58", func := "paling/palinglaw35.ReachBoth", spec := "reachBoth", unfollowed := true, recurses := true, apart := false, narrowed := true }
def ReachBothUptoSaid : Prop := reachBothUptoRow.holds Try.pinned (OpenSpec.upto reachBothSpec)

/-- 'palinglaw42.LabelsClosed', WHERE WHAT IT READS IS OF BULK AT MOST 1048576: true; the input reads as it did. -/
def labelsClosedUptoRow : OpenClaim := { program := "ytlinloabahbioaa", sum := "e5386db6e345760cfe5ae6cf9336b028735827ee0f113c93fe525f207fec3e58", func := "paling/palinglaw42.LabelsClosed", spec := "labelsClosed", unfollowed := true, recurses := true, apart := false, narrowed := true }
def LabelsClosedUptoSaid : Prop := labelsClosedUptoRow.holds Try.pinned (OpenSpec.upto labelsClosedSpec)

/-- 'palinglaw17.LinksKeeps', WHERE WHAT IT READS IS OF BULK AT MOST 1048576: true; the input reads as it did. -/
def linksKeepsUptoRow : OpenClaim := { program := "ytlinloabahbioaa", sum := "e5386db6e345760cfe5ae6cf9336b028735827ee0f113c93fe525f207fec3e58", func := "paling/palinglaw17.LinksKeeps", spec := "linksKeeps", unfollowed := true, recurses := true, apart := false, narrowed := true }
def LinksKeepsUptoSaid : Prop := linksKeepsUptoRow.holds Try.pinned (OpenSpec.upto linksKeepsSpec)

end Rows
end Go.Proofs.Ytlinloabahbioaa
