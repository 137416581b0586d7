/-
  No cell of these rows narrows 'for every input' (looked for: loops, veiled, ifaces, maps, wideKeys, modest, calm, conditions, laid).
  DERIVED. THE GIVEN ROWS OF THIS SEAT. 9 by the template 'for every input the law returns true; each argument reads behind the call as it read before'; 0 by the template 'total and deterministic' (their statements: YtakijieekhbhfaaTotals.lean).
  GIVEN WITH THE SEED: the statements are not yours to turn. If you find one false, say at which input.
  Laid BY PROGRAM, IN A SANDBOX (cutbox-rows.mjs): the forced cells as the released guide's own fill.sh prints them over the translation 1285904419cbff4d… (all of the seat's roots in one cut). By AI agents, Wed Nov 11 2026. No macro, syntax, notation, axiom, sorry.
-/
import Derived.Test.YtakijieekhbhfaaChecked
import GoSem.Claim
import GoSem.ClaimJoined
import GoSem.ClaimMapViews
import Derived.JoinedTies
import Derived.KernelRfl
namespace Go.Proofs.Ytakijieekhbhfaa
/- THE CELL 'sum', in the pinned program and in every row, IS THE sha256 OF THE DUMP (.gsa) THAT YtakijieekhbhfaaProg.lean LOADS. Nothing in Lean hashes anything: it is a label: what it is worth is what the hold of that sum in a sandbox is worth. -/
noncomputable def Try.pinned : Pinned := { name := "ytakijieekhbhfaa", sum := "1285904419cbff4d3dc91ca0a9406bcfef3c843e96586c5aa373b4326684607b", checked := Try.checked }
namespace Rows
def none {H : Type} : Left H := { results := [], args := [] }

/-- 'palinglaw09.VxlanHeads': WHATEVER THE INPUT: true; the input reads as it did. -/
def vxlanHeadsSpec : ChangeSpec := { name := "vxlanHeads", fn := fun _ => fun
  | [d1, d2] => { results := [.lit (.bool true)], args := [d1, d2] }
  | _ => none }
def vxlanHeadsRow : OpenClaim := { program := "ytakijieekhbhfaa", sum := "1285904419cbff4d3dc91ca0a9406bcfef3c843e96586c5aa373b4326684607b", func := "paling/palinglaw09.VxlanHeads", spec := "vxlanHeads", unfollowed := true, recurses := true, apart := false }
def VxlanHeadsSaid : Prop := vxlanHeadsRow.holds Try.pinned (OpenSpec.ofChange vxlanHeadsSpec)

/-- ITS FALSE NEIGHBOUR: 'it returns false'. Refute it at one input. -/
def vxlanHeadsWrong : ChangeSpec := { name := "vxlanHeads", fn := fun _ => fun
  | [d1, d2] => { results := [.lit (.bool false)], args := [d1, d2] }
  | _ => none }
def VxlanHeadsWrongFalsely : Prop := vxlanHeadsRow.holds Try.pinned (OpenSpec.ofChange vxlanHeadsWrong)

/-- 'palinglaw09.VxlanWraps': WHATEVER THE INPUT: true; the input reads as it did. -/
def vxlanWrapsSpec : ChangeSpec := { name := "vxlanWraps", fn := fun _ => fun
  | [d1, d2, d3, d4] => { results := [.lit (.bool true)], args := [d1, d2, d3, d4] }
  | _ => none }
def vxlanWrapsRow : OpenClaim := { program := "ytakijieekhbhfaa", sum := "1285904419cbff4d3dc91ca0a9406bcfef3c843e96586c5aa373b4326684607b", func := "paling/palinglaw09.VxlanWraps", spec := "vxlanWraps", unfollowed := true, recurses := true, apart := false }
def VxlanWrapsSaid : Prop := vxlanWrapsRow.holds Try.pinned (OpenSpec.ofChange vxlanWrapsSpec)

/-- ITS FALSE NEIGHBOUR: 'it returns false'. Refute it at one input. -/
def vxlanWrapsWrong : ChangeSpec := { name := "vxlanWraps", fn := fun _ => fun
  | [d1, d2, d3, d4] => { results := [.lit (.bool false)], args := [d1, d2, d3, d4] }
  | _ => none }
def VxlanWrapsWrongFalsely : Prop := vxlanWrapsRow.holds Try.pinned (OpenSpec.ofChange vxlanWrapsWrong)

/-- 'palinglaw09.VxlanUnwraps': WHATEVER THE INPUT: true; the input reads as it did. -/
def vxlanUnwrapsSpec : ChangeSpec := { name := "vxlanUnwraps", fn := fun _ => fun
  | [d] => { results := [.lit (.bool true)], args := [d] }
  | _ => none }
def vxlanUnwrapsRow : OpenClaim := { program := "ytakijieekhbhfaa", sum := "1285904419cbff4d3dc91ca0a9406bcfef3c843e96586c5aa373b4326684607b", func := "paling/palinglaw09.VxlanUnwraps", spec := "vxlanUnwraps", unfollowed := true, recurses := true, apart := false }
def VxlanUnwrapsSaid : Prop := vxlanUnwrapsRow.holds Try.pinned (OpenSpec.ofChange vxlanUnwrapsSpec)

/-- ITS FALSE NEIGHBOUR: 'it returns false'. Refute it at one input. -/
def vxlanUnwrapsWrong : ChangeSpec := { name := "vxlanUnwraps", fn := fun _ => fun
  | [d] => { results := [.lit (.bool false)], args := [d] }
  | _ => none }
def VxlanUnwrapsWrongFalsely : Prop := vxlanUnwrapsRow.holds Try.pinned (OpenSpec.ofChange vxlanUnwrapsWrong)

/-- 'palinglaw09.VxlanOuter': WHATEVER THE INPUT: true; the input reads as it did. -/
def vxlanOuterSpec : ChangeSpec := { name := "vxlanOuter", fn := fun _ => fun
  | [d1, d2, d3, d4, d5, d6] => { results := [.lit (.bool true)], args := [d1, d2, d3, d4, d5, d6] }
  | _ => none }
def vxlanOuterRow : OpenClaim := { program := "ytakijieekhbhfaa", sum := "1285904419cbff4d3dc91ca0a9406bcfef3c843e96586c5aa373b4326684607b", func := "paling/palinglaw09.VxlanOuter", spec := "vxlanOuter", unfollowed := true, recurses := true, apart := false }
def VxlanOuterSaid : Prop := vxlanOuterRow.holds Try.pinned (OpenSpec.ofChange vxlanOuterSpec)

/-- ITS FALSE NEIGHBOUR: 'it returns false'. Refute it at one input. -/
def vxlanOuterWrong : ChangeSpec := { name := "vxlanOuter", fn := fun _ => fun
  | [d1, d2, d3, d4, d5, d6] => { results := [.lit (.bool false)], args := [d1, d2, d3, d4, d5, d6] }
  | _ => none }
def VxlanOuterWrongFalsely : Prop := vxlanOuterRow.holds Try.pinned (OpenSpec.ofChange vxlanOuterWrong)

/-- 'palinglaw30.RouteLongest': WHATEVER THE INPUT: true; the input reads as it did. -/
def routeLongestSpec : ChangeSpec := { name := "routeLongest", fn := fun _ => fun
  | [d1, d2, d3] => { results := [.lit (.bool true)], args := [d1, d2, d3] }
  | _ => none }
def routeLongestRow : OpenClaim := { program := "ytakijieekhbhfaa", sum := "1285904419cbff4d3dc91ca0a9406bcfef3c843e96586c5aa373b4326684607b", func := "paling/palinglaw30.RouteLongest", spec := "routeLongest", unfollowed := true, recurses := true, apart := false }
def RouteLongestSaid : Prop := routeLongestRow.holds Try.pinned (OpenSpec.ofChange routeLongestSpec)

/-- ITS FALSE NEIGHBOUR: 'it returns false'. Refute it at one input. -/
def routeLongestWrong : ChangeSpec := { name := "routeLongest", fn := fun _ => fun
  | [d1, d2, d3] => { results := [.lit (.bool false)], args := [d1, d2, d3] }
  | _ => none }
def RouteLongestWrongFalsely : Prop := routeLongestRow.holds Try.pinned (OpenSpec.ofChange routeLongestWrong)

/-- 'palinglaw30.RouteHops': WHATEVER THE INPUT: true; the input reads as it did. -/
def routeHopsSpec : ChangeSpec := { name := "routeHops", fn := fun _ => fun
  | [d1, d2, d3] => { results := [.lit (.bool true)], args := [d1, d2, d3] }
  | _ => none }
def routeHopsRow : OpenClaim := { program := "ytakijieekhbhfaa", sum := "1285904419cbff4d3dc91ca0a9406bcfef3c843e96586c5aa373b4326684607b", func := "paling/palinglaw30.RouteHops", spec := "routeHops", unfollowed := true, recurses := true, apart := false }
def RouteHopsSaid : Prop := routeHopsRow.holds Try.pinned (OpenSpec.ofChange routeHopsSpec)

/-- ITS FALSE NEIGHBOUR: 'it returns false'. Refute it at one input. -/
def routeHopsWrong : ChangeSpec := { name := "routeHops", fn := fun _ => fun
  | [d1, d2, d3] => { results := [.lit (.bool false)], args := [d1, d2, d3] }
  | _ => none }
def RouteHopsWrongFalsely : Prop := routeHopsRow.holds Try.pinned (OpenSpec.ofChange routeHopsWrong)

/-- 'palinglaw28.LeavePorts': WHATEVER THE INPUT: true; the input reads as it did. -/
def leavePortsSpec : ChangeSpec := { name := "leavePorts", fn := fun _ => fun
  | [d1, d2, d3, d4, d5] => { results := [.lit (.bool true)], args := [d1, d2, d3, d4, d5] }
  | _ => none }
def leavePortsRow : OpenClaim := { program := "ytakijieekhbhfaa", sum := "1285904419cbff4d3dc91ca0a9406bcfef3c843e96586c5aa373b4326684607b", func := "paling/palinglaw28.LeavePorts", spec := "leavePorts", unfollowed := true, recurses := true, apart := false }
def LeavePortsSaid : Prop := leavePortsRow.holds Try.pinned (OpenSpec.ofChange leavePortsSpec)

/-- ITS FALSE NEIGHBOUR: 'it returns false'. Refute it at one input. -/
def leavePortsWrong : ChangeSpec := { name := "leavePorts", fn := fun _ => fun
  | [d1, d2, d3, d4, d5] => { results := [.lit (.bool false)], args := [d1, d2, d3, d4, d5] }
  | _ => none }
def LeavePortsWrongFalsely : Prop := leavePortsRow.holds Try.pinned (OpenSpec.ofChange leavePortsWrong)

/-- 'palinglaw28.LeaveCrosses': WHATEVER THE INPUT: true; the input reads as it did. -/
def leaveCrossesSpec : ChangeSpec := { name := "leaveCrosses", fn := fun _ => fun
  | [d1, d2, d3, d4] => { results := [.lit (.bool true)], args := [d1, d2, d3, d4] }
  | _ => none }
def leaveCrossesRow : OpenClaim := { program := "ytakijieekhbhfaa", sum := "1285904419cbff4d3dc91ca0a9406bcfef3c843e96586c5aa373b4326684607b", func := "paling/palinglaw28.LeaveCrosses", spec := "leaveCrosses", unfollowed := true, recurses := true, apart := false }
def LeaveCrossesSaid : Prop := leaveCrossesRow.holds Try.pinned (OpenSpec.ofChange leaveCrossesSpec)

/-- ITS FALSE NEIGHBOUR: 'it returns false'. Refute it at one input. -/
def leaveCrossesWrong : ChangeSpec := { name := "leaveCrosses", fn := fun _ => fun
  | [d1, d2, d3, d4] => { results := [.lit (.bool false)], args := [d1, d2, d3, d4] }
  | _ => none }
def LeaveCrossesWrongFalsely : Prop := leaveCrossesRow.holds Try.pinned (OpenSpec.ofChange leaveCrossesWrong)

/-- 'palinglaw28.LeaveComes': WHATEVER THE INPUT: true; the input reads as it did. -/
def leaveComesSpec : ChangeSpec := { name := "leaveComes", fn := fun _ => fun
  | [d1, d2, d3, d4, d5] => { results := [.lit (.bool true)], args := [d1, d2, d3, d4, d5] }
  | _ => none }
def leaveComesRow : OpenClaim := { program := "ytakijieekhbhfaa", sum := "1285904419cbff4d3dc91ca0a9406bcfef3c843e96586c5aa373b4326684607b", func := "paling/palinglaw28.LeaveComes", spec := "leaveComes", unfollowed := true, recurses := true, apart := false }
def LeaveComesSaid : Prop := leaveComesRow.holds Try.pinned (OpenSpec.ofChange leaveComesSpec)

/-- ITS FALSE NEIGHBOUR: 'it returns false'. Refute it at one input. -/
def leaveComesWrong : ChangeSpec := { name := "leaveComes", fn := fun _ => fun
  | [d1, d2, d3, d4, d5] => { results := [.lit (.bool false)], args := [d1, d2, d3, d4, d5] }
  | _ => none }
def LeaveComesWrongFalsely : Prop := leaveComesRow.holds Try.pinned (OpenSpec.ofChange leaveComesWrong)

/- THE SECOND FORM. 'bulk': how many values and letters a reading holds, each counted each time it is reached (what is shared counts as often as it is met; a slice's spare places count too). A statement '..UptoSaid' is the law's where the arguments, and the package variables that the reading takes, are together of bulk at most 1048576: NARROWER than '..Said'. Prove '..Said' where nothing that the law and all that it calls make is longer than what came in: it says more and counts as full. Else prove '..UptoSaid'. A law counts once. -/
mutual
def uptoBulk {H : Type} : DataW H → Nat
  | .lit (.string bytes) => bytes.length + 1
  | .lit _ => 1
  | .nil => 1
  | .ptr d => uptoBulk d + 1
  | .slice elems spare => uptoBulkAll elems + uptoBulkAll spare + 1
  | .agg parts => uptoBulkAll parts + 1
  | .iface _ d => uptoBulk d + 1
  | .map entries => uptoBulkEntries entries + 1
  | .held _ => 1
def uptoBulkAll {H : Type} : List (DataW H) → Nat
  | [] => 0
  | d :: r => uptoBulk d + uptoBulkAll r
def uptoBulkEntries {H : Type} : List (Lit × DataW H) → Nat
  | [] => 0
  | x :: r => uptoBulkEntry x + uptoBulkEntries r
def uptoBulkEntry {H : Type} : Lit × DataW H → Nat
  | (.string bytes, d) => bytes.length + uptoBulk d + 1
  | (_, d) => uptoBulk d + 1
 end
def uptoSmall : (H : Type) → List (DataW H) → Bool := fun _ ds => decide (uptoBulkAll ds ≤ 1048576)
def OpenSpec.upto (s : _root_.Go.ChangeSpec) : _root_.Go.OpenSpec := { _root_.Go.OpenSpec.ofChange s with cond := some uptoSmall }

/-- 'palinglaw09.VxlanHeads', WHERE WHAT IT READS IS OF BULK AT MOST 1048576: true; the input reads as it did. -/
def vxlanHeadsUptoRow : OpenClaim := { program := "ytakijieekhbhfaa", sum := "1285904419cbff4d3dc91ca0a9406bcfef3c843e96586c5aa373b4326684607b", func := "paling/palinglaw09.VxlanHeads", spec := "vxlanHeads", unfollowed := true, recurses := true, apart := false, narrowed := true }
def VxlanHeadsUptoSaid : Prop := vxlanHeadsUptoRow.holds Try.pinned (OpenSpec.upto vxlanHeadsSpec)

/-- 'palinglaw09.VxlanWraps', WHERE WHAT IT READS IS OF BULK AT MOST 1048576: true; the input reads as it did. -/
def vxlanWrapsUptoRow : OpenClaim := { program := "ytakijieekhbhfaa", sum := "1285904419cbff4d3dc91ca0a9406bcfef3c843e96586c5aa373b4326684607b", func := "paling/palinglaw09.VxlanWraps", spec := "vxlanWraps", unfollowed := true, recurses := true, apart := false, narrowed := true }
def VxlanWrapsUptoSaid : Prop := vxlanWrapsUptoRow.holds Try.pinned (OpenSpec.upto vxlanWrapsSpec)

/-- 'palinglaw09.VxlanUnwraps', WHERE WHAT IT READS IS OF BULK AT MOST 1048576: true; the input reads as it did. -/
def vxlanUnwrapsUptoRow : OpenClaim := { program := "ytakijieekhbhfaa", sum := "1285904419cbff4d3dc91ca0a9406bcfef3c843e96586c5aa373b4326684607b", func := "paling/palinglaw09.VxlanUnwraps", spec := "vxlanUnwraps", unfollowed := true, recurses := true, apart := false, narrowed := true }
def VxlanUnwrapsUptoSaid : Prop := vxlanUnwrapsUptoRow.holds Try.pinned (OpenSpec.upto vxlanUnwrapsSpec)

/-- 'palinglaw09.VxlanOuter', WHERE WHAT IT READS IS OF BULK AT MOST 1048576: true; the input reads as it did. -/
def vxlanOuterUptoRow : OpenClaim := { program := "ytakijieekhbhfaa", sum := "1285904419cbff4d3dc91ca0a9406bcfef3c843e96586c5aa373b4326684607b", func := "paling/palinglaw09.VxlanOuter", spec := "vxlanOuter", unfollowed := true, recurses := true, apart := false, narrowed := true }
def VxlanOuterUptoSaid : Prop := vxlanOuterUptoRow.holds Try.pinned (OpenSpec.upto vxlanOuterSpec)

/-- 'palinglaw30.RouteLongest', WHERE WHAT IT READS IS OF BULK AT MOST 1048576: true; the input reads as it did. -/
def routeLongestUptoRow : OpenClaim := { program := "ytakijieekhbhfaa", sum := "1285904419cbff4d3dc91ca0a9406bcfef3c843e96586c5aa373b4326684607b", func := "paling/palinglaw30.RouteLongest", spec := "routeLongest", unfollowed := true, recurses := true, apart := false, narrowed := true }
def RouteLongestUptoSaid : Prop := routeLongestUptoRow.holds Try.pinned (OpenSpec.upto routeLongestSpec)

/-- 'palinglaw30.RouteHops', WHERE WHAT IT READS IS OF BULK AT MOST 1048576: true; the input reads as it did. -/
def routeHopsUptoRow : OpenClaim := { program := "ytakijieekhbhfaa", sum := "1285904419cbff4d3dc91ca0a9406bcfef3c843e96586c5aa373b4326684607b", func := "paling/palinglaw30.RouteHops", spec := "routeHops", unfollowed := true, recurses := true, apart := false, narrowed := true }
def RouteHopsUptoSaid : Prop := routeHopsUptoRow.holds Try.pinned (OpenSpec.upto routeHopsSpec)

/-- 'palinglaw28.LeavePorts', WHERE WHAT IT READS IS OF BULK AT MOST 1048576: true; the input reads as it did. -/
def leavePortsUptoRow : OpenClaim := { program := "ytakijieekhbhfaa", sum := "1285904419cbff4d3dc91ca0a9406bcfef3c843e96586c5aa373b4326684607b", func := "paling/palinglaw28.LeavePorts", spec := "leavePorts", unfollowed := true, recurses := true, apart := false, narrowed := true }
def LeavePortsUptoSaid : Prop := leavePortsUptoRow.holds Try.pinned (OpenSpec.upto leavePortsSpec)

/-- 'palinglaw28.LeaveCrosses', WHERE WHAT IT READS IS OF BULK AT MOST 1048576: true; the input reads as it did. -/
def leaveCrossesUptoRow : OpenClaim := { program := "ytakijieekhbhfaa", sum := "1285904419cbff4d3dc91ca0a9406bcfef3c843e96586c5aa373b4326684607b", func := "paling/palinglaw28.LeaveCrosses", spec := "leaveCrosses", unfollowed := true, recurses := true, apart := false, narrowed := true }
def LeaveCrossesUptoSaid : Prop := leaveCrossesUptoRow.holds Try.pinned (OpenSpec.upto leaveCrossesSpec)

/-- 'palinglaw28.LeaveComes', WHERE WHAT IT READS IS OF BULK AT MOST 1048576: true; the input reads as it did. -/
def leaveComesUptoRow : OpenClaim := { program := "ytakijieekhbhfaa", sum := "1285904419cbff4d3dc91ca0a9406bcfef3c843e96586c5aa373b4326684607b", func := "paling/palinglaw28.LeaveComes", spec := "leaveComes", unfollowed := true, recurses := true, apart := false, narrowed := true }
def LeaveComesUptoSaid : Prop := leaveComesUptoRow.holds Try.pinned (OpenSpec.upto leaveComesSpec)

end Rows
end Go.Proofs.Ytakijieekhbhfaa
