/-
  No cell of these rows narrows 'for every input' (looked for: loops, veiled, ifaces, maps, wideKeys, modest, calm, conditions, laid).
  DERIVED. THE GIVEN ROWS OF THIS SEAT. 13 by the template 'for every input the law returns true; each argument reads behind the call as it read before'; 0 by the template 'total and deterministic' (their statements: YtakginbgngjhkaaTotals.lean).
  GIVEN WITH THE SEED: the statements are not yours to turn. If you find one false, say at which input.
  Laid BY PROGRAM, IN A SANDBOX (cutbox-rows.mjs): the forced cells as the released guide's own fill.sh prints them over the translation 9be6aa2121e492e8… (all of the seat's roots in one cut). By AI agents, Wed Nov 11 2026. No macro, syntax, notation, axiom, sorry.
-/
import Derived.Test.YtakginbgngjhkaaChecked
import GoSem.Claim
import GoSem.ClaimJoined
import GoSem.ClaimMapViews
import Derived.JoinedTies
import Derived.KernelRfl
namespace Go.Proofs.Ytakginbgngjhkaa
/- THE CELL 'sum', in the pinned program and in every row, IS THE sha256 OF THE DUMP (.gsa) THAT YtakginbgngjhkaaProg.lean LOADS. Nothing in Lean hashes anything: it is a label: what it is worth is what the hold of that sum in a sandbox is worth. -/
noncomputable def Try.pinned : Pinned := { name := "ytakginbgngjhkaa", sum := "9be6aa2121e492e8e75a474c2d9b9217eadbdc2aac47a98e4031279194949827", checked := Try.checked }
namespace Rows
def none {H : Type} : Left H := { results := [], args := [] }

/-- 'palinglaw21.CompsLoops': WHATEVER THE INPUT: true; the input reads as it did. -/
def compsLoopsSpec : ChangeSpec := { name := "compsLoops", fn := fun _ => fun
  | [d] => { results := [.lit (.bool true)], args := [d] }
  | _ => none }
def compsLoopsRow : OpenClaim := { program := "ytakginbgngjhkaa", sum := "9be6aa2121e492e8e75a474c2d9b9217eadbdc2aac47a98e4031279194949827", func := "paling/palinglaw21.CompsLoops", spec := "compsLoops", unfollowed := true, recurses := true, apart := false }
def CompsLoopsSaid : Prop := compsLoopsRow.holds Try.pinned (OpenSpec.ofChange compsLoopsSpec)

/-- ITS FALSE NEIGHBOUR: 'it returns false'. Refute it at one input. -/
def compsLoopsWrong : ChangeSpec := { name := "compsLoops", fn := fun _ => fun
  | [d] => { results := [.lit (.bool false)], args := [d] }
  | _ => none }
def CompsLoopsWrongFalsely : Prop := compsLoopsRow.holds Try.pinned (OpenSpec.ofChange compsLoopsWrong)

/-- 'palinglaw21.CompsTells': WHATEVER THE INPUT: true; the input reads as it did. -/
def compsTellsSpec : ChangeSpec := { name := "compsTells", fn := fun _ => fun
  | [d] => { results := [.lit (.bool true)], args := [d] }
  | _ => none }
def compsTellsRow : OpenClaim := { program := "ytakginbgngjhkaa", sum := "9be6aa2121e492e8e75a474c2d9b9217eadbdc2aac47a98e4031279194949827", func := "paling/palinglaw21.CompsTells", spec := "compsTells", unfollowed := true, recurses := true, apart := false }
def CompsTellsSaid : Prop := compsTellsRow.holds Try.pinned (OpenSpec.ofChange compsTellsSpec)

/-- ITS FALSE NEIGHBOUR: 'it returns false'. Refute it at one input. -/
def compsTellsWrong : ChangeSpec := { name := "compsTells", fn := fun _ => fun
  | [d] => { results := [.lit (.bool false)], args := [d] }
  | _ => none }
def CompsTellsWrongFalsely : Prop := compsTellsRow.holds Try.pinned (OpenSpec.ofChange compsTellsWrong)

/-- 'palinglaw21.CompsFew': WHATEVER THE INPUT: true; the input reads as it did. -/
def compsFewSpec : ChangeSpec := { name := "compsFew", fn := fun _ => fun
  | [d] => { results := [.lit (.bool true)], args := [d] }
  | _ => none }
def compsFewRow : OpenClaim := { program := "ytakginbgngjhkaa", sum := "9be6aa2121e492e8e75a474c2d9b9217eadbdc2aac47a98e4031279194949827", func := "paling/palinglaw21.CompsFew", spec := "compsFew", unfollowed := true, recurses := true, apart := false }
def CompsFewSaid : Prop := compsFewRow.holds Try.pinned (OpenSpec.ofChange compsFewSpec)

/-- ITS FALSE NEIGHBOUR: 'it returns false'. Refute it at one input. -/
def compsFewWrong : ChangeSpec := { name := "compsFew", fn := fun _ => fun
  | [d] => { results := [.lit (.bool false)], args := [d] }
  | _ => none }
def CompsFewWrongFalsely : Prop := compsFewRow.holds Try.pinned (OpenSpec.ofChange compsFewWrong)

/-- 'palinglaw21.CompsHang': WHATEVER THE INPUT: true; the input reads as it did. -/
def compsHangSpec : ChangeSpec := { name := "compsHang", fn := fun _ => fun
  | [d] => { results := [.lit (.bool true)], args := [d] }
  | _ => none }
def compsHangRow : OpenClaim := { program := "ytakginbgngjhkaa", sum := "9be6aa2121e492e8e75a474c2d9b9217eadbdc2aac47a98e4031279194949827", func := "paling/palinglaw21.CompsHang", spec := "compsHang", unfollowed := true, recurses := true, apart := false }
def CompsHangSaid : Prop := compsHangRow.holds Try.pinned (OpenSpec.ofChange compsHangSpec)

/-- ITS FALSE NEIGHBOUR: 'it returns false'. Refute it at one input. -/
def compsHangWrong : ChangeSpec := { name := "compsHang", fn := fun _ => fun
  | [d] => { results := [.lit (.bool false)], args := [d] }
  | _ => none }
def CompsHangWrongFalsely : Prop := compsHangRow.holds Try.pinned (OpenSpec.ofChange compsHangWrong)

/-- 'palinglaw23.OwnersAssigns': WHATEVER THE INPUT: true; the input reads as it did. -/
def ownersAssignsSpec : ChangeSpec := { name := "ownersAssigns", fn := fun _ => fun
  | [d1, d2] => { results := [.lit (.bool true)], args := [d1, d2] }
  | _ => none }
def ownersAssignsRow : OpenClaim := { program := "ytakginbgngjhkaa", sum := "9be6aa2121e492e8e75a474c2d9b9217eadbdc2aac47a98e4031279194949827", func := "paling/palinglaw23.OwnersAssigns", spec := "ownersAssigns", unfollowed := true, recurses := true, apart := false }
def OwnersAssignsSaid : Prop := ownersAssignsRow.holds Try.pinned (OpenSpec.ofChange ownersAssignsSpec)

/-- ITS FALSE NEIGHBOUR: 'it returns false'. Refute it at one input. -/
def ownersAssignsWrong : ChangeSpec := { name := "ownersAssigns", fn := fun _ => fun
  | [d1, d2] => { results := [.lit (.bool false)], args := [d1, d2] }
  | _ => none }
def OwnersAssignsWrongFalsely : Prop := ownersAssignsRow.holds Try.pinned (OpenSpec.ofChange ownersAssignsWrong)

/-- 'palinglaw23.OwnersAsks': WHATEVER THE INPUT: true; the input reads as it did. -/
def ownersAsksSpec : ChangeSpec := { name := "ownersAsks", fn := fun _ => fun
  | [d1, d2, d3] => { results := [.lit (.bool true)], args := [d1, d2, d3] }
  | _ => none }
def ownersAsksRow : OpenClaim := { program := "ytakginbgngjhkaa", sum := "9be6aa2121e492e8e75a474c2d9b9217eadbdc2aac47a98e4031279194949827", func := "paling/palinglaw23.OwnersAsks", spec := "ownersAsks", unfollowed := true, recurses := true, apart := false }
def OwnersAsksSaid : Prop := ownersAsksRow.holds Try.pinned (OpenSpec.ofChange ownersAsksSpec)

/-- ITS FALSE NEIGHBOUR: 'it returns false'. Refute it at one input. -/
def ownersAsksWrong : ChangeSpec := { name := "ownersAsks", fn := fun _ => fun
  | [d1, d2, d3] => { results := [.lit (.bool false)], args := [d1, d2, d3] }
  | _ => none }
def OwnersAsksWrongFalsely : Prop := ownersAsksRow.holds Try.pinned (OpenSpec.ofChange ownersAsksWrong)

/-- 'palinglaw23.OwnersAll': WHATEVER THE INPUT: true; the input reads as it did. -/
def ownersAllSpec : ChangeSpec := { name := "ownersAll", fn := fun _ => fun
  | [d1, d2] => { results := [.lit (.bool true)], args := [d1, d2] }
  | _ => none }
def ownersAllRow : OpenClaim := { program := "ytakginbgngjhkaa", sum := "9be6aa2121e492e8e75a474c2d9b9217eadbdc2aac47a98e4031279194949827", func := "paling/palinglaw23.OwnersAll", spec := "ownersAll", unfollowed := true, recurses := true, apart := false }
def OwnersAllSaid : Prop := ownersAllRow.holds Try.pinned (OpenSpec.ofChange ownersAllSpec)

/-- ITS FALSE NEIGHBOUR: 'it returns false'. Refute it at one input. -/
def ownersAllWrong : ChangeSpec := { name := "ownersAll", fn := fun _ => fun
  | [d1, d2] => { results := [.lit (.bool false)], args := [d1, d2] }
  | _ => none }
def OwnersAllWrongFalsely : Prop := ownersAllRow.holds Try.pinned (OpenSpec.ofChange ownersAllWrong)

/-- 'palinglaw35.ReachHops': WHATEVER THE INPUT: true; the input reads as it did. -/
def reachHopsSpec : ChangeSpec := { name := "reachHops", fn := fun _ => fun
  | [d1, d2] => { results := [.lit (.bool true)], args := [d1, d2] }
  | _ => none }
def reachHopsRow : OpenClaim := { program := "ytakginbgngjhkaa", sum := "9be6aa2121e492e8e75a474c2d9b9217eadbdc2aac47a98e4031279194949827", func := "paling/palinglaw35.ReachHops", spec := "reachHops", unfollowed := true, recurses := true, apart := false }
def ReachHopsSaid : Prop := reachHopsRow.holds Try.pinned (OpenSpec.ofChange reachHopsSpec)

/-- ITS FALSE NEIGHBOUR: 'it returns false'. Refute it at one input. -/
def reachHopsWrong : ChangeSpec := { name := "reachHops", fn := fun _ => fun
  | [d1, d2] => { results := [.lit (.bool false)], args := [d1, d2] }
  | _ => none }
def ReachHopsWrongFalsely : Prop := reachHopsRow.holds Try.pinned (OpenSpec.ofChange reachHopsWrong)

/-- 'palinglaw35.ReachPaths': WHATEVER THE INPUT: true; the input reads as it did. -/
def reachPathsSpec : ChangeSpec := { name := "reachPaths", fn := fun _ => fun
  | [d1, d2, d3] => { results := [.lit (.bool true)], args := [d1, d2, d3] }
  | _ => none }
def reachPathsRow : OpenClaim := { program := "ytakginbgngjhkaa", sum := "9be6aa2121e492e8e75a474c2d9b9217eadbdc2aac47a98e4031279194949827", func := "paling/palinglaw35.ReachPaths", spec := "reachPaths", unfollowed := true, recurses := true, apart := false }
def ReachPathsSaid : Prop := reachPathsRow.holds Try.pinned (OpenSpec.ofChange reachPathsSpec)

/-- ITS FALSE NEIGHBOUR: 'it returns false'. Refute it at one input. -/
def reachPathsWrong : ChangeSpec := { name := "reachPaths", fn := fun _ => fun
  | [d1, d2, d3] => { results := [.lit (.bool false)], args := [d1, d2, d3] }
  | _ => none }
def ReachPathsWrongFalsely : Prop := reachPathsRow.holds Try.pinned (OpenSpec.ofChange reachPathsWrong)

/-- 'palinglaw35.ReachGoes': WHATEVER THE INPUT: true; the input reads as it did. -/
def reachGoesSpec : ChangeSpec := { name := "reachGoes", fn := fun _ => fun
  | [d1, d2, d3] => { results := [.lit (.bool true)], args := [d1, d2, d3] }
  | _ => none }
def reachGoesRow : OpenClaim := { program := "ytakginbgngjhkaa", sum := "9be6aa2121e492e8e75a474c2d9b9217eadbdc2aac47a98e4031279194949827", func := "paling/palinglaw35.ReachGoes", spec := "reachGoes", unfollowed := true, recurses := true, apart := false }
def ReachGoesSaid : Prop := reachGoesRow.holds Try.pinned (OpenSpec.ofChange reachGoesSpec)

/-- ITS FALSE NEIGHBOUR: 'it returns false'. Refute it at one input. -/
def reachGoesWrong : ChangeSpec := { name := "reachGoes", fn := fun _ => fun
  | [d1, d2, d3] => { results := [.lit (.bool false)], args := [d1, d2, d3] }
  | _ => none }
def ReachGoesWrongFalsely : Prop := reachGoesRow.holds Try.pinned (OpenSpec.ofChange reachGoesWrong)

/-- 'palinglaw35.ReachBoth': WHATEVER THE INPUT: true; the input reads as it did. -/
def reachBothSpec : ChangeSpec := { name := "reachBoth", fn := fun _ => fun
  | [d1, d2, d3] => { results := [.lit (.bool true)], args := [d1, d2, d3] }
  | _ => none }
def reachBothRow : OpenClaim := { program := "ytakginbgngjhkaa", sum := "9be6aa2121e492e8e75a474c2d9b9217eadbdc2aac47a98e4031279194949827", func := "paling/palinglaw35.ReachBoth", spec := "reachBoth", unfollowed := true, recurses := true, apart := false }
def ReachBothSaid : Prop := reachBothRow.holds Try.pinned (OpenSpec.ofChange reachBothSpec)

/-- ITS FALSE NEIGHBOUR: 'it returns false'. Refute it at one input. -/
def reachBothWrong : ChangeSpec := { name := "reachBoth", fn := fun _ => fun
  | [d1, d2, d3] => { results := [.lit (.bool false)], args := [d1, d2, d3] }
  | _ => none }
def ReachBothWrongFalsely : Prop := reachBothRow.holds Try.pinned (OpenSpec.ofChange reachBothWrong)

/-- 'palinglaw27.EnterComes': WHATEVER THE INPUT: true; the input reads as it did. -/
def enterComesSpec : ChangeSpec := { name := "enterComes", fn := fun _ => fun
  | [d1, d2, d3, d4, d5, d6] => { results := [.lit (.bool true)], args := [d1, d2, d3, d4, d5, d6] }
  | _ => none }
def enterComesRow : OpenClaim := { program := "ytakginbgngjhkaa", sum := "9be6aa2121e492e8e75a474c2d9b9217eadbdc2aac47a98e4031279194949827", func := "paling/palinglaw27.EnterComes", spec := "enterComes", unfollowed := true, recurses := true, apart := false }
def EnterComesSaid : Prop := enterComesRow.holds Try.pinned (OpenSpec.ofChange enterComesSpec)

/-- ITS FALSE NEIGHBOUR: 'it returns false'. Refute it at one input. -/
def enterComesWrong : ChangeSpec := { name := "enterComes", fn := fun _ => fun
  | [d1, d2, d3, d4, d5, d6] => { results := [.lit (.bool false)], args := [d1, d2, d3, d4, d5, d6] }
  | _ => none }
def EnterComesWrongFalsely : Prop := enterComesRow.holds Try.pinned (OpenSpec.ofChange enterComesWrong)

/-- 'palinglaw27.EnterMember': WHATEVER THE INPUT: true; the input reads as it did. -/
def enterMemberSpec : ChangeSpec := { name := "enterMember", fn := fun _ => fun
  | [d1, d2, d3] => { results := [.lit (.bool true)], args := [d1, d2, d3] }
  | _ => none }
def enterMemberRow : OpenClaim := { program := "ytakginbgngjhkaa", sum := "9be6aa2121e492e8e75a474c2d9b9217eadbdc2aac47a98e4031279194949827", func := "paling/palinglaw27.EnterMember", spec := "enterMember", unfollowed := true, recurses := true, apart := false }
def EnterMemberSaid : Prop := enterMemberRow.holds Try.pinned (OpenSpec.ofChange enterMemberSpec)

/-- ITS FALSE NEIGHBOUR: 'it returns false'. Refute it at one input. -/
def enterMemberWrong : ChangeSpec := { name := "enterMember", fn := fun _ => fun
  | [d1, d2, d3] => { results := [.lit (.bool false)], args := [d1, d2, d3] }
  | _ => none }
def EnterMemberWrongFalsely : Prop := enterMemberRow.holds Try.pinned (OpenSpec.ofChange enterMemberWrong)

/- THE SECOND FORM. 'bulk': how many values and letters a reading holds, each counted each time it is reached (what is shared counts as often as it is met; a slice's spare places count too). A statement '..UptoSaid' is the law's where the arguments, and the package variables that the reading takes, are together of bulk at most 1048576: NARROWER than '..Said'. Prove '..Said' where nothing that the law and all that it calls make is longer than what came in: it says more and counts as full. Else prove '..UptoSaid'. A law counts once. -/
mutual
def uptoBulk {H : Type} : DataW H → Nat
  | .lit (.string bytes) => bytes.length + 1
  | .lit _ => 1
  | .nil => 1
  | .ptr d => uptoBulk d + 1
  | .slice elems spare => uptoBulkAll elems + uptoBulkAll spare + 1
  | .agg parts => uptoBulkAll parts + 1
  | .iface _ d => uptoBulk d + 1
  | .map entries => uptoBulkEntries entries + 1
  | .held _ => 1
def uptoBulkAll {H : Type} : List (DataW H) → Nat
  | [] => 0
  | d :: r => uptoBulk d + uptoBulkAll r
def uptoBulkEntries {H : Type} : List (Lit × DataW H) → Nat
  | [] => 0
  | x :: r => uptoBulkEntry x + uptoBulkEntries r
def uptoBulkEntry {H : Type} : Lit × DataW H → Nat
  | (.string bytes, d) => bytes.length + uptoBulk d + 1
  | (_, d) => uptoBulk d + 1
 end
def uptoSmall : (H : Type) → List (DataW H) → Bool := fun _ ds => decide (uptoBulkAll ds ≤ 1048576)
def OpenSpec.upto (s : _root_.Go.ChangeSpec) : _root_.Go.OpenSpec := { _root_.Go.OpenSpec.ofChange s with cond := some uptoSmall }

/-- 'palinglaw21.CompsLoops', WHERE WHAT IT READS IS OF BULK AT MOST 1048576: true; the input reads as it did. -/
def compsLoopsUptoRow : OpenClaim := { program := "ytakginbgngjhkaa", sum := "9be6aa2121e492e8e75a474c2d9b9217eadbdc2aac47a98e4031279194949827", func := "paling/palinglaw21.CompsLoops", spec := "compsLoops", unfollowed := true, recurses := true, apart := false, narrowed := true }
def CompsLoopsUptoSaid : Prop := compsLoopsUptoRow.holds Try.pinned (OpenSpec.upto compsLoopsSpec)

/-- 'palinglaw21.CompsTells', WHERE WHAT IT READS IS OF BULK AT MOST 1048576: true; the input reads as it did. -/
def compsTellsUptoRow : OpenClaim := { program := "ytakginbgngjhkaa", sum := "9be6aa2121e492e8e75a474c2d9b9217eadbdc2aac47a98e4031279194949827", func := "paling/palinglaw21.CompsTells", spec := "compsTells", unfollowed := true, recurses := true, apart := false, narrowed := true }
def CompsTellsUptoSaid : Prop := compsTellsUptoRow.holds Try.pinned (OpenSpec.upto compsTellsSpec)

/-- 'palinglaw21.CompsFew', WHERE WHAT IT READS IS OF BULK AT MOST 1048576: true; the input reads as it did. -/
def compsFewUptoRow : OpenClaim := { program := "ytakginbgngjhkaa", sum := "9be6aa2121e492e8e75a474c2d9b9217eadbdc2aac47a98e4031279194949827", func := "paling/palinglaw21.CompsFew", spec := "compsFew", unfollowed := true, recurses := true, apart := false, narrowed := true }
def CompsFewUptoSaid : Prop := compsFewUptoRow.holds Try.pinned (OpenSpec.upto compsFewSpec)

/-- 'palinglaw21.CompsHang', WHERE WHAT IT READS IS OF BULK AT MOST 1048576: true; the input reads as it did. -/
def compsHangUptoRow : OpenClaim := { program := "ytakginbgngjhkaa", sum := "9be6aa2121e492e8e75a474c2d9b9217eadbdc2aac47a98e4031279194949827", func := "paling/palinglaw21.CompsHang", spec := "compsHang", unfollowed := true, recurses := true, apart := false, narrowed := true }
def CompsHangUptoSaid : Prop := compsHangUptoRow.holds Try.pinned (OpenSpec.upto compsHangSpec)

/-- 'palinglaw23.OwnersAssigns', WHERE WHAT IT READS IS OF BULK AT MOST 1048576: true; the input reads as it did. -/
def ownersAssignsUptoRow : OpenClaim := { program := "ytakginbgngjhkaa", sum := "9be6aa2121e492e8e75a474c2d9b9217eadbdc2aac47a98e4031279194949827", func := "paling/palinglaw23.OwnersAssigns", spec := "ownersAssigns", unfollowed := true, recurses := true, apart := false, narrowed := true }
def OwnersAssignsUptoSaid : Prop := ownersAssignsUptoRow.holds Try.pinned (OpenSpec.upto ownersAssignsSpec)

/-- 'palinglaw23.OwnersAsks', WHERE WHAT IT READS IS OF BULK AT MOST 1048576: true; the input reads as it did. -/
def ownersAsksUptoRow : OpenClaim := { program := "ytakginbgngjhkaa", sum := "9be6aa2121e492e8e75a474c2d9b9217eadbdc2aac47a98e4031279194949827", func := "paling/palinglaw23.OwnersAsks", spec := "ownersAsks", unfollowed := true, recurses := true, apart := false, narrowed := true }
def OwnersAsksUptoSaid : Prop := ownersAsksUptoRow.holds Try.pinned (OpenSpec.upto ownersAsksSpec)

/-- 'palinglaw23.OwnersAll', WHERE WHAT IT READS IS OF BULK AT MOST 1048576: true; the input reads as it did. -/
def ownersAllUptoRow : OpenClaim := { program := "ytakginbgngjhkaa", sum := "9be6aa2121e492e8e75a474c2d9b9217eadbdc2aac47a98e4031279194949827", func := "paling/palinglaw23.OwnersAll", spec := "ownersAll", unfollowed := true, recurses := true, apart := false, narrowed := true }
def OwnersAllUptoSaid : Prop := ownersAllUptoRow.holds Try.pinned (OpenSpec.upto ownersAllSpec)

/-- 'palinglaw35.ReachHops', WHERE WHAT IT READS IS OF BULK AT MOST 1048576: true; the input reads as it did. -/
def reachHopsUptoRow : OpenClaim := { program := "ytakginbgngjhkaa", sum := "9be6aa2121e492e8e75a474c2d9b9217eadbdc2aac47a98e4031279194949827", func := "paling/palinglaw35.ReachHops", spec := "reachHops", unfollowed := true, recurses := true, apart := false, narrowed := true }
def ReachHopsUptoSaid : Prop := reachHopsUptoRow.holds Try.pinned (OpenSpec.upto reachHopsSpec)

/-- 'palinglaw35.ReachPaths', WHERE WHAT IT READS IS OF BULK AT MOST 1048576: true; the input reads as it did. -/
def reachPathsUptoRow : OpenClaim := { program := "ytakginbgngjhkaa", sum := "9be6aa2121e492e8e75a474c2d9b9217eadbdc2aac47a98e4031279194949827", func := "paling/palinglaw35.ReachPaths", spec := "reachPaths", unfollowed := true, recurses := true, apart := false, narrowed := true }
def ReachPathsUptoSaid : Prop := reachPathsUptoRow.holds Try.pinned (OpenSpec.upto reachPathsSpec)

/-- 'palinglaw35.ReachGoes', WHERE WHAT IT READS IS OF BULK AT MOST 1048576: true; the input reads as it did. -/
def reachGoesUptoRow : OpenClaim := { program := "ytakginbgngjhkaa", sum := "9be6aa2121e492e8e75a474c2d9b9217eadbdc2aac47a98e4031279194949827", func := "paling/palinglaw35.ReachGoes", spec := "reachGoes", unfollowed := true, recurses := true, apart := false, narrowed := true }
def ReachGoesUptoSaid : Prop := reachGoesUptoRow.holds Try.pinned (OpenSpec.upto reachGoesSpec)

/-- 'palinglaw35.ReachBoth', WHERE WHAT IT READS IS OF BULK AT MOST 1048576: true; the input reads as it did. -/
def reachBothUptoRow : OpenClaim := { program := "ytakginbgngjhkaa", sum := "9be6aa2121e492e8e75a474c2d9b9217eadbdc2aac47a98e4031279194949827", func := "paling/palinglaw35.ReachBoth", spec := "reachBoth", unfollowed := true, recurses := true, apart := false, narrowed := true }
def ReachBothUptoSaid : Prop := reachBothUptoRow.holds Try.pinned (OpenSpec.upto reachBothSpec)

/-- 'palinglaw27.EnterComes', WHERE WHAT IT READS IS OF BULK AT MOST 1048576: true; the input reads as it did. -/
def enterComesUptoRow : OpenClaim := { program := "ytakginbgngjhkaa", sum := "9be6aa2121e492e8e75a474c2d9b9217eadbdc2aac47a98e4031279194949827", func := "paling/palinglaw27.EnterComes", spec := "enterComes", unfollowed := true, recurses := true, apart := false, narrowed := true }
def EnterComesUptoSaid : Prop := enterComesUptoRow.holds Try.pinned (OpenSpec.upto enterComesSpec)

/-- 'palinglaw27.EnterMember', WHERE WHAT IT READS IS OF BULK AT MOST 1048576: true; the input reads as it did. -/
def enterMemberUptoRow : OpenClaim := { program := "ytakginbgngjhkaa", sum := "9be6aa2121e492e8e75a474c2d9b9217eadbdc2aac47a98e4031279194949827", func := "paling/palinglaw27.EnterMember", spec := "enterMember", unfollowed := true, recurses := true, apart := false, narrowed := true }
def EnterMemberUptoSaid : Prop := enterMemberUptoRow.holds Try.pinned (OpenSpec.upto enterMemberSpec)

end Rows
end Go.Proofs.Ytakginbgngjhkaa
