/-
  No cell of these rows narrows 'for every input' (looked for: loops, veiled, ifaces, maps, wideKeys, modest, calm, conditions, laid).
  DERIVED. THE GIVEN ROWS OF THIS SEAT. 7 by the template 'for every input the law returns true; each argument reads behind the call as it read before'; 0 by the template 'total and deterministic' (their statements: YtngflgclljfmjaaGreatTotals.lean).
  GIVEN WITH THE SEED: the statements are not yours to turn. If you find one false, say at which input.
  Laid BY PROGRAM, IN A SANDBOX (cutbox-rows.mjs): the forced cells as the released guide's own fill.sh prints them over the translation 89989046fabec525… (all of the seat's roots in one cut). By AI agents, Wed Nov 11 2026. No macro, syntax, notation, axiom, sorry.
-/
import Derived.Test.YtngflgclljfmjaaGreatChecked
import GoSem.Claim
import GoSem.ClaimJoined
import GoSem.ClaimMapViews
import Derived.JoinedTies
import Derived.KernelRfl
namespace Go.Proofs.YtngflgclljfmjaaGreat
/- THE CELL 'sum', in the pinned program and in every row, IS THE sha256 OF THE DUMP (.gsa) THAT YtngflgclljfmjaaGreatProg.lean LOADS. Nothing in Lean hashes anything: it is a label: what it is worth is what the hold of that sum in a sandbox is worth. -/
noncomputable def Tryz.pinned : Pinned := { name := "ytngflgclljfmjaagreat", sum := "89989046fabec52591afc7ab0030b9696ead3484888e5a4d69c84dd8a2a365b1", checked := Tryz.checked }
namespace Rows
def none {H : Type} : Left H := { results := [], args := [] }

/-- 'palinglaw18.DomainsStatics': WHATEVER THE INPUT: true; the input reads as it did. -/
def domainsStaticsSpec : ChangeSpec := { name := "domainsStatics", fn := fun _ => fun
  | [d1, d2] => { results := [.lit (.bool true)], args := [d1, d2] }
  | _ => none }
def domainsStaticsRow : OpenClaim := { program := "ytngflgclljfmjaagreat", sum := "89989046fabec52591afc7ab0030b9696ead3484888e5a4d69c84dd8a2a365b1", func := "paling/palinglaw18.DomainsStatics", spec := "domainsStatics", inPlace := ["internal/abi.NoEscape", "internal/bytealg.MakeNoZero"], unfollowed := true, recurses := true, apart := false }
def DomainsStaticsSaid : Prop := domainsStaticsRow.holds Tryz.pinned (OpenSpec.ofChange domainsStaticsSpec)

/-- ITS FALSE NEIGHBOUR: 'it returns false'. Refute it at one input. -/
def domainsStaticsWrong : ChangeSpec := { name := "domainsStatics", fn := fun _ => fun
  | [d1, d2] => { results := [.lit (.bool false)], args := [d1, d2] }
  | _ => none }
def DomainsStaticsWrongFalsely : Prop := domainsStaticsRow.holds Tryz.pinned (OpenSpec.ofChange domainsStaticsWrong)

/-- 'palinglaw18.DomainsTells': WHATEVER THE INPUT: true; the input reads as it did. -/
def domainsTellsSpec : ChangeSpec := { name := "domainsTells", fn := fun _ => fun
  | [d1, d2, d3] => { results := [.lit (.bool true)], args := [d1, d2, d3] }
  | _ => none }
def domainsTellsRow : OpenClaim := { program := "ytngflgclljfmjaagreat", sum := "89989046fabec52591afc7ab0030b9696ead3484888e5a4d69c84dd8a2a365b1", func := "paling/palinglaw18.DomainsTells", spec := "domainsTells", inPlace := ["internal/abi.NoEscape", "internal/bytealg.MakeNoZero"], unfollowed := true, recurses := true, apart := false }
def DomainsTellsSaid : Prop := domainsTellsRow.holds Tryz.pinned (OpenSpec.ofChange domainsTellsSpec)

/-- ITS FALSE NEIGHBOUR: 'it returns false'. Refute it at one input. -/
def domainsTellsWrong : ChangeSpec := { name := "domainsTells", fn := fun _ => fun
  | [d1, d2, d3] => { results := [.lit (.bool false)], args := [d1, d2, d3] }
  | _ => none }
def DomainsTellsWrongFalsely : Prop := domainsTellsRow.holds Tryz.pinned (OpenSpec.ofChange domainsTellsWrong)

/-- 'palinglaw18.DomainsKeeps': WHATEVER THE INPUT: true; the input reads as it did. -/
def domainsKeepsSpec : ChangeSpec := { name := "domainsKeeps", fn := fun _ => fun
  | [d1, d2] => { results := [.lit (.bool true)], args := [d1, d2] }
  | _ => none }
def domainsKeepsRow : OpenClaim := { program := "ytngflgclljfmjaagreat", sum := "89989046fabec52591afc7ab0030b9696ead3484888e5a4d69c84dd8a2a365b1", func := "paling/palinglaw18.DomainsKeeps", spec := "domainsKeeps", inPlace := ["internal/abi.NoEscape", "internal/bytealg.MakeNoZero"], unfollowed := true, recurses := true, apart := false }
def DomainsKeepsSaid : Prop := domainsKeepsRow.holds Tryz.pinned (OpenSpec.ofChange domainsKeepsSpec)

/-- ITS FALSE NEIGHBOUR: 'it returns false'. Refute it at one input. -/
def domainsKeepsWrong : ChangeSpec := { name := "domainsKeeps", fn := fun _ => fun
  | [d1, d2] => { results := [.lit (.bool false)], args := [d1, d2] }
  | _ => none }
def DomainsKeepsWrongFalsely : Prop := domainsKeepsRow.holds Tryz.pinned (OpenSpec.ofChange domainsKeepsWrong)

/-- 'palinglaw31.BridgeSteps': WHATEVER THE INPUT: true; the input reads as it did. -/
def bridgeStepsSpec : ChangeSpec := { name := "bridgeSteps", fn := fun _ => fun
  | [d1, d2, d3, d4, d5, d6] => { results := [.lit (.bool true)], args := [d1, d2, d3, d4, d5, d6] }
  | _ => none }
def bridgeStepsRow : OpenClaim := { program := "ytngflgclljfmjaagreat", sum := "89989046fabec52591afc7ab0030b9696ead3484888e5a4d69c84dd8a2a365b1", func := "paling/palinglaw31.BridgeSteps", spec := "bridgeSteps", unfollowed := true, recurses := true, apart := false }
def BridgeStepsSaid : Prop := bridgeStepsRow.holds Tryz.pinned (OpenSpec.ofChange bridgeStepsSpec)

/-- ITS FALSE NEIGHBOUR: 'it returns false'. Refute it at one input. -/
def bridgeStepsWrong : ChangeSpec := { name := "bridgeSteps", fn := fun _ => fun
  | [d1, d2, d3, d4, d5, d6] => { results := [.lit (.bool false)], args := [d1, d2, d3, d4, d5, d6] }
  | _ => none }
def BridgeStepsWrongFalsely : Prop := bridgeStepsRow.holds Tryz.pinned (OpenSpec.ofChange bridgeStepsWrong)

/-- 'palinglaw31.BridgeOut': WHATEVER THE INPUT: true; the input reads as it did. -/
def bridgeOutSpec : ChangeSpec := { name := "bridgeOut", fn := fun _ => fun
  | [d1, d2, d3, d4, d5, d6] => { results := [.lit (.bool true)], args := [d1, d2, d3, d4, d5, d6] }
  | _ => none }
def bridgeOutRow : OpenClaim := { program := "ytngflgclljfmjaagreat", sum := "89989046fabec52591afc7ab0030b9696ead3484888e5a4d69c84dd8a2a365b1", func := "paling/palinglaw31.BridgeOut", spec := "bridgeOut", unfollowed := true, recurses := true, apart := false }
def BridgeOutSaid : Prop := bridgeOutRow.holds Tryz.pinned (OpenSpec.ofChange bridgeOutSpec)

/-- ITS FALSE NEIGHBOUR: 'it returns false'. Refute it at one input. -/
def bridgeOutWrong : ChangeSpec := { name := "bridgeOut", fn := fun _ => fun
  | [d1, d2, d3, d4, d5, d6] => { results := [.lit (.bool false)], args := [d1, d2, d3, d4, d5, d6] }
  | _ => none }
def BridgeOutWrongFalsely : Prop := bridgeOutRow.holds Tryz.pinned (OpenSpec.ofChange bridgeOutWrong)

/-- 'palinglaw31.BridgeLearns': WHATEVER THE INPUT: true; the input reads as it did. -/
def bridgeLearnsSpec : ChangeSpec := { name := "bridgeLearns", fn := fun _ => fun
  | [d1, d2, d3, d4, d5, d6] => { results := [.lit (.bool true)], args := [d1, d2, d3, d4, d5, d6] }
  | _ => none }
def bridgeLearnsRow : OpenClaim := { program := "ytngflgclljfmjaagreat", sum := "89989046fabec52591afc7ab0030b9696ead3484888e5a4d69c84dd8a2a365b1", func := "paling/palinglaw31.BridgeLearns", spec := "bridgeLearns", unfollowed := true, recurses := true, apart := false }
def BridgeLearnsSaid : Prop := bridgeLearnsRow.holds Tryz.pinned (OpenSpec.ofChange bridgeLearnsSpec)

/-- ITS FALSE NEIGHBOUR: 'it returns false'. Refute it at one input. -/
def bridgeLearnsWrong : ChangeSpec := { name := "bridgeLearns", fn := fun _ => fun
  | [d1, d2, d3, d4, d5, d6] => { results := [.lit (.bool false)], args := [d1, d2, d3, d4, d5, d6] }
  | _ => none }
def BridgeLearnsWrongFalsely : Prop := bridgeLearnsRow.holds Tryz.pinned (OpenSpec.ofChange bridgeLearnsWrong)

/-- 'palinglaw31.BridgeSames': WHATEVER THE INPUT: true; the input reads as it did. -/
def bridgeSamesSpec : ChangeSpec := { name := "bridgeSames", fn := fun _ => fun
  | [d1, d2] => { results := [.lit (.bool true)], args := [d1, d2] }
  | _ => none }
def bridgeSamesRow : OpenClaim := { program := "ytngflgclljfmjaagreat", sum := "89989046fabec52591afc7ab0030b9696ead3484888e5a4d69c84dd8a2a365b1", func := "paling/palinglaw31.BridgeSames", spec := "bridgeSames", unfollowed := true, recurses := true, apart := false }
def BridgeSamesSaid : Prop := bridgeSamesRow.holds Tryz.pinned (OpenSpec.ofChange bridgeSamesSpec)

/-- ITS FALSE NEIGHBOUR: 'it returns false'. Refute it at one input. -/
def bridgeSamesWrong : ChangeSpec := { name := "bridgeSames", fn := fun _ => fun
  | [d1, d2] => { results := [.lit (.bool false)], args := [d1, d2] }
  | _ => none }
def BridgeSamesWrongFalsely : Prop := bridgeSamesRow.holds Tryz.pinned (OpenSpec.ofChange bridgeSamesWrong)

/- THE SECOND FORM. 'bulk': how many values and letters a reading holds, each counted each time it is reached (what is shared counts as often as it is met; a slice's spare places count too). A statement '..UptoSaid' is the law's where the arguments, and the package variables that the reading takes, are together of bulk at most 1048576: NARROWER than '..Said'. Prove '..Said' where nothing that the law and all that it calls make is longer than what came in: it says more and counts as full. Else prove '..UptoSaid'. A law counts once. -/
mutual
def uptoBulk {H : Type} : DataW H → Nat
  | .lit (.string bytes) => bytes.length + 1
  | .lit _ => 1
  | .nil => 1
  | .ptr d => uptoBulk d + 1
  | .slice elems spare => uptoBulkAll elems + uptoBulkAll spare + 1
  | .agg parts => uptoBulkAll parts + 1
  | .iface _ d => uptoBulk d + 1
  | .map entries => uptoBulkEntries entries + 1
  | .held _ => 1
def uptoBulkAll {H : Type} : List (DataW H) → Nat
  | [] => 0
  | d :: r => uptoBulk d + uptoBulkAll r
def uptoBulkEntries {H : Type} : List (Lit × DataW H) → Nat
  | [] => 0
  | x :: r => uptoBulkEntry x + uptoBulkEntries r
def uptoBulkEntry {H : Type} : Lit × DataW H → Nat
  | (.string bytes, d) => bytes.length + uptoBulk d + 1
  | (_, d) => uptoBulk d + 1
 end
def uptoSmall : (H : Type) → List (DataW H) → Bool := fun _ ds => decide (uptoBulkAll ds ≤ 1048576)
def OpenSpec.upto (s : _root_.Go.ChangeSpec) : _root_.Go.OpenSpec := { _root_.Go.OpenSpec.ofChange s with cond := some uptoSmall }

/-- 'palinglaw18.DomainsStatics', WHERE WHAT IT READS IS OF BULK AT MOST 1048576: true; the input reads as it did. -/
def domainsStaticsUptoRow : OpenClaim := { program := "ytngflgclljfmjaagreat", sum := "89989046fabec52591afc7ab0030b9696ead3484888e5a4d69c84dd8a2a365b1", func := "paling/palinglaw18.DomainsStatics", spec := "domainsStatics", inPlace := ["internal/abi.NoEscape", "internal/bytealg.MakeNoZero"], unfollowed := true, recurses := true, apart := false, narrowed := true }
def DomainsStaticsUptoSaid : Prop := domainsStaticsUptoRow.holds Tryz.pinned (OpenSpec.upto domainsStaticsSpec)

/-- 'palinglaw18.DomainsTells', WHERE WHAT IT READS IS OF BULK AT MOST 1048576: true; the input reads as it did. -/
def domainsTellsUptoRow : OpenClaim := { program := "ytngflgclljfmjaagreat", sum := "89989046fabec52591afc7ab0030b9696ead3484888e5a4d69c84dd8a2a365b1", func := "paling/palinglaw18.DomainsTells", spec := "domainsTells", inPlace := ["internal/abi.NoEscape", "internal/bytealg.MakeNoZero"], unfollowed := true, recurses := true, apart := false, narrowed := true }
def DomainsTellsUptoSaid : Prop := domainsTellsUptoRow.holds Tryz.pinned (OpenSpec.upto domainsTellsSpec)

/-- 'palinglaw18.DomainsKeeps', WHERE WHAT IT READS IS OF BULK AT MOST 1048576: true; the input reads as it did. -/
def domainsKeepsUptoRow : OpenClaim := { program := "ytngflgclljfmjaagreat", sum := "89989046fabec52591afc7ab0030b9696ead3484888e5a4d69c84dd8a2a365b1", func := "paling/palinglaw18.DomainsKeeps", spec := "domainsKeeps", inPlace := ["internal/abi.NoEscape", "internal/bytealg.MakeNoZero"], unfollowed := true, recurses := true, apart := false, narrowed := true }
def DomainsKeepsUptoSaid : Prop := domainsKeepsUptoRow.holds Tryz.pinned (OpenSpec.upto domainsKeepsSpec)

/-- 'palinglaw31.BridgeSteps', WHERE WHAT IT READS IS OF BULK AT MOST 1048576: true; the input reads as it did. -/
def bridgeStepsUptoRow : OpenClaim := { program := "ytngflgclljfmjaagreat", sum := "89989046fabec52591afc7ab0030b9696ead3484888e5a4d69c84dd8a2a365b1", func := "paling/palinglaw31.BridgeSteps", spec := "bridgeSteps", unfollowed := true, recurses := true, apart := false, narrowed := true }
def BridgeStepsUptoSaid : Prop := bridgeStepsUptoRow.holds Tryz.pinned (OpenSpec.upto bridgeStepsSpec)

/-- 'palinglaw31.BridgeOut', WHERE WHAT IT READS IS OF BULK AT MOST 1048576: true; the input reads as it did. -/
def bridgeOutUptoRow : OpenClaim := { program := "ytngflgclljfmjaagreat", sum := "89989046fabec52591afc7ab0030b9696ead3484888e5a4d69c84dd8a2a365b1", func := "paling/palinglaw31.BridgeOut", spec := "bridgeOut", unfollowed := true, recurses := true, apart := false, narrowed := true }
def BridgeOutUptoSaid : Prop := bridgeOutUptoRow.holds Tryz.pinned (OpenSpec.upto bridgeOutSpec)

/-- 'palinglaw31.BridgeLearns', WHERE WHAT IT READS IS OF BULK AT MOST 1048576: true; the input reads as it did. -/
def bridgeLearnsUptoRow : OpenClaim := { program := "ytngflgclljfmjaagreat", sum := "89989046fabec52591afc7ab0030b9696ead3484888e5a4d69c84dd8a2a365b1", func := "paling/palinglaw31.BridgeLearns", spec := "bridgeLearns", unfollowed := true, recurses := true, apart := false, narrowed := true }
def BridgeLearnsUptoSaid : Prop := bridgeLearnsUptoRow.holds Tryz.pinned (OpenSpec.upto bridgeLearnsSpec)

/-- 'palinglaw31.BridgeSames', WHERE WHAT IT READS IS OF BULK AT MOST 1048576: true; the input reads as it did. -/
def bridgeSamesUptoRow : OpenClaim := { program := "ytngflgclljfmjaagreat", sum := "89989046fabec52591afc7ab0030b9696ead3484888e5a4d69c84dd8a2a365b1", func := "paling/palinglaw31.BridgeSames", spec := "bridgeSames", unfollowed := true, recurses := true, apart := false, narrowed := true }
def BridgeSamesUptoSaid : Prop := bridgeSamesUptoRow.holds Tryz.pinned (OpenSpec.upto bridgeSamesSpec)

end Rows
end Go.Proofs.YtngflgclljfmjaaGreat
