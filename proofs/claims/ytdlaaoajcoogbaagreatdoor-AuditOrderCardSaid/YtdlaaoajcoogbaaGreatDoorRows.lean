/-
  NARROWER THAN 'FOR EVERY INPUT', by the rows' own cells (each row's printed sentence says how): AuditTells: laid · AuditEven: laid · AuditOrder: laid.
  DERIVED. THE GIVEN ROWS OF THIS SEAT. 3 by the template 'for every input the law returns true; each argument reads behind the call as it read before'; 0 by the template 'total and deterministic' (their statements: YtdlaaoajcoogbaaGreatDoorTotals.lean).
  GIVEN WITH THE SEED: the statements are not yours to turn. If you find one false, say at which input.
  Laid BY PROGRAM, IN A SANDBOX (cutbox-rows.mjs): the forced cells as the released guide's own fill.sh prints them over the translation af899c81d2a2ed6a… (all of the seat's roots in one cut). By AI agents, Wed Nov 11 2026. No macro, syntax, notation, axiom, sorry.
-/
import Derived.Test.YtdlaaoajcoogbaaGreatDoorChecked
import GoSem.Claim
import GoSem.ClaimJoined
import GoSem.ClaimMapViews
import Derived.JoinedTies
import Derived.KernelRfl
namespace Go.Proofs.YtdlaaoajcoogbaaGreatDoor
/- THE CELL 'sum', in the pinned program and in every row, IS THE sha256 OF THE DUMP (.gsa) THAT YtdlaaoajcoogbaaGreatDoorProg.lean LOADS. Nothing in Lean hashes anything: it is a label: what it is worth is what the hold of that sum in a sandbox is worth. -/
noncomputable def Tryz.pinned : Pinned := { name := "ytdlaaoajcoogbaagreatdoor", sum := "af899c81d2a2ed6aef0bd161d124ba1e2eb07393f5b32c708a6b7b37bc08841f", checked := Tryz.checked }
namespace Rows
def none {H : Type} : Left H := { results := [], args := [] }

/- WHAT THE LISTED PACKAGE-LEVEL VARIABLES READ AS WHEN THE CALL BEGINS. Each datum BY PROGRAM (the guide's laid-datum.mjs) off the statement by which the dump's own 'gosem.cut.vars' lays the variable. In a bare row this is a premise. The card (YtdlaaoajcoogbaaGreatDoorCards.lean) ties it to the program's text. -/
def laid_paling_audit_words {H : Type} : DataW H := .agg [.lit (.string []), .lit (.string [115, 104, 105, 102, 116, 101, 100]), .lit (.string [108, 111, 112, 115, 105, 100, 101, 100]), .lit (.string [108, 111, 110, 101, 108, 121]), .lit (.string [115, 105, 108, 101, 110, 116]), .lit (.string [117, 110, 117, 115, 101, 100]), .lit (.string [112, 105, 110, 110, 101, 100]), .lit (.string [98, 97, 114, 101]), .lit (.string [108, 101, 97, 100, 105, 110, 103]), .lit (.string [116, 114, 117, 110, 107])]

/-- 'palinglaw47.AuditTells': WHATEVER THE INPUT: true; the input reads as it did. -/
def auditTellsSpec : ChangeSpec := { name := "auditTells", fn := fun _ => fun
  | [d1, d2] => { results := [.lit (.bool true)], args := [d1, d2] }
  | _ => none }
def auditTellsRow : OpenClaim := { program := "ytdlaaoajcoogbaagreatdoor", sum := "af899c81d2a2ed6aef0bd161d124ba1e2eb07393f5b32c708a6b7b37bc08841f", func := "paling/palinglaw47.AuditTells", spec := "auditTells", inPlace := ["internal/abi.NoEscape", "internal/bytealg.MakeNoZero"], unfollowed := true, recurses := true, named := ["paling/audit.words"], apart := false, laid := [("paling/audit.words", laid_paling_audit_words)] }
def AuditTellsSaid : Prop := auditTellsRow.holds Tryz.pinned (OpenSpec.ofChange auditTellsSpec)

/-- ITS FALSE NEIGHBOUR: 'it returns false'. Refute it at one input. -/
def auditTellsWrong : ChangeSpec := { name := "auditTells", fn := fun _ => fun
  | [d1, d2] => { results := [.lit (.bool false)], args := [d1, d2] }
  | _ => none }
def AuditTellsWrongFalsely : Prop := auditTellsRow.holds Tryz.pinned (OpenSpec.ofChange auditTellsWrong)

/-- 'palinglaw47.AuditEven': WHATEVER THE INPUT: true; the input reads as it did. -/
def auditEvenSpec : ChangeSpec := { name := "auditEven", fn := fun _ => fun
  | [d] => { results := [.lit (.bool true)], args := [d] }
  | _ => none }
def auditEvenRow : OpenClaim := { program := "ytdlaaoajcoogbaagreatdoor", sum := "af899c81d2a2ed6aef0bd161d124ba1e2eb07393f5b32c708a6b7b37bc08841f", func := "paling/palinglaw47.AuditEven", spec := "auditEven", inPlace := ["internal/abi.NoEscape", "internal/bytealg.MakeNoZero"], unfollowed := true, recurses := true, named := ["paling/audit.words"], apart := false, laid := [("paling/audit.words", laid_paling_audit_words)] }
def AuditEvenSaid : Prop := auditEvenRow.holds Tryz.pinned (OpenSpec.ofChange auditEvenSpec)

/-- ITS FALSE NEIGHBOUR: 'it returns false'. Refute it at one input. -/
def auditEvenWrong : ChangeSpec := { name := "auditEven", fn := fun _ => fun
  | [d] => { results := [.lit (.bool false)], args := [d] }
  | _ => none }
def AuditEvenWrongFalsely : Prop := auditEvenRow.holds Tryz.pinned (OpenSpec.ofChange auditEvenWrong)

/-- 'palinglaw47.AuditOrder': WHATEVER THE INPUT: true; the input reads as it did. -/
def auditOrderSpec : ChangeSpec := { name := "auditOrder", fn := fun _ => fun
  | [d] => { results := [.lit (.bool true)], args := [d] }
  | _ => none }
def auditOrderRow : OpenClaim := { program := "ytdlaaoajcoogbaagreatdoor", sum := "af899c81d2a2ed6aef0bd161d124ba1e2eb07393f5b32c708a6b7b37bc08841f", func := "paling/palinglaw47.AuditOrder", spec := "auditOrder", inPlace := ["internal/abi.NoEscape", "internal/bytealg.MakeNoZero"], unfollowed := true, recurses := true, named := ["paling/audit.words"], apart := false, laid := [("paling/audit.words", laid_paling_audit_words)] }
def AuditOrderSaid : Prop := auditOrderRow.holds Tryz.pinned (OpenSpec.ofChange auditOrderSpec)

/-- ITS FALSE NEIGHBOUR: 'it returns false'. Refute it at one input. -/
def auditOrderWrong : ChangeSpec := { name := "auditOrder", fn := fun _ => fun
  | [d] => { results := [.lit (.bool false)], args := [d] }
  | _ => none }
def AuditOrderWrongFalsely : Prop := auditOrderRow.holds Tryz.pinned (OpenSpec.ofChange auditOrderWrong)

/- THE SECOND FORM. 'bulk': how many values and letters a reading holds, each counted each time it is reached (what is shared counts as often as it is met; a slice's spare places count too). A statement '..UptoSaid' is the law's where the arguments, and the package variables that the reading takes, are together of bulk at most 1048576: NARROWER than '..Said'. Prove '..Said' where nothing that the law and all that it calls make is longer than what came in: it says more and counts as full. Else prove '..UptoSaid'. A law counts once. -/
mutual
def uptoBulk {H : Type} : DataW H → Nat
  | .lit (.string bytes) => bytes.length + 1
  | .lit _ => 1
  | .nil => 1
  | .ptr d => uptoBulk d + 1
  | .slice elems spare => uptoBulkAll elems + uptoBulkAll spare + 1
  | .agg parts => uptoBulkAll parts + 1
  | .iface _ d => uptoBulk d + 1
  | .map entries => uptoBulkEntries entries + 1
  | .held _ => 1
def uptoBulkAll {H : Type} : List (DataW H) → Nat
  | [] => 0
  | d :: r => uptoBulk d + uptoBulkAll r
def uptoBulkEntries {H : Type} : List (Lit × DataW H) → Nat
  | [] => 0
  | x :: r => uptoBulkEntry x + uptoBulkEntries r
def uptoBulkEntry {H : Type} : Lit × DataW H → Nat
  | (.string bytes, d) => bytes.length + uptoBulk d + 1
  | (_, d) => uptoBulk d + 1
 end
def uptoSmall : (H : Type) → List (DataW H) → Bool := fun _ ds => decide (uptoBulkAll ds ≤ 1048576)
def OpenSpec.upto (s : _root_.Go.ChangeSpec) : _root_.Go.OpenSpec := { _root_.Go.OpenSpec.ofChange s with cond := some uptoSmall }

/-- 'palinglaw47.AuditTells', WHERE WHAT IT READS IS OF BULK AT MOST 1048576: true; the input reads as it did. -/
def auditTellsUptoRow : OpenClaim := { program := "ytdlaaoajcoogbaagreatdoor", sum := "af899c81d2a2ed6aef0bd161d124ba1e2eb07393f5b32c708a6b7b37bc08841f", func := "paling/palinglaw47.AuditTells", spec := "auditTells", inPlace := ["internal/abi.NoEscape", "internal/bytealg.MakeNoZero"], unfollowed := true, recurses := true, named := ["paling/audit.words"], apart := false, laid := [("paling/audit.words", laid_paling_audit_words)], narrowed := true }
def AuditTellsUptoSaid : Prop := auditTellsUptoRow.holds Tryz.pinned (OpenSpec.upto auditTellsSpec)

/-- 'palinglaw47.AuditEven', WHERE WHAT IT READS IS OF BULK AT MOST 1048576: true; the input reads as it did. -/
def auditEvenUptoRow : OpenClaim := { program := "ytdlaaoajcoogbaagreatdoor", sum := "af899c81d2a2ed6aef0bd161d124ba1e2eb07393f5b32c708a6b7b37bc08841f", func := "paling/palinglaw47.AuditEven", spec := "auditEven", inPlace := ["internal/abi.NoEscape", "internal/bytealg.MakeNoZero"], unfollowed := true, recurses := true, named := ["paling/audit.words"], apart := false, laid := [("paling/audit.words", laid_paling_audit_words)], narrowed := true }
def AuditEvenUptoSaid : Prop := auditEvenUptoRow.holds Tryz.pinned (OpenSpec.upto auditEvenSpec)

/-- 'palinglaw47.AuditOrder', WHERE WHAT IT READS IS OF BULK AT MOST 1048576: true; the input reads as it did. -/
def auditOrderUptoRow : OpenClaim := { program := "ytdlaaoajcoogbaagreatdoor", sum := "af899c81d2a2ed6aef0bd161d124ba1e2eb07393f5b32c708a6b7b37bc08841f", func := "paling/palinglaw47.AuditOrder", spec := "auditOrder", inPlace := ["internal/abi.NoEscape", "internal/bytealg.MakeNoZero"], unfollowed := true, recurses := true, named := ["paling/audit.words"], apart := false, laid := [("paling/audit.words", laid_paling_audit_words)], narrowed := true }
def AuditOrderUptoSaid : Prop := auditOrderUptoRow.holds Tryz.pinned (OpenSpec.upto auditOrderSpec)

end Rows
end Go.Proofs.YtdlaaoajcoogbaaGreatDoor
