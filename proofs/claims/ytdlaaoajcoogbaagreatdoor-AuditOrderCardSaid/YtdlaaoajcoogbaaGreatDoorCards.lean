/-
  DERIVED. GIVEN WITH THE SEED: THE CARDS: each row of YtdlaaoajcoogbaaGreatDoorRows.lean that lists a variable, with what it lists TIED to the program's text (the seventh form; the later family's looks); each row that meets fmt, with fmt's text TOLD by the authors' own Lean function (tested against real Go, not proved from fmt's source: count such statements apart). THE CARD IS WHAT COUNTS. Prove the row's statement (the work); the ties are given (YtdlaaoajcoogbaaGreatDoorTie.lean); close each card by the builder's one call (the guide's Derived/Test/ToyasCard.lean, 'card_holds'). Laid BY PROGRAM, IN A SANDBOX (cutbox-door.mjs). By AI agents, Wed Nov 11 2026. No macro, syntax, notation, axiom, sorry.
-/
import Derived.Test.YtdlaaoajcoogbaaGreatDoorRows
import GoSem.ClaimSeven
namespace Go.Proofs.YtdlaaoajcoogbaaGreatDoor
namespace Rows

/-- THE TIED CARD OF 'palinglaw47.AuditTells'. -/
def auditTellsCard : Claim7 := { stood := { row := auditTellsRow, standIns := [], harness := (true, "f91ebbae35aa720aa3c2d755d0b6e465a9f653837a6a37e822d2b636b35e3faa"), looks := false }, kinds := [], alts := [], laidByText := true, laidKinds := [.data], laidTests := true, laidLooks := .later }
def AuditTellsCardSaid : Prop := Claim7.holds Tryz.pinned (.plain (OpenSpec.ofChange auditTellsSpec)) auditTellsCard

/-- THE TIED CARD OF 'palinglaw47.AuditEven'. -/
def auditEvenCard : Claim7 := { stood := { row := auditEvenRow, standIns := [], harness := (true, "f91ebbae35aa720aa3c2d755d0b6e465a9f653837a6a37e822d2b636b35e3faa"), looks := false }, kinds := [], alts := [], laidByText := true, laidKinds := [.data], laidTests := true, laidLooks := .later }
def AuditEvenCardSaid : Prop := Claim7.holds Tryz.pinned (.plain (OpenSpec.ofChange auditEvenSpec)) auditEvenCard

/-- THE TIED CARD OF 'palinglaw47.AuditOrder'. -/
def auditOrderCard : Claim7 := { stood := { row := auditOrderRow, standIns := [], harness := (true, "f91ebbae35aa720aa3c2d755d0b6e465a9f653837a6a37e822d2b636b35e3faa"), looks := false }, kinds := [], alts := [], laidByText := true, laidKinds := [.data], laidTests := true, laidLooks := .later }
def AuditOrderCardSaid : Prop := Claim7.holds Tryz.pinned (.plain (OpenSpec.ofChange auditOrderSpec)) auditOrderCard

/-- THE SECOND FORM's CARD OF 'palinglaw47.AuditTells'. -/
def auditTellsUptoCard : Claim7 := { stood := { row := auditTellsUptoRow, standIns := [], harness := (true, "f91ebbae35aa720aa3c2d755d0b6e465a9f653837a6a37e822d2b636b35e3faa"), looks := false }, kinds := [], alts := [], laidByText := true, laidKinds := [.data], laidTests := true, laidLooks := .later }
def AuditTellsUptoCardSaid : Prop := Claim7.holds Tryz.pinned (.plain (OpenSpec.upto auditTellsSpec)) auditTellsUptoCard

/-- THE SECOND FORM's CARD OF 'palinglaw47.AuditEven'. -/
def auditEvenUptoCard : Claim7 := { stood := { row := auditEvenUptoRow, standIns := [], harness := (true, "f91ebbae35aa720aa3c2d755d0b6e465a9f653837a6a37e822d2b636b35e3faa"), looks := false }, kinds := [], alts := [], laidByText := true, laidKinds := [.data], laidTests := true, laidLooks := .later }
def AuditEvenUptoCardSaid : Prop := Claim7.holds Tryz.pinned (.plain (OpenSpec.upto auditEvenSpec)) auditEvenUptoCard

/-- THE SECOND FORM's CARD OF 'palinglaw47.AuditOrder'. -/
def auditOrderUptoCard : Claim7 := { stood := { row := auditOrderUptoRow, standIns := [], harness := (true, "f91ebbae35aa720aa3c2d755d0b6e465a9f653837a6a37e822d2b636b35e3faa"), looks := false }, kinds := [], alts := [], laidByText := true, laidKinds := [.data], laidTests := true, laidLooks := .later }
def AuditOrderUptoCardSaid : Prop := Claim7.holds Tryz.pinned (.plain (OpenSpec.upto auditOrderSpec)) auditOrderUptoCard
end Rows
end Go.Proofs.YtdlaaoajcoogbaaGreatDoor
