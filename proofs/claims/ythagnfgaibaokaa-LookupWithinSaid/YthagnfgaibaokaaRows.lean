/-
  No cell of these rows narrows 'for every input' (looked for: loops, veiled, ifaces, maps, wideKeys, modest, calm, conditions, laid).
  DERIVED. THE GIVEN ROWS OF THIS SEAT. 10 by the template 'for every input the law returns true; each argument reads behind the call as it read before'; 0 by the template 'total and deterministic' (their statements: YthagnfgaibaokaaTotals.lean).
  GIVEN WITH THE SEED: the statements are not yours to turn. If you find one false, say at which input.
  Laid BY PROGRAM, IN A SANDBOX (cutbox-rows.mjs): the forced cells as the released guide's own fill.sh prints them over the translation 8fa5ff7cc81bdc26… (all of the seat's roots in one cut). By AI agents, Wed Nov 11 2026. No macro, syntax, notation, axiom, sorry.
-/
import Derived.Test.YthagnfgaibaokaaChecked
import GoSem.Claim
import GoSem.ClaimJoined
import GoSem.ClaimMapViews
import Derived.JoinedTies
import Derived.KernelRfl
namespace Go.Proofs.Ythagnfgaibaokaa
/- THE CELL 'sum', in the pinned program and in every row, IS THE sha256 OF THE DUMP (.gsa) THAT YthagnfgaibaokaaProg.lean LOADS. Nothing in Lean hashes anything: it is a label: what it is worth is what the hold of that sum in a sandbox is worth. -/
noncomputable def Try.pinned : Pinned := { name := "ythagnfgaibaokaa", sum := "8fa5ff7cc81bdc26991bce73a36681078aaea550afb766419e5c43de5ad5e949", checked := Try.checked }
namespace Rows
def none {H : Type} : Left H := { results := [], args := [] }

/-- 'palinglaw15.NamesPorts': WHATEVER THE INPUT: true; the input reads as it did. -/
def namesPortsSpec : ChangeSpec := { name := "namesPorts", fn := fun _ => fun
  | [d] => { results := [.lit (.bool true)], args := [d] }
  | _ => none }
def namesPortsRow : OpenClaim := { program := "ythagnfgaibaokaa", sum := "8fa5ff7cc81bdc26991bce73a36681078aaea550afb766419e5c43de5ad5e949", func := "paling/palinglaw15.NamesPorts", spec := "namesPorts", unfollowed := true, recurses := true, apart := false }
def NamesPortsSaid : Prop := namesPortsRow.holds Try.pinned (OpenSpec.ofChange namesPortsSpec)

/-- ITS FALSE NEIGHBOUR: 'it returns false'. Refute it at one input. -/
def namesPortsWrong : ChangeSpec := { name := "namesPorts", fn := fun _ => fun
  | [d] => { results := [.lit (.bool false)], args := [d] }
  | _ => none }
def NamesPortsWrongFalsely : Prop := namesPortsRow.holds Try.pinned (OpenSpec.ofChange namesPortsWrong)

/-- 'palinglaw17.LinksCrosses': WHATEVER THE INPUT: true; the input reads as it did. -/
def linksCrossesSpec : ChangeSpec := { name := "linksCrosses", fn := fun _ => fun
  | [d1, d2, d3] => { results := [.lit (.bool true)], args := [d1, d2, d3] }
  | _ => none }
def linksCrossesRow : OpenClaim := { program := "ythagnfgaibaokaa", sum := "8fa5ff7cc81bdc26991bce73a36681078aaea550afb766419e5c43de5ad5e949", func := "paling/palinglaw17.LinksCrosses", spec := "linksCrosses", unfollowed := true, recurses := true, apart := false }
def LinksCrossesSaid : Prop := linksCrossesRow.holds Try.pinned (OpenSpec.ofChange linksCrossesSpec)

/-- ITS FALSE NEIGHBOUR: 'it returns false'. Refute it at one input. -/
def linksCrossesWrong : ChangeSpec := { name := "linksCrosses", fn := fun _ => fun
  | [d1, d2, d3] => { results := [.lit (.bool false)], args := [d1, d2, d3] }
  | _ => none }
def LinksCrossesWrongFalsely : Prop := linksCrossesRow.holds Try.pinned (OpenSpec.ofChange linksCrossesWrong)

/-- 'palinglaw17.LinksBack': WHATEVER THE INPUT: true; the input reads as it did. -/
def linksBackSpec : ChangeSpec := { name := "linksBack", fn := fun _ => fun
  | [d1, d2, d3, d4] => { results := [.lit (.bool true)], args := [d1, d2, d3, d4] }
  | _ => none }
def linksBackRow : OpenClaim := { program := "ythagnfgaibaokaa", sum := "8fa5ff7cc81bdc26991bce73a36681078aaea550afb766419e5c43de5ad5e949", func := "paling/palinglaw17.LinksBack", spec := "linksBack", unfollowed := true, recurses := true, apart := false }
def LinksBackSaid : Prop := linksBackRow.holds Try.pinned (OpenSpec.ofChange linksBackSpec)

/-- ITS FALSE NEIGHBOUR: 'it returns false'. Refute it at one input. -/
def linksBackWrong : ChangeSpec := { name := "linksBack", fn := fun _ => fun
  | [d1, d2, d3, d4] => { results := [.lit (.bool false)], args := [d1, d2, d3, d4] }
  | _ => none }
def LinksBackWrongFalsely : Prop := linksBackRow.holds Try.pinned (OpenSpec.ofChange linksBackWrong)

/-- 'palinglaw15.NamesRights': WHATEVER THE INPUT: true; the input reads as it did. -/
def namesRightsSpec : ChangeSpec := { name := "namesRights", fn := fun _ => fun
  | [d1, d2] => { results := [.lit (.bool true)], args := [d1, d2] }
  | _ => none }
def namesRightsRow : OpenClaim := { program := "ythagnfgaibaokaa", sum := "8fa5ff7cc81bdc26991bce73a36681078aaea550afb766419e5c43de5ad5e949", func := "paling/palinglaw15.NamesRights", spec := "namesRights", unfollowed := true, recurses := true, apart := false }
def NamesRightsSaid : Prop := namesRightsRow.holds Try.pinned (OpenSpec.ofChange namesRightsSpec)

/-- ITS FALSE NEIGHBOUR: 'it returns false'. Refute it at one input. -/
def namesRightsWrong : ChangeSpec := { name := "namesRights", fn := fun _ => fun
  | [d1, d2] => { results := [.lit (.bool false)], args := [d1, d2] }
  | _ => none }
def NamesRightsWrongFalsely : Prop := namesRightsRow.holds Try.pinned (OpenSpec.ofChange namesRightsWrong)

/-- 'palinglaw15.NamesOwn': WHATEVER THE INPUT: true; the input reads as it did. -/
def namesOwnSpec : ChangeSpec := { name := "namesOwn", fn := fun _ => fun
  | [d] => { results := [.lit (.bool true)], args := [d] }
  | _ => none }
def namesOwnRow : OpenClaim := { program := "ythagnfgaibaokaa", sum := "8fa5ff7cc81bdc26991bce73a36681078aaea550afb766419e5c43de5ad5e949", func := "paling/palinglaw15.NamesOwn", spec := "namesOwn", unfollowed := true, recurses := true, apart := false }
def NamesOwnSaid : Prop := namesOwnRow.holds Try.pinned (OpenSpec.ofChange namesOwnSpec)

/-- ITS FALSE NEIGHBOUR: 'it returns false'. Refute it at one input. -/
def namesOwnWrong : ChangeSpec := { name := "namesOwn", fn := fun _ => fun
  | [d] => { results := [.lit (.bool false)], args := [d] }
  | _ => none }
def NamesOwnWrongFalsely : Prop := namesOwnRow.holds Try.pinned (OpenSpec.ofChange namesOwnWrong)

/-- 'palinglaw29.LookupUsable': WHATEVER THE INPUT: true; the input reads as it did. -/
def lookupUsableSpec : ChangeSpec := { name := "lookupUsable", fn := fun _ => fun
  | [d1, d2, d3] => { results := [.lit (.bool true)], args := [d1, d2, d3] }
  | _ => none }
def lookupUsableRow : OpenClaim := { program := "ythagnfgaibaokaa", sum := "8fa5ff7cc81bdc26991bce73a36681078aaea550afb766419e5c43de5ad5e949", func := "paling/palinglaw29.LookupUsable", spec := "lookupUsable", unfollowed := true, recurses := true, apart := false }
def LookupUsableSaid : Prop := lookupUsableRow.holds Try.pinned (OpenSpec.ofChange lookupUsableSpec)

/-- ITS FALSE NEIGHBOUR: 'it returns false'. Refute it at one input. -/
def lookupUsableWrong : ChangeSpec := { name := "lookupUsable", fn := fun _ => fun
  | [d1, d2, d3] => { results := [.lit (.bool false)], args := [d1, d2, d3] }
  | _ => none }
def LookupUsableWrongFalsely : Prop := lookupUsableRow.holds Try.pinned (OpenSpec.ofChange lookupUsableWrong)

/-- 'palinglaw36.ChooseTells': WHATEVER THE INPUT: true; the input reads as it did. -/
def chooseTellsSpec : ChangeSpec := { name := "chooseTells", fn := fun _ => fun
  | [d1, d2, d3] => { results := [.lit (.bool true)], args := [d1, d2, d3] }
  | _ => none }
def chooseTellsRow : OpenClaim := { program := "ythagnfgaibaokaa", sum := "8fa5ff7cc81bdc26991bce73a36681078aaea550afb766419e5c43de5ad5e949", func := "paling/palinglaw36.ChooseTells", spec := "chooseTells", unfollowed := true, recurses := true, apart := false }
def ChooseTellsSaid : Prop := chooseTellsRow.holds Try.pinned (OpenSpec.ofChange chooseTellsSpec)

/-- ITS FALSE NEIGHBOUR: 'it returns false'. Refute it at one input. -/
def chooseTellsWrong : ChangeSpec := { name := "chooseTells", fn := fun _ => fun
  | [d1, d2, d3] => { results := [.lit (.bool false)], args := [d1, d2, d3] }
  | _ => none }
def ChooseTellsWrongFalsely : Prop := chooseTellsRow.holds Try.pinned (OpenSpec.ofChange chooseTellsWrong)

/-- 'palinglaw36.ChooseLeads': WHATEVER THE INPUT: true; the input reads as it did. -/
def chooseLeadsSpec : ChangeSpec := { name := "chooseLeads", fn := fun _ => fun
  | [d1, d2, d3, d4] => { results := [.lit (.bool true)], args := [d1, d2, d3, d4] }
  | _ => none }
def chooseLeadsRow : OpenClaim := { program := "ythagnfgaibaokaa", sum := "8fa5ff7cc81bdc26991bce73a36681078aaea550afb766419e5c43de5ad5e949", func := "paling/palinglaw36.ChooseLeads", spec := "chooseLeads", unfollowed := true, recurses := true, apart := false }
def ChooseLeadsSaid : Prop := chooseLeadsRow.holds Try.pinned (OpenSpec.ofChange chooseLeadsSpec)

/-- ITS FALSE NEIGHBOUR: 'it returns false'. Refute it at one input. -/
def chooseLeadsWrong : ChangeSpec := { name := "chooseLeads", fn := fun _ => fun
  | [d1, d2, d3, d4] => { results := [.lit (.bool false)], args := [d1, d2, d3, d4] }
  | _ => none }
def ChooseLeadsWrongFalsely : Prop := chooseLeadsRow.holds Try.pinned (OpenSpec.ofChange chooseLeadsWrong)

/-- 'palinglaw29.LookupDecides': WHATEVER THE INPUT: true; the input reads as it did. -/
def lookupDecidesSpec : ChangeSpec := { name := "lookupDecides", fn := fun _ => fun
  | [d1, d2, d3, d4, d5, d6] => { results := [.lit (.bool true)], args := [d1, d2, d3, d4, d5, d6] }
  | _ => none }
def lookupDecidesRow : OpenClaim := { program := "ythagnfgaibaokaa", sum := "8fa5ff7cc81bdc26991bce73a36681078aaea550afb766419e5c43de5ad5e949", func := "paling/palinglaw29.LookupDecides", spec := "lookupDecides", unfollowed := true, recurses := true, apart := false }
def LookupDecidesSaid : Prop := lookupDecidesRow.holds Try.pinned (OpenSpec.ofChange lookupDecidesSpec)

/-- ITS FALSE NEIGHBOUR: 'it returns false'. Refute it at one input. -/
def lookupDecidesWrong : ChangeSpec := { name := "lookupDecides", fn := fun _ => fun
  | [d1, d2, d3, d4, d5, d6] => { results := [.lit (.bool false)], args := [d1, d2, d3, d4, d5, d6] }
  | _ => none }
def LookupDecidesWrongFalsely : Prop := lookupDecidesRow.holds Try.pinned (OpenSpec.ofChange lookupDecidesWrong)

/-- 'palinglaw29.LookupWithin': WHATEVER THE INPUT: true; the input reads as it did. -/
def lookupWithinSpec : ChangeSpec := { name := "lookupWithin", fn := fun _ => fun
  | [d1, d2, d3, d4, d5, d6] => { results := [.lit (.bool true)], args := [d1, d2, d3, d4, d5, d6] }
  | _ => none }
def lookupWithinRow : OpenClaim := { program := "ythagnfgaibaokaa", sum := "8fa5ff7cc81bdc26991bce73a36681078aaea550afb766419e5c43de5ad5e949", func := "paling/palinglaw29.LookupWithin", spec := "lookupWithin", unfollowed := true, recurses := true, apart := false }
def LookupWithinSaid : Prop := lookupWithinRow.holds Try.pinned (OpenSpec.ofChange lookupWithinSpec)

/-- ITS FALSE NEIGHBOUR: 'it returns false'. Refute it at one input. -/
def lookupWithinWrong : ChangeSpec := { name := "lookupWithin", fn := fun _ => fun
  | [d1, d2, d3, d4, d5, d6] => { results := [.lit (.bool false)], args := [d1, d2, d3, d4, d5, d6] }
  | _ => none }
def LookupWithinWrongFalsely : Prop := lookupWithinRow.holds Try.pinned (OpenSpec.ofChange lookupWithinWrong)

/- THE SECOND FORM. 'bulk': how many values and letters a reading holds, each counted each time it is reached (what is shared counts as often as it is met; a slice's spare places count too). A statement '..UptoSaid' is the law's where the arguments, and the package variables that the reading takes, are together of bulk at most 1048576: NARROWER than '..Said'. Prove '..Said' where nothing that the law and all that it calls make is longer than what came in: it says more and counts as full. Else prove '..UptoSaid'. A law counts once. -/
mutual
def uptoBulk {H : Type} : DataW H → Nat
  | .lit (.string bytes) => bytes.length + 1
  | .lit _ => 1
  | .nil => 1
  | .ptr d => uptoBulk d + 1
  | .slice elems spare => uptoBulkAll elems + uptoBulkAll spare + 1
  | .agg parts => uptoBulkAll parts + 1
  | .iface _ d => uptoBulk d + 1
  | .map entries => uptoBulkEntries entries + 1
  | .held _ => 1
def uptoBulkAll {H : Type} : List (DataW H) → Nat
  | [] => 0
  | d :: r => uptoBulk d + uptoBulkAll r
def uptoBulkEntries {H : Type} : List (Lit × DataW H) → Nat
  | [] => 0
  | x :: r => uptoBulkEntry x + uptoBulkEntries r
def uptoBulkEntry {H : Type} : Lit × DataW H → Nat
  | (.string bytes, d) => bytes.length + uptoBulk d + 1
  | (_, d) => uptoBulk d + 1
 end
def uptoSmall : (H : Type) → List (DataW H) → Bool := fun _ ds => decide (uptoBulkAll ds ≤ 1048576)
def OpenSpec.upto (s : _root_.Go.ChangeSpec) : _root_.Go.OpenSpec := { _root_.Go.OpenSpec.ofChange s with cond := some uptoSmall }

/-- 'palinglaw15.NamesPorts', WHERE WHAT IT READS IS OF BULK AT MOST 1048576: true; the input reads as it did. -/
def namesPortsUptoRow : OpenClaim := { program := "ythagnfgaibaokaa", sum := "8fa5ff7cc81bdc26991bce73a36681078aaea550afb766419e5c43de5ad5e949", func := "paling/palinglaw15.NamesPorts", spec := "namesPorts", unfollowed := true, recurses := true, apart := false, narrowed := true }
def NamesPortsUptoSaid : Prop := namesPortsUptoRow.holds Try.pinned (OpenSpec.upto namesPortsSpec)

/-- 'palinglaw17.LinksCrosses', WHERE WHAT IT READS IS OF BULK AT MOST 1048576: true; the input reads as it did. -/
def linksCrossesUptoRow : OpenClaim := { program := "ythagnfgaibaokaa", sum := "8fa5ff7cc81bdc26991bce73a36681078aaea550afb766419e5c43de5ad5e949", func := "paling/palinglaw17.LinksCrosses", spec := "linksCrosses", unfollowed := true, recurses := true, apart := false, narrowed := true }
def LinksCrossesUptoSaid : Prop := linksCrossesUptoRow.holds Try.pinned (OpenSpec.upto linksCrossesSpec)

/-- 'palinglaw17.LinksBack', WHERE WHAT IT READS IS OF BULK AT MOST 1048576: true; the input reads as it did. -/
def linksBackUptoRow : OpenClaim := { program := "ythagnfgaibaokaa", sum := "8fa5ff7cc81bdc26991bce73a36681078aaea550afb766419e5c43de5ad5e949", func := "paling/palinglaw17.LinksBack", spec := "linksBack", unfollowed := true, recurses := true, apart := false, narrowed := true }
def LinksBackUptoSaid : Prop := linksBackUptoRow.holds Try.pinned (OpenSpec.upto linksBackSpec)

/-- 'palinglaw15.NamesRights', WHERE WHAT IT READS IS OF BULK AT MOST 1048576: true; the input reads as it did. -/
def namesRightsUptoRow : OpenClaim := { program := "ythagnfgaibaokaa", sum := "8fa5ff7cc81bdc26991bce73a36681078aaea550afb766419e5c43de5ad5e949", func := "paling/palinglaw15.NamesRights", spec := "namesRights", unfollowed := true, recurses := true, apart := false, narrowed := true }
def NamesRightsUptoSaid : Prop := namesRightsUptoRow.holds Try.pinned (OpenSpec.upto namesRightsSpec)

/-- 'palinglaw15.NamesOwn', WHERE WHAT IT READS IS OF BULK AT MOST 1048576: true; the input reads as it did. -/
def namesOwnUptoRow : OpenClaim := { program := "ythagnfgaibaokaa", sum := "8fa5ff7cc81bdc26991bce73a36681078aaea550afb766419e5c43de5ad5e949", func := "paling/palinglaw15.NamesOwn", spec := "namesOwn", unfollowed := true, recurses := true, apart := false, narrowed := true }
def NamesOwnUptoSaid : Prop := namesOwnUptoRow.holds Try.pinned (OpenSpec.upto namesOwnSpec)

/-- 'palinglaw29.LookupUsable', WHERE WHAT IT READS IS OF BULK AT MOST 1048576: true; the input reads as it did. -/
def lookupUsableUptoRow : OpenClaim := { program := "ythagnfgaibaokaa", sum := "8fa5ff7cc81bdc26991bce73a36681078aaea550afb766419e5c43de5ad5e949", func := "paling/palinglaw29.LookupUsable", spec := "lookupUsable", unfollowed := true, recurses := true, apart := false, narrowed := true }
def LookupUsableUptoSaid : Prop := lookupUsableUptoRow.holds Try.pinned (OpenSpec.upto lookupUsableSpec)

/-- 'palinglaw36.ChooseTells', WHERE WHAT IT READS IS OF BULK AT MOST 1048576: true; the input reads as it did. -/
def chooseTellsUptoRow : OpenClaim := { program := "ythagnfgaibaokaa", sum := "8fa5ff7cc81bdc26991bce73a36681078aaea550afb766419e5c43de5ad5e949", func := "paling/palinglaw36.ChooseTells", spec := "chooseTells", unfollowed := true, recurses := true, apart := false, narrowed := true }
def ChooseTellsUptoSaid : Prop := chooseTellsUptoRow.holds Try.pinned (OpenSpec.upto chooseTellsSpec)

/-- 'palinglaw36.ChooseLeads', WHERE WHAT IT READS IS OF BULK AT MOST 1048576: true; the input reads as it did. -/
def chooseLeadsUptoRow : OpenClaim := { program := "ythagnfgaibaokaa", sum := "8fa5ff7cc81bdc26991bce73a36681078aaea550afb766419e5c43de5ad5e949", func := "paling/palinglaw36.ChooseLeads", spec := "chooseLeads", unfollowed := true, recurses := true, apart := false, narrowed := true }
def ChooseLeadsUptoSaid : Prop := chooseLeadsUptoRow.holds Try.pinned (OpenSpec.upto chooseLeadsSpec)

/-- 'palinglaw29.LookupDecides', WHERE WHAT IT READS IS OF BULK AT MOST 1048576: true; the input reads as it did. -/
def lookupDecidesUptoRow : OpenClaim := { program := "ythagnfgaibaokaa", sum := "8fa5ff7cc81bdc26991bce73a36681078aaea550afb766419e5c43de5ad5e949", func := "paling/palinglaw29.LookupDecides", spec := "lookupDecides", unfollowed := true, recurses := true, apart := false, narrowed := true }
def LookupDecidesUptoSaid : Prop := lookupDecidesUptoRow.holds Try.pinned (OpenSpec.upto lookupDecidesSpec)

/-- 'palinglaw29.LookupWithin', WHERE WHAT IT READS IS OF BULK AT MOST 1048576: true; the input reads as it did. -/
def lookupWithinUptoRow : OpenClaim := { program := "ythagnfgaibaokaa", sum := "8fa5ff7cc81bdc26991bce73a36681078aaea550afb766419e5c43de5ad5e949", func := "paling/palinglaw29.LookupWithin", spec := "lookupWithin", unfollowed := true, recurses := true, apart := false, narrowed := true }
def LookupWithinUptoSaid : Prop := lookupWithinUptoRow.holds Try.pinned (OpenSpec.upto lookupWithinSpec)

end Rows
end Go.Proofs.Ythagnfgaibaokaa
