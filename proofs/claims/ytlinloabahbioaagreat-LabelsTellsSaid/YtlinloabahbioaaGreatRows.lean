/-
  No cell of these rows narrows 'for every input' (looked for: loops, veiled, ifaces, maps, wideKeys, modest, calm, conditions, laid).
  DERIVED. THE GIVEN ROWS OF THIS SEAT. 5 by the template 'for every input the law returns true; each argument reads behind the call as it read before'; 0 by the template 'total and deterministic' (their statements: YtlinloabahbioaaGreatTotals.lean).
  GIVEN WITH THE SEED: the statements are not yours to turn. If you find one false, say at which input.
  Laid BY PROGRAM, IN A SANDBOX (cutbox-rows.mjs): the forced cells as the released guide's own fill.sh prints them over the translation 6f647aaeb09fdc75… (all of the seat's roots in one cut). By AI agents, Wed Nov 11 2026. No macro, syntax, notation, axiom, sorry.
-/
import Derived.Test.YtlinloabahbioaaGreatChecked
import GoSem.Claim
import GoSem.ClaimJoined
import GoSem.ClaimMapViews
import Derived.JoinedTies
import Derived.KernelRfl
namespace Go.Proofs.YtlinloabahbioaaGreat
/- THE CELL 'sum', in the pinned program and in every row, IS THE sha256 OF THE DUMP (.gsa) THAT YtlinloabahbioaaGreatProg.lean LOADS. Nothing in Lean hashes anything: it is a label: what it is worth is what the hold of that sum in a sandbox is worth. -/
noncomputable def Tryz.pinned : Pinned := { name := "ytlinloabahbioaagreat", sum := "6f647aaeb09fdc7525f342c8eb6d67243401136f6111a304184e59c084c0f756", checked := Tryz.checked }
namespace Rows
def none {H : Type} : Left H := { results := [], args := [] }

/-- 'palinglaw42.LabelsTells': WHATEVER THE INPUT: true; the input reads as it did. -/
def labelsTellsSpec : ChangeSpec := { name := "labelsTells", fn := fun _ => fun
  | [d1, d2] => { results := [.lit (.bool true)], args := [d1, d2] }
  | _ => none }
def labelsTellsRow : OpenClaim := { program := "ytlinloabahbioaagreat", sum := "6f647aaeb09fdc7525f342c8eb6d67243401136f6111a304184e59c084c0f756", func := "paling/palinglaw42.LabelsTells", spec := "labelsTells", unfollowed := true, recurses := true, apart := false }
def LabelsTellsSaid : Prop := labelsTellsRow.holds Tryz.pinned (OpenSpec.ofChange labelsTellsSpec)

/-- ITS FALSE NEIGHBOUR: 'it returns false'. Refute it at one input. -/
def labelsTellsWrong : ChangeSpec := { name := "labelsTells", fn := fun _ => fun
  | [d1, d2] => { results := [.lit (.bool false)], args := [d1, d2] }
  | _ => none }
def LabelsTellsWrongFalsely : Prop := labelsTellsRow.holds Tryz.pinned (OpenSpec.ofChange labelsTellsWrong)

/-- 'palinglaw42.LabelsLists': WHATEVER THE INPUT: true; the input reads as it did. -/
def labelsListsSpec : ChangeSpec := { name := "labelsLists", fn := fun _ => fun
  | [d1, d2, d3, d4] => { results := [.lit (.bool true)], args := [d1, d2, d3, d4] }
  | _ => none }
def labelsListsRow : OpenClaim := { program := "ytlinloabahbioaagreat", sum := "6f647aaeb09fdc7525f342c8eb6d67243401136f6111a304184e59c084c0f756", func := "paling/palinglaw42.LabelsLists", spec := "labelsLists", unfollowed := true, recurses := true, apart := false }
def LabelsListsSaid : Prop := labelsListsRow.holds Tryz.pinned (OpenSpec.ofChange labelsListsSpec)

/-- ITS FALSE NEIGHBOUR: 'it returns false'. Refute it at one input. -/
def labelsListsWrong : ChangeSpec := { name := "labelsLists", fn := fun _ => fun
  | [d1, d2, d3, d4] => { results := [.lit (.bool false)], args := [d1, d2, d3, d4] }
  | _ => none }
def LabelsListsWrongFalsely : Prop := labelsListsRow.holds Tryz.pinned (OpenSpec.ofChange labelsListsWrong)

/-- 'palinglaw17.LinksAdds': WHATEVER THE INPUT: true; the input reads as it did. -/
def linksAddsSpec : ChangeSpec := { name := "linksAdds", fn := fun _ => fun
  | [d1, d2] => { results := [.lit (.bool true)], args := [d1, d2] }
  | _ => none }
def linksAddsRow : OpenClaim := { program := "ytlinloabahbioaagreat", sum := "6f647aaeb09fdc7525f342c8eb6d67243401136f6111a304184e59c084c0f756", func := "paling/palinglaw17.LinksAdds", spec := "linksAdds", unfollowed := true, recurses := true, apart := false }
def LinksAddsSaid : Prop := linksAddsRow.holds Tryz.pinned (OpenSpec.ofChange linksAddsSpec)

/-- ITS FALSE NEIGHBOUR: 'it returns false'. Refute it at one input. -/
def linksAddsWrong : ChangeSpec := { name := "linksAdds", fn := fun _ => fun
  | [d1, d2] => { results := [.lit (.bool false)], args := [d1, d2] }
  | _ => none }
def LinksAddsWrongFalsely : Prop := linksAddsRow.holds Tryz.pinned (OpenSpec.ofChange linksAddsWrong)

/-- 'palinglaw16.PortsPuts': WHATEVER THE INPUT: true; the input reads as it did. -/
def portsPutsSpec : ChangeSpec := { name := "portsPuts", fn := fun _ => fun
  | [d1, d2] => { results := [.lit (.bool true)], args := [d1, d2] }
  | _ => none }
def portsPutsRow : OpenClaim := { program := "ytlinloabahbioaagreat", sum := "6f647aaeb09fdc7525f342c8eb6d67243401136f6111a304184e59c084c0f756", func := "paling/palinglaw16.PortsPuts", spec := "portsPuts", unfollowed := true, recurses := true, apart := false }
def PortsPutsSaid : Prop := portsPutsRow.holds Tryz.pinned (OpenSpec.ofChange portsPutsSpec)

/-- ITS FALSE NEIGHBOUR: 'it returns false'. Refute it at one input. -/
def portsPutsWrong : ChangeSpec := { name := "portsPuts", fn := fun _ => fun
  | [d1, d2] => { results := [.lit (.bool false)], args := [d1, d2] }
  | _ => none }
def PortsPutsWrongFalsely : Prop := portsPutsRow.holds Tryz.pinned (OpenSpec.ofChange portsPutsWrong)

/-- 'palinglaw19.OverlayPuts': WHATEVER THE INPUT: true; the input reads as it did. -/
def overlayPutsSpec : ChangeSpec := { name := "overlayPuts", fn := fun _ => fun
  | [d1, d2] => { results := [.lit (.bool true)], args := [d1, d2] }
  | _ => none }
def overlayPutsRow : OpenClaim := { program := "ytlinloabahbioaagreat", sum := "6f647aaeb09fdc7525f342c8eb6d67243401136f6111a304184e59c084c0f756", func := "paling/palinglaw19.OverlayPuts", spec := "overlayPuts", unfollowed := true, recurses := true, apart := false }
def OverlayPutsSaid : Prop := overlayPutsRow.holds Tryz.pinned (OpenSpec.ofChange overlayPutsSpec)

/-- ITS FALSE NEIGHBOUR: 'it returns false'. Refute it at one input. -/
def overlayPutsWrong : ChangeSpec := { name := "overlayPuts", fn := fun _ => fun
  | [d1, d2] => { results := [.lit (.bool false)], args := [d1, d2] }
  | _ => none }
def OverlayPutsWrongFalsely : Prop := overlayPutsRow.holds Tryz.pinned (OpenSpec.ofChange overlayPutsWrong)

/- THE SECOND FORM. 'bulk': how many values and letters a reading holds, each counted each time it is reached (what is shared counts as often as it is met; a slice's spare places count too). A statement '..UptoSaid' is the law's where the arguments, and the package variables that the reading takes, are together of bulk at most 1048576: NARROWER than '..Said'. Prove '..Said' where nothing that the law and all that it calls make is longer than what came in: it says more and counts as full. Else prove '..UptoSaid'. A law counts once. -/
mutual
def uptoBulk {H : Type} : DataW H → Nat
  | .lit (.string bytes) => bytes.length + 1
  | .lit _ => 1
  | .nil => 1
  | .ptr d => uptoBulk d + 1
  | .slice elems spare => uptoBulkAll elems + uptoBulkAll spare + 1
  | .agg parts => uptoBulkAll parts + 1
  | .iface _ d => uptoBulk d + 1
  | .map entries => uptoBulkEntries entries + 1
  | .held _ => 1
def uptoBulkAll {H : Type} : List (DataW H) → Nat
  | [] => 0
  | d :: r => uptoBulk d + uptoBulkAll r
def uptoBulkEntries {H : Type} : List (Lit × DataW H) → Nat
  | [] => 0
  | x :: r => uptoBulkEntry x + uptoBulkEntries r
def uptoBulkEntry {H : Type} : Lit × DataW H → Nat
  | (.string bytes, d) => bytes.length + uptoBulk d + 1
  | (_, d) => uptoBulk d + 1
 end
def uptoSmall : (H : Type) → List (DataW H) → Bool := fun _ ds => decide (uptoBulkAll ds ≤ 1048576)
def OpenSpec.upto (s : _root_.Go.ChangeSpec) : _root_.Go.OpenSpec := { _root_.Go.OpenSpec.ofChange s with cond := some uptoSmall }

/-- 'palinglaw42.LabelsTells', WHERE WHAT IT READS IS OF BULK AT MOST 1048576: true; the input reads as it did. -/
def labelsTellsUptoRow : OpenClaim := { program := "ytlinloabahbioaagreat", sum := "6f647aaeb09fdc7525f342c8eb6d67243401136f6111a304184e59c084c0f756", func := "paling/palinglaw42.LabelsTells", spec := "labelsTells", unfollowed := true, recurses := true, apart := false, narrowed := true }
def LabelsTellsUptoSaid : Prop := labelsTellsUptoRow.holds Tryz.pinned (OpenSpec.upto labelsTellsSpec)

/-- 'palinglaw42.LabelsLists', WHERE WHAT IT READS IS OF BULK AT MOST 1048576: true; the input reads as it did. -/
def labelsListsUptoRow : OpenClaim := { program := "ytlinloabahbioaagreat", sum := "6f647aaeb09fdc7525f342c8eb6d67243401136f6111a304184e59c084c0f756", func := "paling/palinglaw42.LabelsLists", spec := "labelsLists", unfollowed := true, recurses := true, apart := false, narrowed := true }
def LabelsListsUptoSaid : Prop := labelsListsUptoRow.holds Tryz.pinned (OpenSpec.upto labelsListsSpec)

/-- 'palinglaw17.LinksAdds', WHERE WHAT IT READS IS OF BULK AT MOST 1048576: true; the input reads as it did. -/
def linksAddsUptoRow : OpenClaim := { program := "ytlinloabahbioaagreat", sum := "6f647aaeb09fdc7525f342c8eb6d67243401136f6111a304184e59c084c0f756", func := "paling/palinglaw17.LinksAdds", spec := "linksAdds", unfollowed := true, recurses := true, apart := false, narrowed := true }
def LinksAddsUptoSaid : Prop := linksAddsUptoRow.holds Tryz.pinned (OpenSpec.upto linksAddsSpec)

/-- 'palinglaw16.PortsPuts', WHERE WHAT IT READS IS OF BULK AT MOST 1048576: true; the input reads as it did. -/
def portsPutsUptoRow : OpenClaim := { program := "ytlinloabahbioaagreat", sum := "6f647aaeb09fdc7525f342c8eb6d67243401136f6111a304184e59c084c0f756", func := "paling/palinglaw16.PortsPuts", spec := "portsPuts", unfollowed := true, recurses := true, apart := false, narrowed := true }
def PortsPutsUptoSaid : Prop := portsPutsUptoRow.holds Tryz.pinned (OpenSpec.upto portsPutsSpec)

/-- 'palinglaw19.OverlayPuts', WHERE WHAT IT READS IS OF BULK AT MOST 1048576: true; the input reads as it did. -/
def overlayPutsUptoRow : OpenClaim := { program := "ytlinloabahbioaagreat", sum := "6f647aaeb09fdc7525f342c8eb6d67243401136f6111a304184e59c084c0f756", func := "paling/palinglaw19.OverlayPuts", spec := "overlayPuts", unfollowed := true, recurses := true, apart := false, narrowed := true }
def OverlayPutsUptoSaid : Prop := overlayPutsUptoRow.holds Tryz.pinned (OpenSpec.upto overlayPutsSpec)

end Rows
end Go.Proofs.YtlinloabahbioaaGreat
