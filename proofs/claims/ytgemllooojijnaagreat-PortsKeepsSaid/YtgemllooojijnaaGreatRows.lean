/-
  No cell of these rows narrows 'for every input' (looked for: loops, veiled, ifaces, maps, wideKeys, modest, calm, conditions, laid).
  DERIVED. THE GIVEN ROWS OF THIS SEAT. 12 by the template 'for every input the law returns true; each argument reads behind the call as it read before'; 0 by the template 'total and deterministic' (their statements: YtgemllooojijnaaGreatTotals.lean).
  GIVEN WITH THE SEED: the statements are not yours to turn. If you find one false, say at which input.
  Laid BY PROGRAM, IN A SANDBOX (cutbox-rows.mjs): the forced cells as the released guide's own fill.sh prints them over the translation 9b7c41d301b75e5c… (all of the seat's roots in one cut). By AI agents, Wed Nov 11 2026. No macro, syntax, notation, axiom, sorry.
-/
import Derived.Test.YtgemllooojijnaaGreatChecked
import GoSem.Claim
import GoSem.ClaimJoined
import GoSem.ClaimMapViews
import Derived.JoinedTies
import Derived.KernelRfl
namespace Go.Proofs.YtgemllooojijnaaGreat
/- THE CELL 'sum', in the pinned program and in every row, IS THE sha256 OF THE DUMP (.gsa) THAT YtgemllooojijnaaGreatProg.lean LOADS. Nothing in Lean hashes anything: it is a label: what it is worth is what the hold of that sum in a sandbox is worth. -/
noncomputable def Tryz.pinned : Pinned := { name := "ytgemllooojijnaagreat", sum := "9b7c41d301b75e5ccab5f5802a5cd4508649d739be1af66a971e573f5eb49849", checked := Tryz.checked }
namespace Rows
def none {H : Type} : Left H := { results := [], args := [] }

/-- 'palinglaw16.PortsPuts': WHATEVER THE INPUT: true; the input reads as it did. -/
def portsPutsSpec : ChangeSpec := { name := "portsPuts", fn := fun _ => fun
  | [d1, d2] => { results := [.lit (.bool true)], args := [d1, d2] }
  | _ => none }
def portsPutsRow : OpenClaim := { program := "ytgemllooojijnaagreat", sum := "9b7c41d301b75e5ccab5f5802a5cd4508649d739be1af66a971e573f5eb49849", func := "paling/palinglaw16.PortsPuts", spec := "portsPuts", unfollowed := true, recurses := true, apart := false }
def PortsPutsSaid : Prop := portsPutsRow.holds Tryz.pinned (OpenSpec.ofChange portsPutsSpec)

/-- ITS FALSE NEIGHBOUR: 'it returns false'. Refute it at one input. -/
def portsPutsWrong : ChangeSpec := { name := "portsPuts", fn := fun _ => fun
  | [d1, d2] => { results := [.lit (.bool false)], args := [d1, d2] }
  | _ => none }
def PortsPutsWrongFalsely : Prop := portsPutsRow.holds Tryz.pinned (OpenSpec.ofChange portsPutsWrong)

/-- 'palinglaw16.PortsKeeps': WHATEVER THE INPUT: true; the input reads as it did. -/
def portsKeepsSpec : ChangeSpec := { name := "portsKeeps", fn := fun _ => fun
  | [d1, d2] => { results := [.lit (.bool true)], args := [d1, d2] }
  | _ => none }
def portsKeepsRow : OpenClaim := { program := "ytgemllooojijnaagreat", sum := "9b7c41d301b75e5ccab5f5802a5cd4508649d739be1af66a971e573f5eb49849", func := "paling/palinglaw16.PortsKeeps", spec := "portsKeeps", unfollowed := true, recurses := true, apart := false }
def PortsKeepsSaid : Prop := portsKeepsRow.holds Tryz.pinned (OpenSpec.ofChange portsKeepsSpec)

/-- ITS FALSE NEIGHBOUR: 'it returns false'. Refute it at one input. -/
def portsKeepsWrong : ChangeSpec := { name := "portsKeeps", fn := fun _ => fun
  | [d1, d2] => { results := [.lit (.bool false)], args := [d1, d2] }
  | _ => none }
def PortsKeepsWrongFalsely : Prop := portsKeepsRow.holds Tryz.pinned (OpenSpec.ofChange portsKeepsWrong)

/-- 'palinglaw17.LinksAdds': WHATEVER THE INPUT: true; the input reads as it did. -/
def linksAddsSpec : ChangeSpec := { name := "linksAdds", fn := fun _ => fun
  | [d1, d2] => { results := [.lit (.bool true)], args := [d1, d2] }
  | _ => none }
def linksAddsRow : OpenClaim := { program := "ytgemllooojijnaagreat", sum := "9b7c41d301b75e5ccab5f5802a5cd4508649d739be1af66a971e573f5eb49849", func := "paling/palinglaw17.LinksAdds", spec := "linksAdds", unfollowed := true, recurses := true, apart := false }
def LinksAddsSaid : Prop := linksAddsRow.holds Tryz.pinned (OpenSpec.ofChange linksAddsSpec)

/-- ITS FALSE NEIGHBOUR: 'it returns false'. Refute it at one input. -/
def linksAddsWrong : ChangeSpec := { name := "linksAdds", fn := fun _ => fun
  | [d1, d2] => { results := [.lit (.bool false)], args := [d1, d2] }
  | _ => none }
def LinksAddsWrongFalsely : Prop := linksAddsRow.holds Tryz.pinned (OpenSpec.ofChange linksAddsWrong)

/-- 'palinglaw20.VrfsPuts': WHATEVER THE INPUT: true; the input reads as it did. -/
def vrfsPutsSpec : ChangeSpec := { name := "vrfsPuts", fn := fun _ => fun
  | [d1, d2] => { results := [.lit (.bool true)], args := [d1, d2] }
  | _ => none }
def vrfsPutsRow : OpenClaim := { program := "ytgemllooojijnaagreat", sum := "9b7c41d301b75e5ccab5f5802a5cd4508649d739be1af66a971e573f5eb49849", func := "paling/palinglaw20.VrfsPuts", spec := "vrfsPuts", unfollowed := true, recurses := true, apart := false }
def VrfsPutsSaid : Prop := vrfsPutsRow.holds Tryz.pinned (OpenSpec.ofChange vrfsPutsSpec)

/-- ITS FALSE NEIGHBOUR: 'it returns false'. Refute it at one input. -/
def vrfsPutsWrong : ChangeSpec := { name := "vrfsPuts", fn := fun _ => fun
  | [d1, d2] => { results := [.lit (.bool false)], args := [d1, d2] }
  | _ => none }
def VrfsPutsWrongFalsely : Prop := vrfsPutsRow.holds Tryz.pinned (OpenSpec.ofChange vrfsPutsWrong)

/-- 'palinglaw20.VrfsTells': WHATEVER THE INPUT: true; the input reads as it did. -/
def vrfsTellsSpec : ChangeSpec := { name := "vrfsTells", fn := fun _ => fun
  | [d1, d2, d3, d4] => { results := [.lit (.bool true)], args := [d1, d2, d3, d4] }
  | _ => none }
def vrfsTellsRow : OpenClaim := { program := "ytgemllooojijnaagreat", sum := "9b7c41d301b75e5ccab5f5802a5cd4508649d739be1af66a971e573f5eb49849", func := "paling/palinglaw20.VrfsTells", spec := "vrfsTells", unfollowed := true, recurses := true, apart := false }
def VrfsTellsSaid : Prop := vrfsTellsRow.holds Tryz.pinned (OpenSpec.ofChange vrfsTellsSpec)

/-- ITS FALSE NEIGHBOUR: 'it returns false'. Refute it at one input. -/
def vrfsTellsWrong : ChangeSpec := { name := "vrfsTells", fn := fun _ => fun
  | [d1, d2, d3, d4] => { results := [.lit (.bool false)], args := [d1, d2, d3, d4] }
  | _ => none }
def VrfsTellsWrongFalsely : Prop := vrfsTellsRow.holds Tryz.pinned (OpenSpec.ofChange vrfsTellsWrong)

/-- 'palinglaw20.VrfsKeeps': WHATEVER THE INPUT: true; the input reads as it did. -/
def vrfsKeepsSpec : ChangeSpec := { name := "vrfsKeeps", fn := fun _ => fun
  | [d1, d2, d3] => { results := [.lit (.bool true)], args := [d1, d2, d3] }
  | _ => none }
def vrfsKeepsRow : OpenClaim := { program := "ytgemllooojijnaagreat", sum := "9b7c41d301b75e5ccab5f5802a5cd4508649d739be1af66a971e573f5eb49849", func := "paling/palinglaw20.VrfsKeeps", spec := "vrfsKeeps", unfollowed := true, recurses := true, apart := false }
def VrfsKeepsSaid : Prop := vrfsKeepsRow.holds Tryz.pinned (OpenSpec.ofChange vrfsKeepsSpec)

/-- ITS FALSE NEIGHBOUR: 'it returns false'. Refute it at one input. -/
def vrfsKeepsWrong : ChangeSpec := { name := "vrfsKeeps", fn := fun _ => fun
  | [d1, d2, d3] => { results := [.lit (.bool false)], args := [d1, d2, d3] }
  | _ => none }
def VrfsKeepsWrongFalsely : Prop := vrfsKeepsRow.holds Tryz.pinned (OpenSpec.ofChange vrfsKeepsWrong)

/-- 'palinglaw19.OverlayMeshes': WHATEVER THE INPUT: true; the input reads as it did. -/
def overlayMeshesSpec : ChangeSpec := { name := "overlayMeshes", fn := fun _ => fun
  | [d1, d2, d3] => { results := [.lit (.bool true)], args := [d1, d2, d3] }
  | _ => none }
def overlayMeshesRow : OpenClaim := { program := "ytgemllooojijnaagreat", sum := "9b7c41d301b75e5ccab5f5802a5cd4508649d739be1af66a971e573f5eb49849", func := "paling/palinglaw19.OverlayMeshes", spec := "overlayMeshes", unfollowed := true, recurses := true, apart := false }
def OverlayMeshesSaid : Prop := overlayMeshesRow.holds Tryz.pinned (OpenSpec.ofChange overlayMeshesSpec)

/-- ITS FALSE NEIGHBOUR: 'it returns false'. Refute it at one input. -/
def overlayMeshesWrong : ChangeSpec := { name := "overlayMeshes", fn := fun _ => fun
  | [d1, d2, d3] => { results := [.lit (.bool false)], args := [d1, d2, d3] }
  | _ => none }
def OverlayMeshesWrongFalsely : Prop := overlayMeshesRow.holds Tryz.pinned (OpenSpec.ofChange overlayMeshesWrong)

/-- 'palinglaw19.OverlayPuts': WHATEVER THE INPUT: true; the input reads as it did. -/
def overlayPutsSpec : ChangeSpec := { name := "overlayPuts", fn := fun _ => fun
  | [d1, d2] => { results := [.lit (.bool true)], args := [d1, d2] }
  | _ => none }
def overlayPutsRow : OpenClaim := { program := "ytgemllooojijnaagreat", sum := "9b7c41d301b75e5ccab5f5802a5cd4508649d739be1af66a971e573f5eb49849", func := "paling/palinglaw19.OverlayPuts", spec := "overlayPuts", unfollowed := true, recurses := true, apart := false }
def OverlayPutsSaid : Prop := overlayPutsRow.holds Tryz.pinned (OpenSpec.ofChange overlayPutsSpec)

/-- ITS FALSE NEIGHBOUR: 'it returns false'. Refute it at one input. -/
def overlayPutsWrong : ChangeSpec := { name := "overlayPuts", fn := fun _ => fun
  | [d1, d2] => { results := [.lit (.bool false)], args := [d1, d2] }
  | _ => none }
def OverlayPutsWrongFalsely : Prop := overlayPutsRow.holds Tryz.pinned (OpenSpec.ofChange overlayPutsWrong)

/-- 'palinglaw19.OverlayKeeps': WHATEVER THE INPUT: true; the input reads as it did. -/
def overlayKeepsSpec : ChangeSpec := { name := "overlayKeeps", fn := fun _ => fun
  | [d1, d2] => { results := [.lit (.bool true)], args := [d1, d2] }
  | _ => none }
def overlayKeepsRow : OpenClaim := { program := "ytgemllooojijnaagreat", sum := "9b7c41d301b75e5ccab5f5802a5cd4508649d739be1af66a971e573f5eb49849", func := "paling/palinglaw19.OverlayKeeps", spec := "overlayKeeps", unfollowed := true, recurses := true, apart := false }
def OverlayKeepsSaid : Prop := overlayKeepsRow.holds Tryz.pinned (OpenSpec.ofChange overlayKeepsSpec)

/-- ITS FALSE NEIGHBOUR: 'it returns false'. Refute it at one input. -/
def overlayKeepsWrong : ChangeSpec := { name := "overlayKeeps", fn := fun _ => fun
  | [d1, d2] => { results := [.lit (.bool false)], args := [d1, d2] }
  | _ => none }
def OverlayKeepsWrongFalsely : Prop := overlayKeepsRow.holds Tryz.pinned (OpenSpec.ofChange overlayKeepsWrong)

/-- 'palinglaw18.DomainsStatics': WHATEVER THE INPUT: true; the input reads as it did. -/
def domainsStaticsSpec : ChangeSpec := { name := "domainsStatics", fn := fun _ => fun
  | [d1, d2] => { results := [.lit (.bool true)], args := [d1, d2] }
  | _ => none }
def domainsStaticsRow : OpenClaim := { program := "ytgemllooojijnaagreat", sum := "9b7c41d301b75e5ccab5f5802a5cd4508649d739be1af66a971e573f5eb49849", func := "paling/palinglaw18.DomainsStatics", spec := "domainsStatics", inPlace := ["internal/abi.NoEscape", "internal/bytealg.MakeNoZero"], unfollowed := true, recurses := true, apart := false }
def DomainsStaticsSaid : Prop := domainsStaticsRow.holds Tryz.pinned (OpenSpec.ofChange domainsStaticsSpec)

/-- ITS FALSE NEIGHBOUR: 'it returns false'. Refute it at one input. -/
def domainsStaticsWrong : ChangeSpec := { name := "domainsStatics", fn := fun _ => fun
  | [d1, d2] => { results := [.lit (.bool false)], args := [d1, d2] }
  | _ => none }
def DomainsStaticsWrongFalsely : Prop := domainsStaticsRow.holds Tryz.pinned (OpenSpec.ofChange domainsStaticsWrong)

/-- 'palinglaw18.DomainsTells': WHATEVER THE INPUT: true; the input reads as it did. -/
def domainsTellsSpec : ChangeSpec := { name := "domainsTells", fn := fun _ => fun
  | [d1, d2, d3] => { results := [.lit (.bool true)], args := [d1, d2, d3] }
  | _ => none }
def domainsTellsRow : OpenClaim := { program := "ytgemllooojijnaagreat", sum := "9b7c41d301b75e5ccab5f5802a5cd4508649d739be1af66a971e573f5eb49849", func := "paling/palinglaw18.DomainsTells", spec := "domainsTells", inPlace := ["internal/abi.NoEscape", "internal/bytealg.MakeNoZero"], unfollowed := true, recurses := true, apart := false }
def DomainsTellsSaid : Prop := domainsTellsRow.holds Tryz.pinned (OpenSpec.ofChange domainsTellsSpec)

/-- ITS FALSE NEIGHBOUR: 'it returns false'. Refute it at one input. -/
def domainsTellsWrong : ChangeSpec := { name := "domainsTells", fn := fun _ => fun
  | [d1, d2, d3] => { results := [.lit (.bool false)], args := [d1, d2, d3] }
  | _ => none }
def DomainsTellsWrongFalsely : Prop := domainsTellsRow.holds Tryz.pinned (OpenSpec.ofChange domainsTellsWrong)

/-- 'palinglaw18.DomainsKeeps': WHATEVER THE INPUT: true; the input reads as it did. -/
def domainsKeepsSpec : ChangeSpec := { name := "domainsKeeps", fn := fun _ => fun
  | [d1, d2] => { results := [.lit (.bool true)], args := [d1, d2] }
  | _ => none }
def domainsKeepsRow : OpenClaim := { program := "ytgemllooojijnaagreat", sum := "9b7c41d301b75e5ccab5f5802a5cd4508649d739be1af66a971e573f5eb49849", func := "paling/palinglaw18.DomainsKeeps", spec := "domainsKeeps", inPlace := ["internal/abi.NoEscape", "internal/bytealg.MakeNoZero"], unfollowed := true, recurses := true, apart := false }
def DomainsKeepsSaid : Prop := domainsKeepsRow.holds Tryz.pinned (OpenSpec.ofChange domainsKeepsSpec)

/-- ITS FALSE NEIGHBOUR: 'it returns false'. Refute it at one input. -/
def domainsKeepsWrong : ChangeSpec := { name := "domainsKeeps", fn := fun _ => fun
  | [d1, d2] => { results := [.lit (.bool false)], args := [d1, d2] }
  | _ => none }
def DomainsKeepsWrongFalsely : Prop := domainsKeepsRow.holds Tryz.pinned (OpenSpec.ofChange domainsKeepsWrong)

/- THE SECOND FORM. 'bulk': how many values and letters a reading holds, each counted each time it is reached (what is shared counts as often as it is met; a slice's spare places count too). A statement '..UptoSaid' is the law's where the arguments, and the package variables that the reading takes, are together of bulk at most 1048576: NARROWER than '..Said'. Prove '..Said' where nothing that the law and all that it calls make is longer than what came in: it says more and counts as full. Else prove '..UptoSaid'. A law counts once. -/
mutual
def uptoBulk {H : Type} : DataW H → Nat
  | .lit (.string bytes) => bytes.length + 1
  | .lit _ => 1
  | .nil => 1
  | .ptr d => uptoBulk d + 1
  | .slice elems spare => uptoBulkAll elems + uptoBulkAll spare + 1
  | .agg parts => uptoBulkAll parts + 1
  | .iface _ d => uptoBulk d + 1
  | .map entries => uptoBulkEntries entries + 1
  | .held _ => 1
def uptoBulkAll {H : Type} : List (DataW H) → Nat
  | [] => 0
  | d :: r => uptoBulk d + uptoBulkAll r
def uptoBulkEntries {H : Type} : List (Lit × DataW H) → Nat
  | [] => 0
  | x :: r => uptoBulkEntry x + uptoBulkEntries r
def uptoBulkEntry {H : Type} : Lit × DataW H → Nat
  | (.string bytes, d) => bytes.length + uptoBulk d + 1
  | (_, d) => uptoBulk d + 1
 end
def uptoSmall : (H : Type) → List (DataW H) → Bool := fun _ ds => decide (uptoBulkAll ds ≤ 1048576)
def OpenSpec.upto (s : _root_.Go.ChangeSpec) : _root_.Go.OpenSpec := { _root_.Go.OpenSpec.ofChange s with cond := some uptoSmall }

/-- 'palinglaw16.PortsPuts', WHERE WHAT IT READS IS OF BULK AT MOST 1048576: true; the input reads as it did. -/
def portsPutsUptoRow : OpenClaim := { program := "ytgemllooojijnaagreat", sum := "9b7c41d301b75e5ccab5f5802a5cd4508649d739be1af66a971e573f5eb49849", func := "paling/palinglaw16.PortsPuts", spec := "portsPuts", unfollowed := true, recurses := true, apart := false, narrowed := true }
def PortsPutsUptoSaid : Prop := portsPutsUptoRow.holds Tryz.pinned (OpenSpec.upto portsPutsSpec)

/-- 'palinglaw16.PortsKeeps', WHERE WHAT IT READS IS OF BULK AT MOST 1048576: true; the input reads as it did. -/
def portsKeepsUptoRow : OpenClaim := { program := "ytgemllooojijnaagreat", sum := "9b7c41d301b75e5ccab5f5802a5cd4508649d739be1af66a971e573f5eb49849", func := "paling/palinglaw16.PortsKeeps", spec := "portsKeeps", unfollowed := true, recurses := true, apart := false, narrowed := true }
def PortsKeepsUptoSaid : Prop := portsKeepsUptoRow.holds Tryz.pinned (OpenSpec.upto portsKeepsSpec)

/-- 'palinglaw17.LinksAdds', WHERE WHAT IT READS IS OF BULK AT MOST 1048576: true; the input reads as it did. -/
def linksAddsUptoRow : OpenClaim := { program := "ytgemllooojijnaagreat", sum := "9b7c41d301b75e5ccab5f5802a5cd4508649d739be1af66a971e573f5eb49849", func := "paling/palinglaw17.LinksAdds", spec := "linksAdds", unfollowed := true, recurses := true, apart := false, narrowed := true }
def LinksAddsUptoSaid : Prop := linksAddsUptoRow.holds Tryz.pinned (OpenSpec.upto linksAddsSpec)

/-- 'palinglaw20.VrfsPuts', WHERE WHAT IT READS IS OF BULK AT MOST 1048576: true; the input reads as it did. -/
def vrfsPutsUptoRow : OpenClaim := { program := "ytgemllooojijnaagreat", sum := "9b7c41d301b75e5ccab5f5802a5cd4508649d739be1af66a971e573f5eb49849", func := "paling/palinglaw20.VrfsPuts", spec := "vrfsPuts", unfollowed := true, recurses := true, apart := false, narrowed := true }
def VrfsPutsUptoSaid : Prop := vrfsPutsUptoRow.holds Tryz.pinned (OpenSpec.upto vrfsPutsSpec)

/-- 'palinglaw20.VrfsTells', WHERE WHAT IT READS IS OF BULK AT MOST 1048576: true; the input reads as it did. -/
def vrfsTellsUptoRow : OpenClaim := { program := "ytgemllooojijnaagreat", sum := "9b7c41d301b75e5ccab5f5802a5cd4508649d739be1af66a971e573f5eb49849", func := "paling/palinglaw20.VrfsTells", spec := "vrfsTells", unfollowed := true, recurses := true, apart := false, narrowed := true }
def VrfsTellsUptoSaid : Prop := vrfsTellsUptoRow.holds Tryz.pinned (OpenSpec.upto vrfsTellsSpec)

/-- 'palinglaw20.VrfsKeeps', WHERE WHAT IT READS IS OF BULK AT MOST 1048576: true; the input reads as it did. -/
def vrfsKeepsUptoRow : OpenClaim := { program := "ytgemllooojijnaagreat", sum := "9b7c41d301b75e5ccab5f5802a5cd4508649d739be1af66a971e573f5eb49849", func := "paling/palinglaw20.VrfsKeeps", spec := "vrfsKeeps", unfollowed := true, recurses := true, apart := false, narrowed := true }
def VrfsKeepsUptoSaid : Prop := vrfsKeepsUptoRow.holds Tryz.pinned (OpenSpec.upto vrfsKeepsSpec)

/-- 'palinglaw19.OverlayMeshes', WHERE WHAT IT READS IS OF BULK AT MOST 1048576: true; the input reads as it did. -/
def overlayMeshesUptoRow : OpenClaim := { program := "ytgemllooojijnaagreat", sum := "9b7c41d301b75e5ccab5f5802a5cd4508649d739be1af66a971e573f5eb49849", func := "paling/palinglaw19.OverlayMeshes", spec := "overlayMeshes", unfollowed := true, recurses := true, apart := false, narrowed := true }
def OverlayMeshesUptoSaid : Prop := overlayMeshesUptoRow.holds Tryz.pinned (OpenSpec.upto overlayMeshesSpec)

/-- 'palinglaw19.OverlayPuts', WHERE WHAT IT READS IS OF BULK AT MOST 1048576: true; the input reads as it did. -/
def overlayPutsUptoRow : OpenClaim := { program := "ytgemllooojijnaagreat", sum := "9b7c41d301b75e5ccab5f5802a5cd4508649d739be1af66a971e573f5eb49849", func := "paling/palinglaw19.OverlayPuts", spec := "overlayPuts", unfollowed := true, recurses := true, apart := false, narrowed := true }
def OverlayPutsUptoSaid : Prop := overlayPutsUptoRow.holds Tryz.pinned (OpenSpec.upto overlayPutsSpec)

/-- 'palinglaw19.OverlayKeeps', WHERE WHAT IT READS IS OF BULK AT MOST 1048576: true; the input reads as it did. -/
def overlayKeepsUptoRow : OpenClaim := { program := "ytgemllooojijnaagreat", sum := "9b7c41d301b75e5ccab5f5802a5cd4508649d739be1af66a971e573f5eb49849", func := "paling/palinglaw19.OverlayKeeps", spec := "overlayKeeps", unfollowed := true, recurses := true, apart := false, narrowed := true }
def OverlayKeepsUptoSaid : Prop := overlayKeepsUptoRow.holds Tryz.pinned (OpenSpec.upto overlayKeepsSpec)

/-- 'palinglaw18.DomainsStatics', WHERE WHAT IT READS IS OF BULK AT MOST 1048576: true; the input reads as it did. -/
def domainsStaticsUptoRow : OpenClaim := { program := "ytgemllooojijnaagreat", sum := "9b7c41d301b75e5ccab5f5802a5cd4508649d739be1af66a971e573f5eb49849", func := "paling/palinglaw18.DomainsStatics", spec := "domainsStatics", inPlace := ["internal/abi.NoEscape", "internal/bytealg.MakeNoZero"], unfollowed := true, recurses := true, apart := false, narrowed := true }
def DomainsStaticsUptoSaid : Prop := domainsStaticsUptoRow.holds Tryz.pinned (OpenSpec.upto domainsStaticsSpec)

/-- 'palinglaw18.DomainsTells', WHERE WHAT IT READS IS OF BULK AT MOST 1048576: true; the input reads as it did. -/
def domainsTellsUptoRow : OpenClaim := { program := "ytgemllooojijnaagreat", sum := "9b7c41d301b75e5ccab5f5802a5cd4508649d739be1af66a971e573f5eb49849", func := "paling/palinglaw18.DomainsTells", spec := "domainsTells", inPlace := ["internal/abi.NoEscape", "internal/bytealg.MakeNoZero"], unfollowed := true, recurses := true, apart := false, narrowed := true }
def DomainsTellsUptoSaid : Prop := domainsTellsUptoRow.holds Tryz.pinned (OpenSpec.upto domainsTellsSpec)

/-- 'palinglaw18.DomainsKeeps', WHERE WHAT IT READS IS OF BULK AT MOST 1048576: true; the input reads as it did. -/
def domainsKeepsUptoRow : OpenClaim := { program := "ytgemllooojijnaagreat", sum := "9b7c41d301b75e5ccab5f5802a5cd4508649d739be1af66a971e573f5eb49849", func := "paling/palinglaw18.DomainsKeeps", spec := "domainsKeeps", inPlace := ["internal/abi.NoEscape", "internal/bytealg.MakeNoZero"], unfollowed := true, recurses := true, apart := false, narrowed := true }
def DomainsKeepsUptoSaid : Prop := domainsKeepsUptoRow.holds Tryz.pinned (OpenSpec.upto domainsKeepsSpec)

end Rows
end Go.Proofs.YtgemllooojijnaaGreat
