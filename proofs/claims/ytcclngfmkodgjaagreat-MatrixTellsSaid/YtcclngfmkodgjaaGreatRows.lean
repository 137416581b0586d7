/-
  No cell of these rows narrows 'for every input' (looked for: loops, veiled, ifaces, maps, wideKeys, modest, calm, conditions, laid).
  DERIVED. THE GIVEN ROWS OF THIS SEAT. 5 by the template 'for every input the law returns true; each argument reads behind the call as it read before'; 0 by the template 'total and deterministic' (their statements: YtcclngfmkodgjaaGreatTotals.lean).
  GIVEN WITH THE SEED: the statements are not yours to turn. If you find one false, say at which input.
  Laid BY PROGRAM, IN A SANDBOX (cutbox-rows.mjs): the forced cells as the released guide's own fill.sh prints them over the translation df3bba3c28ba3d6d… (all of the seat's roots in one cut). By AI agents, Wed Nov 11 2026. No macro, syntax, notation, axiom, sorry.
-/
import Derived.Test.YtcclngfmkodgjaaGreatChecked
import GoSem.Claim
import GoSem.ClaimJoined
import GoSem.ClaimMapViews
import Derived.JoinedTies
import Derived.KernelRfl
namespace Go.Proofs.YtcclngfmkodgjaaGreat
/- THE CELL 'sum', in the pinned program and in every row, IS THE sha256 OF THE DUMP (.gsa) THAT YtcclngfmkodgjaaGreatProg.lean LOADS. Nothing in Lean hashes anything: it is a label: what it is worth is what the hold of that sum in a sandbox is worth. -/
noncomputable def Tryz.pinned : Pinned := { name := "ytcclngfmkodgjaagreat", sum := "df3bba3c28ba3d6d05c284b947bb67dd2232e1456807d888f1b76003ddd77635", checked := Tryz.checked }
namespace Rows
def none {H : Type} : Left H := { results := [], args := [] }

/-- 'palinglaw20.VrfsPuts': WHATEVER THE INPUT: true; the input reads as it did. -/
def vrfsPutsSpec : ChangeSpec := { name := "vrfsPuts", fn := fun _ => fun
  | [d1, d2] => { results := [.lit (.bool true)], args := [d1, d2] }
  | _ => none }
def vrfsPutsRow : OpenClaim := { program := "ytcclngfmkodgjaagreat", sum := "df3bba3c28ba3d6d05c284b947bb67dd2232e1456807d888f1b76003ddd77635", func := "paling/palinglaw20.VrfsPuts", spec := "vrfsPuts", unfollowed := true, recurses := true, apart := false }
def VrfsPutsSaid : Prop := vrfsPutsRow.holds Tryz.pinned (OpenSpec.ofChange vrfsPutsSpec)

/-- ITS FALSE NEIGHBOUR: 'it returns false'. Refute it at one input. -/
def vrfsPutsWrong : ChangeSpec := { name := "vrfsPuts", fn := fun _ => fun
  | [d1, d2] => { results := [.lit (.bool false)], args := [d1, d2] }
  | _ => none }
def VrfsPutsWrongFalsely : Prop := vrfsPutsRow.holds Tryz.pinned (OpenSpec.ofChange vrfsPutsWrong)

/-- 'palinglaw19.OverlayMeshes': WHATEVER THE INPUT: true; the input reads as it did. -/
def overlayMeshesSpec : ChangeSpec := { name := "overlayMeshes", fn := fun _ => fun
  | [d1, d2, d3] => { results := [.lit (.bool true)], args := [d1, d2, d3] }
  | _ => none }
def overlayMeshesRow : OpenClaim := { program := "ytcclngfmkodgjaagreat", sum := "df3bba3c28ba3d6d05c284b947bb67dd2232e1456807d888f1b76003ddd77635", func := "paling/palinglaw19.OverlayMeshes", spec := "overlayMeshes", unfollowed := true, recurses := true, apart := false }
def OverlayMeshesSaid : Prop := overlayMeshesRow.holds Tryz.pinned (OpenSpec.ofChange overlayMeshesSpec)

/-- ITS FALSE NEIGHBOUR: 'it returns false'. Refute it at one input. -/
def overlayMeshesWrong : ChangeSpec := { name := "overlayMeshes", fn := fun _ => fun
  | [d1, d2, d3] => { results := [.lit (.bool false)], args := [d1, d2, d3] }
  | _ => none }
def OverlayMeshesWrongFalsely : Prop := overlayMeshesRow.holds Tryz.pinned (OpenSpec.ofChange overlayMeshesWrong)

/-- 'palinglaw43.MatrixTells': WHATEVER THE INPUT: true; the input reads as it did. -/
def matrixTellsSpec : ChangeSpec := { name := "matrixTells", fn := fun _ => fun
  | [d1, d2, d3, d4] => { results := [.lit (.bool true)], args := [d1, d2, d3, d4] }
  | _ => none }
def matrixTellsRow : OpenClaim := { program := "ytcclngfmkodgjaagreat", sum := "df3bba3c28ba3d6d05c284b947bb67dd2232e1456807d888f1b76003ddd77635", func := "paling/palinglaw43.MatrixTells", spec := "matrixTells", inPlace := ["internal/abi.NoEscape", "internal/bytealg.MakeNoZero"], unfollowed := true, recurses := true, apart := false }
def MatrixTellsSaid : Prop := matrixTellsRow.holds Tryz.pinned (OpenSpec.ofChange matrixTellsSpec)

/-- ITS FALSE NEIGHBOUR: 'it returns false'. Refute it at one input. -/
def matrixTellsWrong : ChangeSpec := { name := "matrixTells", fn := fun _ => fun
  | [d1, d2, d3, d4] => { results := [.lit (.bool false)], args := [d1, d2, d3, d4] }
  | _ => none }
def MatrixTellsWrongFalsely : Prop := matrixTellsRow.holds Tryz.pinned (OpenSpec.ofChange matrixTellsWrong)

/-- 'palinglaw43.MatrixTexts': WHATEVER THE INPUT: true; the input reads as it did. -/
def matrixTextsSpec : ChangeSpec := { name := "matrixTexts", fn := fun _ => fun
  | [d1, d2] => { results := [.lit (.bool true)], args := [d1, d2] }
  | _ => none }
def matrixTextsRow : OpenClaim := { program := "ytcclngfmkodgjaagreat", sum := "df3bba3c28ba3d6d05c284b947bb67dd2232e1456807d888f1b76003ddd77635", func := "paling/palinglaw43.MatrixTexts", spec := "matrixTexts", inPlace := ["internal/abi.NoEscape", "internal/bytealg.MakeNoZero"], unfollowed := true, recurses := true, apart := false }
def MatrixTextsSaid : Prop := matrixTextsRow.holds Tryz.pinned (OpenSpec.ofChange matrixTextsSpec)

/-- ITS FALSE NEIGHBOUR: 'it returns false'. Refute it at one input. -/
def matrixTextsWrong : ChangeSpec := { name := "matrixTexts", fn := fun _ => fun
  | [d1, d2] => { results := [.lit (.bool false)], args := [d1, d2] }
  | _ => none }
def MatrixTextsWrongFalsely : Prop := matrixTextsRow.holds Tryz.pinned (OpenSpec.ofChange matrixTextsWrong)

/-- 'palinglaw43.MatrixApart': WHATEVER THE INPUT: true; the input reads as it did. -/
def matrixApartSpec : ChangeSpec := { name := "matrixApart", fn := fun _ => fun
  | [d1, d2] => { results := [.lit (.bool true)], args := [d1, d2] }
  | _ => none }
def matrixApartRow : OpenClaim := { program := "ytcclngfmkodgjaagreat", sum := "df3bba3c28ba3d6d05c284b947bb67dd2232e1456807d888f1b76003ddd77635", func := "paling/palinglaw43.MatrixApart", spec := "matrixApart", inPlace := ["internal/abi.NoEscape", "internal/bytealg.MakeNoZero"], unfollowed := true, recurses := true, apart := false }
def MatrixApartSaid : Prop := matrixApartRow.holds Tryz.pinned (OpenSpec.ofChange matrixApartSpec)

/-- ITS FALSE NEIGHBOUR: 'it returns false'. Refute it at one input. -/
def matrixApartWrong : ChangeSpec := { name := "matrixApart", fn := fun _ => fun
  | [d1, d2] => { results := [.lit (.bool false)], args := [d1, d2] }
  | _ => none }
def MatrixApartWrongFalsely : Prop := matrixApartRow.holds Tryz.pinned (OpenSpec.ofChange matrixApartWrong)

/- THE SECOND FORM. 'bulk': how many values and letters a reading holds, each counted each time it is reached (what is shared counts as often as it is met; a slice's spare places count too). A statement '..UptoSaid' is the law's where the arguments, and the package variables that the reading takes, are together of bulk at most 1048576: NARROWER than '..Said'. Prove '..Said' where nothing that the law and all that it calls make is longer than what came in: it says more and counts as full. Else prove '..UptoSaid'. A law counts once. -/
mutual
def uptoBulk {H : Type} : DataW H → Nat
  | .lit (.string bytes) => bytes.length + 1
  | .lit _ => 1
  | .nil => 1
  | .ptr d => uptoBulk d + 1
  | .slice elems spare => uptoBulkAll elems + uptoBulkAll spare + 1
  | .agg parts => uptoBulkAll parts + 1
  | .iface _ d => uptoBulk d + 1
  | .map entries => uptoBulkEntries entries + 1
  | .held _ => 1
def uptoBulkAll {H : Type} : List (DataW H) → Nat
  | [] => 0
  | d :: r => uptoBulk d + uptoBulkAll r
def uptoBulkEntries {H : Type} : List (Lit × DataW H) → Nat
  | [] => 0
  | x :: r => uptoBulkEntry x + uptoBulkEntries r
def uptoBulkEntry {H : Type} : Lit × DataW H → Nat
  | (.string bytes, d) => bytes.length + uptoBulk d + 1
  | (_, d) => uptoBulk d + 1
 end
def uptoSmall : (H : Type) → List (DataW H) → Bool := fun _ ds => decide (uptoBulkAll ds ≤ 1048576)
def OpenSpec.upto (s : _root_.Go.ChangeSpec) : _root_.Go.OpenSpec := { _root_.Go.OpenSpec.ofChange s with cond := some uptoSmall }

/-- 'palinglaw20.VrfsPuts', WHERE WHAT IT READS IS OF BULK AT MOST 1048576: true; the input reads as it did. -/
def vrfsPutsUptoRow : OpenClaim := { program := "ytcclngfmkodgjaagreat", sum := "df3bba3c28ba3d6d05c284b947bb67dd2232e1456807d888f1b76003ddd77635", func := "paling/palinglaw20.VrfsPuts", spec := "vrfsPuts", unfollowed := true, recurses := true, apart := false, narrowed := true }
def VrfsPutsUptoSaid : Prop := vrfsPutsUptoRow.holds Tryz.pinned (OpenSpec.upto vrfsPutsSpec)

/-- 'palinglaw19.OverlayMeshes', WHERE WHAT IT READS IS OF BULK AT MOST 1048576: true; the input reads as it did. -/
def overlayMeshesUptoRow : OpenClaim := { program := "ytcclngfmkodgjaagreat", sum := "df3bba3c28ba3d6d05c284b947bb67dd2232e1456807d888f1b76003ddd77635", func := "paling/palinglaw19.OverlayMeshes", spec := "overlayMeshes", unfollowed := true, recurses := true, apart := false, narrowed := true }
def OverlayMeshesUptoSaid : Prop := overlayMeshesUptoRow.holds Tryz.pinned (OpenSpec.upto overlayMeshesSpec)

/-- 'palinglaw43.MatrixTells', WHERE WHAT IT READS IS OF BULK AT MOST 1048576: true; the input reads as it did. -/
def matrixTellsUptoRow : OpenClaim := { program := "ytcclngfmkodgjaagreat", sum := "df3bba3c28ba3d6d05c284b947bb67dd2232e1456807d888f1b76003ddd77635", func := "paling/palinglaw43.MatrixTells", spec := "matrixTells", inPlace := ["internal/abi.NoEscape", "internal/bytealg.MakeNoZero"], unfollowed := true, recurses := true, apart := false, narrowed := true }
def MatrixTellsUptoSaid : Prop := matrixTellsUptoRow.holds Tryz.pinned (OpenSpec.upto matrixTellsSpec)

/-- 'palinglaw43.MatrixTexts', WHERE WHAT IT READS IS OF BULK AT MOST 1048576: true; the input reads as it did. -/
def matrixTextsUptoRow : OpenClaim := { program := "ytcclngfmkodgjaagreat", sum := "df3bba3c28ba3d6d05c284b947bb67dd2232e1456807d888f1b76003ddd77635", func := "paling/palinglaw43.MatrixTexts", spec := "matrixTexts", inPlace := ["internal/abi.NoEscape", "internal/bytealg.MakeNoZero"], unfollowed := true, recurses := true, apart := false, narrowed := true }
def MatrixTextsUptoSaid : Prop := matrixTextsUptoRow.holds Tryz.pinned (OpenSpec.upto matrixTextsSpec)

/-- 'palinglaw43.MatrixApart', WHERE WHAT IT READS IS OF BULK AT MOST 1048576: true; the input reads as it did. -/
def matrixApartUptoRow : OpenClaim := { program := "ytcclngfmkodgjaagreat", sum := "df3bba3c28ba3d6d05c284b947bb67dd2232e1456807d888f1b76003ddd77635", func := "paling/palinglaw43.MatrixApart", spec := "matrixApart", inPlace := ["internal/abi.NoEscape", "internal/bytealg.MakeNoZero"], unfollowed := true, recurses := true, apart := false, narrowed := true }
def MatrixApartUptoSaid : Prop := matrixApartUptoRow.holds Tryz.pinned (OpenSpec.upto matrixApartSpec)

end Rows
end Go.Proofs.YtcclngfmkodgjaaGreat
