/- Part of the proof of MatrixTells: printed mirrors of the functions, or their contracts. No conditions. -/
import Derived.Test.YtcclngfmkodgjaaGreatEng15
import Derived.Test.YtcclngfmkodgjaaGreatMAK6
set_option linter.unusedVariables false
set_option maxRecDepth 100000
namespace Go.Eng
open Go Go.Proofs
theorem Z1E {H:Type} {enc:TypeId×Value→H} {w:World} {base:Nat} {spare:Nat→Bool} {held:Bool} {S:Nat→Prop} (hS:∀b,b<w.heap.size→S b):Yq enc Tryz.prog w base spare held UU S 3 (α:=DD 3) (okI .i64) (UU.cells 3):=(ZX Tryz.underlying3)

theorem Zkq {H:Type} {enc:TypeId×Value→H} {w:World} {base:Nat} {spare:Nat→Bool} {held:Bool} {S:Nat→Prop} (hS:∀b,b<w.heap.size→S b):Yq enc Tryz.prog w base spare held UU S 4 (α:=DD 4) okB (UU.cells 4):=(Z9y Tryz.underlying4)

theorem Zkr {H:Type} {enc:TypeId×Value→H} {w:World} {base:Nat} {spare:Nat→Bool} {held:Bool} {S:Nat→Prop} (hS:∀b,b<w.heap.size→S b):Yq enc Tryz.prog w base spare held UU S 5 (α:=DD 5) (okI .u8) (UU.cells 5):=(ZX Tryz.underlying5)

theorem Zg6 {H:Type} {enc:TypeId×Value→H} {w:World} {base:Nat} {spare:Nat→Bool} {held:Bool} {S:Nat→Prop} (hS:∀b,b<w.heap.size→S b):Yq enc Tryz.prog w base spare held UU S 9 (α:=DD 9) okS (UU.cells 9):=(Z4U Tryz.underlying9)

theorem Zg7 {H:Type} {enc:TypeId×Value→H} {w:World} {base:Nat} {spare:Nat→Bool} {held:Bool} {S:Nat→Prop} (hS:∀b,b<w.heap.size→S b):Yq enc Tryz.prog w base spare held UU S 56 (α:=DD 56) Yy.Ok (UU.cells 56):=
 XB (α:=DD 56) Yy.Ok Tryz.underlying56 (fun y:Int×Int×ByteArray×Int×Int×Unit=>(⟨y.1,y.2.1,y.2.2.1,y.2.2.2.1,y.2.2.2.2.1⟩:Yy)) (fun y h=>h) (fun y=>rfl) (XC (by kernel_rfl)) (by kernel_rfl) (ZN (ZX Tryz.underlying3) (ZN (ZX Tryz.underlying3) (ZN (Z4U Tryz.underlying9) (ZN (ZX Tryz.underlying32) (ZN (ZX Tryz.underlying33) XA)))))

theorem Zg8 {H:Type} {enc:TypeId×Value→H} {w:World} {base:Nat} {spare:Nat→Bool} {held:Bool} {S:Nat→Prop} (hS:∀b,b<w.heap.size→S b):Yq enc Tryz.prog w base spare held UU S 110 (α:=DD 110) ZO.Ok (UU.cells 110):=
 XB (α:=DD 110) ZO.Ok Tryz.underlying110 (fun y:Int×Int×Int×Int×Int×ByteArray×(List Int)×Unit=>(⟨y.1,y.2.1,y.2.2.1,y.2.2.2.1,y.2.2.2.2.1,y.2.2.2.2.2.1,y.2.2.2.2.2.2.1⟩:ZO)) (fun y h=>h) (fun y=>rfl) (XC (by kernel_rfl)) (by kernel_rfl) (ZN (ZX Tryz.underlying3) (ZN (ZX Tryz.underlying3) (ZN (ZX Tryz.underlying3) (ZN (ZX Tryz.underlying3) (ZN (ZX Tryz.underlying3) (ZN (Z4U Tryz.underlying9) (ZN (Xr (U:=UU) Tryz.underlying34 (by kernel_rfl) hS (Z1E hS)) XA)))))))

theorem Zg9 {H:Type} {enc:TypeId×Value→H} {w:World} {base:Nat} {spare:Nat→Bool} {held:Bool} {S:Nat→Prop} (hS:∀b,b<w.heap.size→S b):Yq enc Tryz.prog w base spare held UU S 174 (α:=DD 174) Yt.Ok (UU.cells 174):=
 XB (α:=DD 174) Yt.Ok Tryz.underlying174 (fun y:Int×Int×Int×Unit=>(⟨y.1,y.2.1,y.2.2.1⟩:Yt)) (fun y h=>h) (fun y=>rfl) (XC (by kernel_rfl)) (by kernel_rfl) (ZN (ZX Tryz.underlying3) (ZN (ZX Tryz.underlying3) (ZN (ZX Tryz.underlying3) XA)))

theorem Zga {H:Type} {enc:TypeId×Value→H} {w:World} {base:Nat} {spare:Nat→Bool} {held:Bool} {S:Nat→Prop} (hS:∀b,b<w.heap.size→S b):Yq enc Tryz.prog w base spare held UU S 90 (α:=DD 90) ZF.Ok (UU.cells 90):=
 XB (α:=DD 90) ZF.Ok Tryz.underlying90 (fun y:Int×Int×Int×Int×Int×(List Int)×Unit=>(⟨y.1,y.2.1,y.2.2.1,y.2.2.2.1,y.2.2.2.2.1,y.2.2.2.2.2.1⟩:ZF)) (fun y h=>h) (fun y=>rfl) (XC (by kernel_rfl)) (by kernel_rfl) (ZN (ZX Tryz.underlying3) (ZN (ZX Tryz.underlying3) (ZN (ZX Tryz.underlying3) (ZN (ZX Tryz.underlying3) (ZN (ZX Tryz.underlying3) (ZN (Xr (U:=UU) Tryz.underlying34 (by kernel_rfl) hS (Z1E hS)) XA))))))

theorem Zgb {H:Type} {enc:TypeId×Value→H} {w:World} {base:Nat} {spare:Nat→Bool} {held:Bool} {S:Nat→Prop} (hS:∀b,b<w.heap.size→S b):Yq enc Tryz.prog w base spare held UU S 178 (α:=DD 178) Yz.Ok (UU.cells 178):=
 XB (α:=DD 178) Yz.Ok Tryz.underlying178 (fun y:Int×Int×Int×Int×Unit=>(⟨y.1,y.2.1,y.2.2.1,y.2.2.2.1⟩:Yz)) (fun y h=>h) (fun y=>rfl) (XC (by kernel_rfl)) (by kernel_rfl) (ZN (ZX Tryz.underlying3) (ZN (ZX Tryz.underlying3) (ZN (ZX Tryz.underlying3) (ZN (ZX Tryz.underlying32) XA))))

theorem Zgc {H:Type} {enc:TypeId×Value→H} {w:World} {base:Nat} {spare:Nat→Bool} {held:Bool} {S:Nat→Prop} (hS:∀b,b<w.heap.size→S b):Yq enc Tryz.prog w base spare held UU S 33 (α:=DD 33) (okI .u32) (UU.cells 33):=(ZX Tryz.underlying33)

theorem Zgd {H:Type} {enc:TypeId×Value→H} {w:World} {base:Nat} {spare:Nat→Bool} {held:Bool} {S:Nat→Prop} (hS:∀b,b<w.heap.size→S b):Yq enc Tryz.prog w base spare held UU S 113 (α:=DD 113) YA.Ok (UU.cells 113):=
 XB (α:=DD 113) YA.Ok Tryz.underlying113 (fun y:Int×Int×Int×(List Int)×Unit=>(⟨y.1,y.2.1,y.2.2.1,y.2.2.2.1⟩:YA)) (fun y h=>h) (fun y=>rfl) (XC (by kernel_rfl)) (by kernel_rfl) (ZN (ZX Tryz.underlying3) (ZN (ZX Tryz.underlying3) (ZN (ZX Tryz.underlying3) (ZN (Xr (U:=UU) Tryz.underlying35 (by kernel_rfl) hS (Zgc hS)) XA))))

theorem Zge {H:Type} {enc:TypeId×Value→H} {w:World} {base:Nat} {spare:Nat→Bool} {held:Bool} {S:Nat→Prop} (hS:∀b,b<w.heap.size→S b):Yq enc Tryz.prog w base spare held UU S 88 (α:=DD 88) Yh.Ok (UU.cells 88):=
 XB (α:=DD 88) Yh.Ok Tryz.underlying88 (fun y:Int×Int×ByteArray×(List Int)×(List Int)×Unit=>(⟨y.1,y.2.1,y.2.2.1,y.2.2.2.1,y.2.2.2.2.1⟩:Yh)) (fun y h=>h) (fun y=>rfl) (XC (by kernel_rfl)) (by kernel_rfl) (ZN (ZX Tryz.underlying3) (ZN (ZX Tryz.underlying3) (ZN (Z4U Tryz.underlying9) (ZN (Xr (U:=UU) Tryz.underlying34 (by kernel_rfl) hS (Z1E hS)) (ZN (Xr (U:=UU) Tryz.underlying34 (by kernel_rfl) hS (Z1E hS)) XA)))))

theorem Zgf {H:Type} {enc:TypeId×Value→H} {w:World} {base:Nat} {spare:Nat→Bool} {held:Bool} {S:Nat→Prop} (hS:∀b,b<w.heap.size→S b):Yq enc Tryz.prog w base spare held UU S 103 (α:=DD 103) Yc.Ok (UU.cells 103):=
 XB (α:=DD 103) Yc.Ok Tryz.underlying103 (fun y:Int×Int×Unit=>(⟨y.1,y.2.1⟩:Yc)) (fun y h=>h) (fun y=>rfl) (XC (by kernel_rfl)) (by kernel_rfl) (ZN (ZX Tryz.underlying33) (ZN (ZX Tryz.underlying3) XA))

theorem Zgg {H:Type} {enc:TypeId×Value→H} {w:World} {base:Nat} {spare:Nat→Bool} {held:Bool} {S:Nat→Prop} (hS:∀b,b<w.heap.size→S b):Yq enc Tryz.prog w base spare held UU S 105 (α:=DD 105) Y3.Ok (UU.cells 105):=
 XB (α:=DD 105) Y3.Ok Tryz.underlying105 (fun y:Int×Int×Int×Yc×Unit=>(⟨y.1,y.2.1,y.2.2.1,y.2.2.2.1⟩:Y3)) (fun y h=>h) (fun y=>rfl) (XC (by kernel_rfl)) (by kernel_rfl) (ZN (ZX Tryz.underlying3) (ZN (ZX Tryz.underlying3) (ZN (ZX Tryz.underlying3) (ZN (Zgf hS) XA))))

theorem Z7Y {H:Type} {enc:TypeId×Value→H} {w:World} {base:Nat} {spare:Nat→Bool} {held:Bool} {S:Nat→Prop} (hS:∀b,b<w.heap.size→S b):Yq enc Tryz.prog w base spare held UU S 31 (α:=DD 31) Z2.Ok (UU.cells 31):=
 XB (α:=DD 31) Z2.Ok Tryz.underlying31 (fun y:(List Yy)×(List ZO)×(List Yt)×(List ZF)×(List Yz)×(List YA)×(List Yh)×(List Y3)×Unit=>(⟨y.1,y.2.1,y.2.2.1,y.2.2.2.1,y.2.2.2.2.1,y.2.2.2.2.2.1,y.2.2.2.2.2.2.1,y.2.2.2.2.2.2.2.1⟩:Z2)) (fun y h=>h) (fun y=>rfl) (XC (by kernel_rfl)) (by kernel_rfl) (ZN (Xr (U:=UU) Tryz.underlying22 (by kernel_rfl) hS (Zg7 hS)) (ZN (Xr (U:=UU) Tryz.underlying23 (by kernel_rfl) hS (Zg8 hS)) (ZN (Xr (U:=UU) Tryz.underlying24 (by kernel_rfl) hS (Zg9 hS)) (ZN (Xr (U:=UU) Tryz.underlying25 (by kernel_rfl) hS (Zga hS)) (ZN (Xr (U:=UU) Tryz.underlying26 (by kernel_rfl) hS (Zgb hS)) (ZN (Xr (U:=UU) Tryz.underlying27 (by kernel_rfl) hS (Zgd hS)) (ZN (Xr (U:=UU) Tryz.underlying28 (by kernel_rfl) hS (Zge hS)) (ZN (Xr (U:=UU) Tryz.underlying29 (by kernel_rfl) hS (Zgg hS)) XA))))))))

theorem Zbf {H:Type} {enc:TypeId×Value→H} {w:World} {base:Nat} {spare:Nat→Bool} {held:Bool} {S:Nat→Prop} (hS:∀b,b<w.heap.size→S b):Yq enc Tryz.prog w base spare held UU S 34 (α:=DD 34) (okL (okI .i64)) (UU.cells 34):=(Xr (U:=UU) Tryz.underlying34 (by kernel_rfl) hS (Z1E hS))

theorem Zgh {H:Type} {enc:TypeId×Value→H} {w:World} {base:Nat} {spare:Nat→Bool} {held:Bool} {S:Nat→Prop} (hS:∀b,b<w.heap.size→S b):Yq enc Tryz.prog w base spare held UU S 79 (α:=DD 79) Z6.Ok (UU.cells 79):=
 XB (α:=DD 79) Z6.Ok Tryz.underlying79 (fun y:Int×Int×Int×Unit=>(⟨y.1,y.2.1,y.2.2.1⟩:Z6)) (fun y h=>h) (fun y=>rfl) (XC (by kernel_rfl)) (by kernel_rfl) (ZN (ZX Tryz.underlying3) (ZN (ZX Tryz.underlying3) (ZN (ZX Tryz.underlying3) XA)))

theorem Zgi {H:Type} {enc:TypeId×Value→H} {w:World} {base:Nat} {spare:Nat→Bool} {held:Bool} {S:Nat→Prop} (hS:∀b,b<w.heap.size→S b):Yq enc Tryz.prog w base spare held UU S 70 (α:=DD 70) (okL Z6.Ok) (UU.cells 70):=(Xr (U:=UU) Tryz.underlying70 (by kernel_rfl) hS (Zgh hS))

theorem Zks {H:Type} {enc:TypeId×Value→H} {w:World} {base:Nat} {spare:Nat→Bool} {held:Bool} {S:Nat→Prop} (hS:∀b,b<w.heap.size→S b):Yq enc Tryz.prog w base spare held UU S 57 (α:=DD 57) (okL (okL Z6.Ok)) (UU.cells 57):=(Xr (U:=UU) Tryz.underlying57 (by kernel_rfl) hS (Zgi hS))

theorem Zgj {H:Type} {enc:TypeId×Value→H} {w:World} {base:Nat} {spare:Nat→Bool} {held:Bool} {S:Nat→Prop} (hS:∀b,b<w.heap.size→S b):Yq enc Tryz.prog w base spare held UU S 126 (α:=DD 126) ZJ.Ok (UU.cells 126):=
 XB (α:=DD 126) ZJ.Ok Tryz.underlying126 (fun y:Int×Int×Int×Unit=>(⟨y.1,y.2.1,y.2.2.1⟩:ZJ)) (fun y h=>h) (fun y=>rfl) (XC (by kernel_rfl)) (by kernel_rfl) (ZN (ZX Tryz.underlying3) (ZN (ZX Tryz.underlying3) (ZN (ZX Tryz.underlying3) XA)))

theorem Zkt {H:Type} {enc:TypeId×Value→H} {w:World} {base:Nat} {spare:Nat→Bool} {held:Bool} {S:Nat→Prop} (hS:∀b,b<w.heap.size→S b):Yq enc Tryz.prog w base spare held UU S 125 (α:=DD 125) (okL ZJ.Ok) (UU.cells 125):=(Xr (U:=UU) Tryz.underlying125 (by kernel_rfl) hS (Zgj hS))

theorem Zku {H:Type} {enc:TypeId×Value→H} {w:World} {base:Nat} {spare:Nat→Bool} {held:Bool} {S:Nat→Prop} (hS:∀b,b<w.heap.size→S b):Yq enc Tryz.prog w base spare held UU S 161 (α:=DD 161) Y7.Ok (UU.cells 161):=
 XB (α:=DD 161) Y7.Ok Tryz.underlying161 (fun y:Int×Int×Int×Int×Unit=>(⟨y.1,y.2.1,y.2.2.1,y.2.2.2.1⟩:Y7)) (fun y h=>h) (fun y=>rfl) (XC (by kernel_rfl)) (by kernel_rfl) (ZN (ZX Tryz.underlying3) (ZN (ZX Tryz.underlying3) (ZN (ZX Tryz.underlying3) (ZN (ZX Tryz.underlying33) XA))))

theorem Zkv {H:Type} {enc:TypeId×Value→H} {w:World} {base:Nat} {spare:Nat→Bool} {held:Bool} {S:Nat→Prop} (hS:∀b,b<w.heap.size→S b):Yq enc Tryz.prog w base spare held UU S 190 (α:=DD 190) ZQ.Ok (UU.cells 190):=
 XB (α:=DD 190) ZQ.Ok Tryz.underlying190 (fun y:Z2×Unit=>(⟨y.1⟩:ZQ)) (fun y h=>h) (fun y=>rfl) (XC (by kernel_rfl)) (by kernel_rfl) (ZN (Z7Y hS) XA)

theorem Zgk {H:Type} {enc:TypeId×Value→H} {w:World} {base:Nat} {spare:Nat→Bool} {held:Bool} {S:Nat→Prop} (hS:∀b,b<w.heap.size→S b):Yq enc Tryz.prog w base spare held UU S 214 (α:=DD 214) Z9.Ok (UU.cells 214):=
 XB (α:=DD 214) Z9.Ok Tryz.underlying214 (fun y:Int×Int×Unit=>(⟨y.1,y.2.1⟩:Z9)) (fun y h=>h) (fun y=>rfl) (XC (by kernel_rfl)) (by kernel_rfl) (ZN (ZX Tryz.underlying3) (ZN (ZX Tryz.underlying3) XA))

theorem Zkw {H:Type} {enc:TypeId×Value→H} {w:World} {base:Nat} {spare:Nat→Bool} {held:Bool} {S:Nat→Prop} (hS:∀b,b<w.heap.size→S b):Yq enc Tryz.prog w base spare held UU S 221 (α:=DD 221) Y1.Ok (UU.cells 221):=
 XB (α:=DD 221) Y1.Ok Tryz.underlying221 (fun y:Int×Int×Unit=>(⟨y.1,y.2.1⟩:Y1)) (fun y h=>h) (fun y=>rfl) (XC (by kernel_rfl)) (by kernel_rfl) (ZN (ZX Tryz.underlying3) (ZN (ZX Tryz.underlying3) XA))

theorem Zgl {H:Type} {enc:TypeId×Value→H} {w:World} {base:Nat} {spare:Nat→Bool} {held:Bool} {S:Nat→Prop} (hS:∀b,b<w.heap.size→S b):Yq enc Tryz.prog w base spare held UU S 270 (α:=DD 270) YX.Ok (UU.cells 270):=
 XB (α:=DD 270) YX.Ok Tryz.underlying270 (fun y:Int×Unit=>(⟨y.1⟩:YX)) (fun y h=>h) (fun y=>rfl) (XC (by kernel_rfl)) (by kernel_rfl) (ZN (ZX Tryz.underlying3) XA)

theorem Zgm {H:Type} {enc:TypeId×Value→H} {w:World} {base:Nat} {spare:Nat→Bool} {held:Bool} {S:Nat→Prop} (hS:∀b,b<w.heap.size→S b):Yq enc Tryz.prog w base spare held UU S 272 (α:=DD 272) Zw.Ok (UU.cells 272):=
 XB (α:=DD 272) Zw.Ok Tryz.underlying272 (fun y:YX×Bool×Unit=>(⟨y.1,y.2.1⟩:Zw)) (fun y h=>h) (fun y=>rfl) (XC (by kernel_rfl)) (by kernel_rfl) (ZN (Zgl hS) (ZN (Z9y Tryz.underlying4) XA))

theorem Zkx {H:Type} {enc:TypeId×Value→H} {w:World} {base:Nat} {spare:Nat→Bool} {held:Bool} {S:Nat→Prop} (hS:∀b,b<w.heap.size→S b):Yq enc Tryz.prog w base spare held UU S 229 (α:=DD 229) Vh.Ok (UU.cells 229):=
 XB (α:=DD 229) Vh.Ok Tryz.underlying229 (fun y:Z2×(List Z9)×(List Zw)×(List (List Int))×(List (List Int))×Unit=>(⟨y.1,y.2.1,y.2.2.1,y.2.2.2.1,y.2.2.2.2.1⟩:Vh)) (fun y h=>h) (fun y=>rfl) (XC (by kernel_rfl)) (by kernel_rfl) (ZN (Z7Y hS) (ZN (Xr (U:=UU) Tryz.underlying128 (by kernel_rfl) hS (Zgk hS)) (ZN (Xr (U:=UU) Tryz.underlying226 (by kernel_rfl) hS (Zgm hS)) (ZN (Xr (U:=UU) Tryz.underlying227 (by kernel_rfl) hS (Zbf hS)) (ZN (Xr (U:=UU) Tryz.underlying227 (by kernel_rfl) hS (Zbf hS)) XA)))))

theorem Zky {H:Type} {enc:TypeId×Value→H} {w:World} {base:Nat} {spare:Nat→Bool} {held:Bool} {S:Nat→Prop} (hS:∀b,b<w.heap.size→S b):Yq enc Tryz.prog w base spare held UU S 242 (α:=DD 242) YH.Ok (UU.cells 242):=
 XB (α:=DD 242) YH.Ok Tryz.underlying242 (fun y:Int×Int×Int×Unit=>(⟨y.1,y.2.1,y.2.2.1⟩:YH)) (fun y h=>h) (fun y=>rfl) (XC (by kernel_rfl)) (by kernel_rfl) (ZN (ZX Tryz.underlying3) (ZN (ZX Tryz.underlying3) (ZN (ZX Tryz.underlying33) XA)))

theorem Zkz {H:Type} {enc:TypeId×Value→H} {w:World} {base:Nat} {spare:Nat→Bool} {held:Bool} {S:Nat→Prop} (hS:∀b,b<w.heap.size→S b):Yq enc Tryz.prog w base spare held UU S 294 (α:=DD 294) Ya.Ok (UU.cells 294):=
 XB (α:=DD 294) Ya.Ok Tryz.underlying294 (fun y:Int×Int×Int×Int×Unit=>(⟨y.1,y.2.1,y.2.2.1,y.2.2.2.1⟩:Ya)) (fun y h=>h) (fun y=>rfl) (XC (by kernel_rfl)) (by kernel_rfl) (ZN (ZX Tryz.underlying3) (ZN (ZX Tryz.underlying3) (ZN (ZX Tryz.underlying3) (ZN (ZX Tryz.underlying33) XA))))

theorem ZkA {H:Type} {enc:TypeId×Value→H} {w:World} {base:Nat} {spare:Nat→Bool} {held:Bool} {S:Nat→Prop} (hS:∀b,b<w.heap.size→S b):Yq enc Tryz.prog w base spare held UU S 297 (α:=DD 297) YF.Ok (UU.cells 297):=
 XB (α:=DD 297) YF.Ok Tryz.underlying297 (fun y:Int×Int×Int×Unit=>(⟨y.1,y.2.1,y.2.2.1⟩:YF)) (fun y h=>h) (fun y=>rfl) (XC (by kernel_rfl)) (by kernel_rfl) (ZN (ZX Tryz.underlying3) (ZN (ZX Tryz.underlying3) (ZN (ZX Tryz.underlying33) XA)))
end Go.Eng
