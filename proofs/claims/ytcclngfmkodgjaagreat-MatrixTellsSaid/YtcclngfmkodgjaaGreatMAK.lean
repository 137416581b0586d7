/- Part of the proof of MatrixTells: printed mirrors of the functions, or their contracts. No conditions. -/
import Derived.Test.YtcclngfmkodgjaaGreatMAM
import Derived.Test.YtcclngfmkodgjaaGreatProg
import Derived.Test.YtcclngfmkodgjaaGreatEngJ
set_option linter.unusedVariables false
set_option maxRecDepth 100000
namespace Go.Eng
open Go Go.Proofs
def DD:Den:=fun t=>match t with
 |3=>Int
 |4=>Bool
 |5=>Int
 |9=>ByteArray
 |31=>Z2
 |33=>Int
 |34=>List Int
 |56=>Yy
 |57=>List (List Z6)
 |70=>List Z6
 |79=>Z6
 |88=>Yh
 |90=>ZF
 |103=>Yc
 |105=>Y3
 |110=>ZO
 |113=>YA
 |125=>List ZJ
 |126=>ZJ
 |161=>Y7
 |174=>Yt
 |178=>Yz
 |190=>ZQ
 |214=>Z9
 |221=>Y1
 |229=>Vh
 |242=>YH
 |270=>YX
 |272=>Zw
 |294=>Ya
 |297=>YF
 |_=>Unit

def c3 (x:Int):List (AV DD):= [.v (.int .i64 x)]

def c4 (x:Bool):List (AV DD):= [.v (.bool x)]

def c5 (x:Int):List (AV DD):= [.v (.int .u8 x)]

def c9 (x:ByteArray):List (AV DD):= [.v (.string x)]

def c31 (x:Z2):List (AV DD):= [.sl 56 x.devices, .sl 110 x.ports, .sl 174 x.links, .sl 90 x.domains, .sl 178 x.statics, .sl 113 x.floods, .sl 88 x.vrfs, .sl 105 x.irbs]

def c33 (x:Int):List (AV DD):= [.v (.int .u32 x)]

def c34 (x:List Int):List (AV DD):= [.sl 3 x]

def c56 (x:Yy):List (AV DD):= [.v (.int .i64 x.row), .v (.int .i64 x.priority), .v (.string x.name), .v (.int .u64 x.mac), .v (.int .u32 x.vtep)]

def c57 (x:List (List Z6)):List (AV DD):= [.sl 70 x]

def c70 (x:List Z6):List (AV DD):= [.sl 79 x]

def c79 (x:Z6):List (AV DD):= [.v (.int .i64 x.ports), .v (.int .i64 x.from_), .v (.int .i64 x.to)]

def c88 (x:Yh):List (AV DD):= [.v (.int .i64 x.row), .v (.int .i64 x.dev), .v (.string x.name), .sl 3 x.imports, .sl 3 x.exports]

def c90 (x:ZF):List (AV DD):= [.v (.int .i64 x.dev), .v (.int .i64 x.vlan), .v (.int .i64 x.vni), .v (.int .i64 x.irb), .v (.int .i64 x.row), .sl 3 x.peers]

def WL (x:Yc):List (AV DD):= [.v (.int .u32 x.addr), .v (.int .i64 x.bits)]

def ZK (x:Y3):List (AV DD):= [.v (.int .i64 x.row), .v (.int .i64 x.domain), .v (.int .i64 x.vrf), .v (.int .u32 x.net.addr), .v (.int .i64 x.net.bits)]

def Za (x:ZO):List (AV DD):= [.v (.int .i64 x.row), .v (.int .i64 x.dev), .v (.int .i64 x.native), .v (.int .i64 x.cost), .v (.int .i64 x.link), .v (.string x.name), .sl 3 x.tagged]

def WM (x:YA):List (AV DD):= [.v (.int .i64 x.row), .v (.int .i64 x.dev), .v (.int .i64 x.vni), .sl 33 x.addrs]

def Wq (x:List ZJ):List (AV DD):= [.sl 126 x]

def Ui (x:ZJ):List (AV DD):= [.v (.int .i64 x.ports), .v (.int .i64 x.from_), .v (.int .i64 x.to)]

def Z5v (x:Y7):List (AV DD):= [.v (.int .i64 x.kind), .v (.int .i64 x.port), .v (.int .i64 x.domain), .v (.int .u32 x.addr)]

def YY (x:Yt):List (AV DD):= [.v (.int .i64 x.row), .v (.int .i64 x.a), .v (.int .i64 x.b)]

def Vm (x:Yz):List (AV DD):= [.v (.int .i64 x.row), .v (.int .i64 x.domain), .v (.int .i64 x.port), .v (.int .u64 x.mac)]

def Yf (x:ZQ):List (AV DD):= [.sl 56 x.n.devices, .sl 110 x.n.ports, .sl 174 x.n.links, .sl 90 x.n.domains, .sl 178 x.n.statics, .sl 113 x.n.floods, .sl 88 x.n.vrfs, .sl 105 x.n.irbs]

def XD (x:Z9):List (AV DD):= [.v (.int .i64 x.plain), .v (.int .i64 x.led)]

def WD (x:Y1):List (AV DD):= [.v (.int .i64 x.plain), .v (.int .i64 x.led)]

def Z7s (x:Vh):List (AV DD):= [.sl 56 x.n.devices, .sl 110 x.n.ports, .sl 174 x.n.links, .sl 90 x.n.domains, .sl 178 x.n.statics, .sl 113 x.n.floods, .sl 88 x.n.vrfs, .sl 105 x.n.irbs, .sl 214 x.all, .sl 272 x.wait, .sl 34 x.next, .sl 34 x.leads]

def Z5w (x:YH):List (AV DD):= [.v (.int .i64 x.to), .v (.int .i64 x.domain), .v (.int .u32 x.addr)]

def Z7t (x:YX):List (AV DD):= [.v (.int .i64 x.domain)]

def QP (x:Zw):List (AV DD):= [.v (.int .i64 x.task.domain), .v (.bool x.done)]

def Vn (x:Ya):List (AV DD):= [.v (.int .i64 x.kind), .v (.int .i64 x.port), .v (.int .i64 x.domain), .v (.int .u32 x.addr)]

def QQ (x:YF):List (AV DD):= [.v (.int .i64 x.to), .v (.int .i64 x.domain), .v (.int .u32 x.addr)]

def Z7u:(t:Nat)→DD t→List (AV DD):=fun t=>match t with
 |3=>fun x=>c3 x
 |4=>fun x=>c4 x
 |5=>fun x=>c5 x
 |9=>fun x=>c9 x
 |31=>fun x=>c31 x
 |33=>fun x=>c33 x
 |34=>fun x=>c34 x
 |56=>fun x=>c56 x
 |57=>fun x=>c57 x
 |70=>fun x=>c70 x
 |79=>fun x=>c79 x
 |88=>fun x=>c88 x
 |90=>fun x=>c90 x
 |103=>fun x=>WL x
 |105=>fun x=>ZK x
 |110=>fun x=>Za x
 |113=>fun x=>WM x
 |125=>fun x=>Wq x
 |126=>fun x=>Ui x
 |161=>fun x=>Z5v x
 |174=>fun x=>YY x
 |178=>fun x=>Vm x
 |190=>fun x=>Yf x
 |214=>fun x=>XD x
 |221=>fun x=>WD x
 |229=>fun x=>Z7s x
 |242=>fun x=>Z5w x
 |270=>fun x=>Z7t x
 |272=>fun x=>QP x
 |294=>fun x=>Vn x
 |297=>fun x=>QQ x
 |_=>fun _=> [.v (.bool true)]

def Z5x:Nat→Nat:=fun t=>match t with
 |3=>1
 |4=>1
 |5=>1
 |9=>1
 |31=>8
 |33=>1
 |34=>1
 |56=>5
 |57=>1
 |70=>1
 |79=>3
 |88=>5
 |90=>6
 |103=>2
 |105=>5
 |110=>7
 |113=>4
 |125=>1
 |126=>3
 |161=>4
 |174=>3
 |178=>4
 |190=>8
 |214=>2
 |221=>2
 |229=>12
 |242=>3
 |270=>1
 |272=>2
 |294=>4
 |297=>3
 |_=>1

theorem Z7v {t:Nat} (x:DD t) (h:t≠3∧t≠4∧t≠5∧t≠9∧t≠31∧t≠33∧t≠34∧t≠56∧t≠57∧t≠70∧t≠79∧t≠88∧t≠90∧t≠103∧t≠105∧t≠110∧t≠113∧t≠125∧t≠126∧t≠161∧t≠174∧t≠178∧t≠190∧t≠214∧t≠221∧t≠229∧t≠242∧t≠270∧t≠272∧t≠294∧t≠297):Z7u t x= [.v (.bool true)]∧Z5x t=1:=by
 obtain⟨h3,h4,h5,h9,h31,h33,h34,h56,h57,h70,h79,h88,h90,h103,h105,h110,h113,h125,h126,h161,h174,h178,h190,h214,h221,h229,h242,h270,h272,h294,h297⟩:=h
 unfold Z7u Z5x
 constructor
 ·split <;> first|(exfalso;omega)|rfl
 ·split <;> first|(exfalso;omega)|rfl

def UU:Zu DD where
 width:=Z5x
 cells:=Z7u
 len t x:=by
  by_cases h3:t=3
  ·subst h3;rfl
  by_cases h4:t=4
  ·subst h4;rfl
  by_cases h5:t=5
  ·subst h5;rfl
  by_cases h9:t=9
  ·subst h9;rfl
  by_cases h31:t=31
  ·subst h31;rfl
  by_cases h33:t=33
  ·subst h33;rfl
  by_cases h34:t=34
  ·subst h34;rfl
  by_cases h56:t=56
  ·subst h56;rfl
  by_cases h57:t=57
  ·subst h57;rfl
  by_cases h70:t=70
  ·subst h70;rfl
  by_cases h79:t=79
  ·subst h79;rfl
  by_cases h88:t=88
  ·subst h88;rfl
  by_cases h90:t=90
  ·subst h90;rfl
  by_cases h103:t=103
  ·subst h103;rfl
  by_cases h105:t=105
  ·subst h105;rfl
  by_cases h110:t=110
  ·subst h110;rfl
  by_cases h113:t=113
  ·subst h113;rfl
  by_cases h125:t=125
  ·subst h125;rfl
  by_cases h126:t=126
  ·subst h126;rfl
  by_cases h161:t=161
  ·subst h161;rfl
  by_cases h174:t=174
  ·subst h174;rfl
  by_cases h178:t=178
  ·subst h178;rfl
  by_cases h190:t=190
  ·subst h190;rfl
  by_cases h214:t=214
  ·subst h214;rfl
  by_cases h221:t=221
  ·subst h221;rfl
  by_cases h229:t=229
  ·subst h229;rfl
  by_cases h242:t=242
  ·subst h242;rfl
  by_cases h270:t=270
  ·subst h270;rfl
  by_cases h272:t=272
  ·subst h272;rfl
  by_cases h294:t=294
  ·subst h294;rfl
  by_cases h297:t=297
  ·subst h297;rfl
  rw[(Z7v x ⟨h3,h4,h5,h9,h31,h33,h34,h56,h57,h70,h79,h88,h90,h103,h105,h110,h113,h125,h126,h161,h174,h178,h190,h214,h221,h229,h242,h270,h272,h294,h297⟩).1,(Z7v x ⟨h3,h4,h5,h9,h31,h33,h34,h56,h57,h70,h79,h88,h90,h103,h105,h110,h113,h125,h126,h161,h174,h178,h190,h214,h221,h229,h242,h270,h272,h294,h297⟩).2];rfl
 pos t:=by
  by_cases h3:t=3
  ·subst h3;exact Nat.le_of_ble_eq_true rfl
  by_cases h4:t=4
  ·subst h4;exact Nat.le_of_ble_eq_true rfl
  by_cases h5:t=5
  ·subst h5;exact Nat.le_of_ble_eq_true rfl
  by_cases h9:t=9
  ·subst h9;exact Nat.le_of_ble_eq_true rfl
  by_cases h31:t=31
  ·subst h31;exact Nat.le_of_ble_eq_true rfl
  by_cases h33:t=33
  ·subst h33;exact Nat.le_of_ble_eq_true rfl
  by_cases h34:t=34
  ·subst h34;exact Nat.le_of_ble_eq_true rfl
  by_cases h56:t=56
  ·subst h56;exact Nat.le_of_ble_eq_true rfl
  by_cases h57:t=57
  ·subst h57;exact Nat.le_of_ble_eq_true rfl
  by_cases h70:t=70
  ·subst h70;exact Nat.le_of_ble_eq_true rfl
  by_cases h79:t=79
  ·subst h79;exact Nat.le_of_ble_eq_true rfl
  by_cases h88:t=88
  ·subst h88;exact Nat.le_of_ble_eq_true rfl
  by_cases h90:t=90
  ·subst h90;exact Nat.le_of_ble_eq_true rfl
  by_cases h103:t=103
  ·subst h103;exact Nat.le_of_ble_eq_true rfl
  by_cases h105:t=105
  ·subst h105;exact Nat.le_of_ble_eq_true rfl
  by_cases h110:t=110
  ·subst h110;exact Nat.le_of_ble_eq_true rfl
  by_cases h113:t=113
  ·subst h113;exact Nat.le_of_ble_eq_true rfl
  by_cases h125:t=125
  ·subst h125;exact Nat.le_of_ble_eq_true rfl
  by_cases h126:t=126
  ·subst h126;exact Nat.le_of_ble_eq_true rfl
  by_cases h161:t=161
  ·subst h161;exact Nat.le_of_ble_eq_true rfl
  by_cases h174:t=174
  ·subst h174;exact Nat.le_of_ble_eq_true rfl
  by_cases h178:t=178
  ·subst h178;exact Nat.le_of_ble_eq_true rfl
  by_cases h190:t=190
  ·subst h190;exact Nat.le_of_ble_eq_true rfl
  by_cases h214:t=214
  ·subst h214;exact Nat.le_of_ble_eq_true rfl
  by_cases h221:t=221
  ·subst h221;exact Nat.le_of_ble_eq_true rfl
  by_cases h229:t=229
  ·subst h229;exact Nat.le_of_ble_eq_true rfl
  by_cases h242:t=242
  ·subst h242;exact Nat.le_of_ble_eq_true rfl
  by_cases h270:t=270
  ·subst h270;exact Nat.le_of_ble_eq_true rfl
  by_cases h272:t=272
  ·subst h272;exact Nat.le_of_ble_eq_true rfl
  by_cases h294:t=294
  ·subst h294;exact Nat.le_of_ble_eq_true rfl
  by_cases h297:t=297
  ·subst h297;exact Nat.le_of_ble_eq_true rfl
  unfold Z5x;split <;> omega
 ok t x:=by
  by_cases h3:t=3
  ·subst h3;rfl
  by_cases h4:t=4
  ·subst h4;rfl
  by_cases h5:t=5
  ·subst h5;rfl
  by_cases h9:t=9
  ·subst h9;rfl
  by_cases h31:t=31
  ·subst h31;rfl
  by_cases h33:t=33
  ·subst h33;rfl
  by_cases h34:t=34
  ·subst h34;rfl
  by_cases h56:t=56
  ·subst h56;rfl
  by_cases h57:t=57
  ·subst h57;rfl
  by_cases h70:t=70
  ·subst h70;rfl
  by_cases h79:t=79
  ·subst h79;rfl
  by_cases h88:t=88
  ·subst h88;rfl
  by_cases h90:t=90
  ·subst h90;rfl
  by_cases h103:t=103
  ·subst h103;rfl
  by_cases h105:t=105
  ·subst h105;rfl
  by_cases h110:t=110
  ·subst h110;rfl
  by_cases h113:t=113
  ·subst h113;rfl
  by_cases h125:t=125
  ·subst h125;rfl
  by_cases h126:t=126
  ·subst h126;rfl
  by_cases h161:t=161
  ·subst h161;rfl
  by_cases h174:t=174
  ·subst h174;rfl
  by_cases h178:t=178
  ·subst h178;rfl
  by_cases h190:t=190
  ·subst h190;rfl
  by_cases h214:t=214
  ·subst h214;rfl
  by_cases h221:t=221
  ·subst h221;rfl
  by_cases h229:t=229
  ·subst h229;rfl
  by_cases h242:t=242
  ·subst h242;rfl
  by_cases h270:t=270
  ·subst h270;rfl
  by_cases h272:t=272
  ·subst h272;rfl
  by_cases h294:t=294
  ·subst h294;rfl
  by_cases h297:t=297
  ·subst h297;rfl
  rw[(Z7v x ⟨h3,h4,h5,h9,h31,h33,h34,h56,h57,h70,h79,h88,h90,h103,h105,h110,h113,h125,h126,h161,h174,h178,h190,h214,h221,h229,h242,h270,h272,h294,h297⟩).1];rfl

theorem Zeb : (Tryz.f210.name == "runtime.NumGoroutine") = false ∧ Tryz.f210.body.isNone = true ∧ Extern.findNext Tryz.f210 = none ∧ Extern.find Tryz.f210 = some Extern.AbiNoEscape.same := ⟨by kernel_rfl, by kernel_rfl, by kernel_rfl, by kernel_rfl⟩

instance :Gl DD:=⟨fun _=>none⟩

theorem XZ {t:Nat} (h:∀x:DD t,(UU.cells t x).all Xe=true) (l:List (DD t)):(Z5 UU t l).all Xe=true:=by
 induction l with
 |nil=>rfl
 |cons x l ih=>simp only[Z5,List.flatMap_cons,List.all_append,Bool.and_eq_true];exact⟨h x,ih⟩

theorem im3 (l:List (DD 3)):(Z5 UU 3 l).all Xe=true:=XZ (fun _=>rfl) l

theorem im4 (l:List (DD 4)):(Z5 UU 4 l).all Xe=true:=XZ (fun _=>rfl) l

theorem im5 (l:List (DD 5)):(Z5 UU 5 l).all Xe=true:=XZ (fun _=>rfl) l

theorem im9 (l:List (DD 9)):(Z5 UU 9 l).all Xe=true:=XZ (fun _=>rfl) l

theorem ZjD (l:List (DD 33)):(Z5 UU 33 l).all Xe=true:=XZ (fun _=>rfl) l

theorem ZjE (l:List (DD 56)):(Z5 UU 56 l).all Xe=true:=XZ (fun _=>rfl) l

theorem Zec (l:List (DD 79)):(Z5 UU 79 l).all Xe=true:=XZ (fun _=>rfl) l

theorem ZjF (l:List (DD 103)):(Z5 UU 103 l).all Xe=true:=XZ (fun _=>rfl) l

theorem ZjG (l:List (DD 105)):(Z5 UU 105 l).all Xe=true:=XZ (fun _=>rfl) l

theorem ZjH (l:List (DD 126)):(Z5 UU 126 l).all Xe=true:=XZ (fun _=>rfl) l

theorem Zed (l:List (DD 161)):(Z5 UU 161 l).all Xe=true:=XZ (fun _=>rfl) l

theorem ZjI (l:List (DD 174)):(Z5 UU 174 l).all Xe=true:=XZ (fun _=>rfl) l

theorem ZjJ (l:List (DD 178)):(Z5 UU 178 l).all Xe=true:=XZ (fun _=>rfl) l

theorem Th (l:List (DD 214)):(Z5 UU 214 l).all Xe=true:=XZ (fun _=>rfl) l

theorem Z7w (l:List (DD 221)):(Z5 UU 221 l).all Xe=true:=XZ (fun _=>rfl) l

theorem Zee (l:List (DD 242)):(Z5 UU 242 l).all Xe=true:=XZ (fun _=>rfl) l

theorem ZjK (l:List (DD 270)):(Z5 UU 270 l).all Xe=true:=XZ (fun _=>rfl) l

theorem ZjL (l:List (DD 272)):(Z5 UU 272 l).all Xe=true:=XZ (fun _=>rfl) l

theorem Zef (l:List (DD 294)):(Z5 UU 294 l).all Xe=true:=XZ (fun _=>rfl) l

theorem Zeg (l:List (DD 297)):(Z5 UU 297 l).all Xe=true:=XZ (fun _=>rfl) l

theorem ob3 {l:List (Int)} {i:Int} {v:Int} (h:nth l i=some v):0≤i∧∃x:DD 3,(show List (DD 3)from l)[i.toNat]?=some x∧UU.cells 3 x=c3 v:=⟨(ZV h).1,v,(ZV h).2,rfl⟩
theorem YV {l:List (Int)} {i:Nat} {v:Int} (h:l[i]?=some v):∃x:DD 3,(show List (DD 3)from l)[i]?=some x∧UU.cells 3 x=c3 v:=⟨v,h,rfl⟩

theorem ob4 {l:List (Bool)} {i:Int} {v:Bool} (h:nth l i=some v):0≤i∧∃x:DD 4,(show List (DD 4)from l)[i.toNat]?=some x∧UU.cells 4 x=c4 v:=⟨(ZV h).1,v,(ZV h).2,rfl⟩
theorem Xs {l:List (Bool)} {i:Nat} {v:Bool} (h:l[i]?=some v):∃x:DD 4,(show List (DD 4)from l)[i]?=some x∧UU.cells 4 x=c4 v:=⟨v,h,rfl⟩

theorem ob5 {l:List (Int)} {i:Int} {v:Int} (h:nth l i=some v):0≤i∧∃x:DD 5,(show List (DD 5)from l)[i.toNat]?=some x∧UU.cells 5 x=c5 v:=⟨(ZV h).1,v,(ZV h).2,rfl⟩
theorem Z5y {l:List (Int)} {i:Nat} {v:Int} (h:l[i]?=some v):∃x:DD 5,(show List (DD 5)from l)[i]?=some x∧UU.cells 5 x=c5 v:=⟨v,h,rfl⟩

theorem ob9 {l:List (ByteArray)} {i:Int} {v:ByteArray} (h:nth l i=some v):0≤i∧∃x:DD 9,(show List (DD 9)from l)[i.toNat]?=some x∧UU.cells 9 x=c9 v:=⟨(ZV h).1,v,(ZV h).2,rfl⟩
theorem ZjM {l:List (ByteArray)} {i:Nat} {v:ByteArray} (h:l[i]?=some v):∃x:DD 9,(show List (DD 9)from l)[i]?=some x∧UU.cells 9 x=c9 v:=⟨v,h,rfl⟩

theorem ZjN {l:List (Z2)} {i:Int} {v:Z2} (h:nth l i=some v):0≤i∧∃x:DD 31,(show List (DD 31)from l)[i.toNat]?=some x∧UU.cells 31 x=c31 v:=⟨(ZV h).1,v,(ZV h).2,rfl⟩
theorem ZjO {l:List (Z2)} {i:Nat} {v:Z2} (h:l[i]?=some v):∃x:DD 31,(show List (DD 31)from l)[i]?=some x∧UU.cells 31 x=c31 v:=⟨v,h,rfl⟩

theorem ZjP {l:List (Int)} {i:Int} {v:Int} (h:nth l i=some v):0≤i∧∃x:DD 33,(show List (DD 33)from l)[i.toNat]?=some x∧UU.cells 33 x=c33 v:=⟨(ZV h).1,v,(ZV h).2,rfl⟩
theorem ZjQ {l:List (Int)} {i:Nat} {v:Int} (h:l[i]?=some v):∃x:DD 33,(show List (DD 33)from l)[i]?=some x∧UU.cells 33 x=c33 v:=⟨v,h,rfl⟩

theorem ZjR {l:List (List Int)} {i:Int} {v:List Int} (h:nth l i=some v):0≤i∧∃x:DD 34,(show List (DD 34)from l)[i.toNat]?=some x∧UU.cells 34 x=c34 v:=⟨(ZV h).1,v,(ZV h).2,rfl⟩
theorem Z9F {l:List (List Int)} {i:Nat} {v:List Int} (h:l[i]?=some v):∃x:DD 34,(show List (DD 34)from l)[i]?=some x∧UU.cells 34 x=c34 v:=⟨v,h,rfl⟩

theorem VO {l:List (Yy)} {i:Int} {v:Yy} (h:nth l i=some v):0≤i∧∃x:DD 56,(show List (DD 56)from l)[i.toNat]?=some x∧UU.cells 56 x=c56 v:=⟨(ZV h).1,v,(ZV h).2,rfl⟩
theorem ZjS {l:List (Yy)} {i:Nat} {v:Yy} (h:l[i]?=some v):∃x:DD 56,(show List (DD 56)from l)[i]?=some x∧UU.cells 56 x=c56 v:=⟨v,h,rfl⟩

theorem ZjT {l:List (List (List Z6))} {i:Int} {v:List (List Z6)} (h:nth l i=some v):0≤i∧∃x:DD 57,(show List (DD 57)from l)[i.toNat]?=some x∧UU.cells 57 x=c57 v:=⟨(ZV h).1,v,(ZV h).2,rfl⟩
theorem ZjU {l:List (List (List Z6))} {i:Nat} {v:List (List Z6)} (h:l[i]?=some v):∃x:DD 57,(show List (DD 57)from l)[i]?=some x∧UU.cells 57 x=c57 v:=⟨v,h,rfl⟩

theorem QR {l:List (List Z6)} {i:Int} {v:List Z6} (h:nth l i=some v):0≤i∧∃x:DD 70,(show List (DD 70)from l)[i.toNat]?=some x∧UU.cells 70 x=c70 v:=⟨(ZV h).1,v,(ZV h).2,rfl⟩
theorem Z7x {l:List (List Z6)} {i:Nat} {v:List Z6} (h:l[i]?=some v):∃x:DD 70,(show List (DD 70)from l)[i]?=some x∧UU.cells 70 x=c70 v:=⟨v,h,rfl⟩

theorem Z1p {l:List (Z6)} {i:Int} {v:Z6} (h:nth l i=some v):0≤i∧∃x:DD 79,(show List (DD 79)from l)[i.toNat]?=some x∧UU.cells 79 x=c79 v:=⟨(ZV h).1,v,(ZV h).2,rfl⟩
theorem Ti {l:List (Z6)} {i:Nat} {v:Z6} (h:l[i]?=some v):∃x:DD 79,(show List (DD 79)from l)[i]?=some x∧UU.cells 79 x=c79 v:=⟨v,h,rfl⟩

theorem Yv {l:List (Yh)} {i:Int} {v:Yh} (h:nth l i=some v):0≤i∧∃x:DD 88,(show List (DD 88)from l)[i.toNat]?=some x∧UU.cells 88 x=c88 v:=⟨(ZV h).1,v,(ZV h).2,rfl⟩
theorem ZjV {l:List (Yh)} {i:Nat} {v:Yh} (h:l[i]?=some v):∃x:DD 88,(show List (DD 88)from l)[i]?=some x∧UU.cells 88 x=c88 v:=⟨v,h,rfl⟩

theorem ZI {l:List (ZF)} {i:Int} {v:ZF} (h:nth l i=some v):0≤i∧∃x:DD 90,(show List (DD 90)from l)[i.toNat]?=some x∧UU.cells 90 x=c90 v:=⟨(ZV h).1,v,(ZV h).2,rfl⟩
theorem ZjW {l:List (ZF)} {i:Nat} {v:ZF} (h:l[i]?=some v):∃x:DD 90,(show List (DD 90)from l)[i]?=some x∧UU.cells 90 x=c90 v:=⟨v,h,rfl⟩

theorem ZjX {l:List (Yc)} {i:Int} {v:Yc} (h:nth l i=some v):0≤i∧∃x:DD 103,(show List (DD 103)from l)[i.toNat]?=some x∧UU.cells 103 x=WL v:=⟨(ZV h).1,v,(ZV h).2,rfl⟩
theorem ZjY {l:List (Yc)} {i:Nat} {v:Yc} (h:l[i]?=some v):∃x:DD 103,(show List (DD 103)from l)[i]?=some x∧UU.cells 103 x=WL v:=⟨v,h,rfl⟩

theorem ZP {l:List (Y3)} {i:Int} {v:Y3} (h:nth l i=some v):0≤i∧∃x:DD 105,(show List (DD 105)from l)[i.toNat]?=some x∧UU.cells 105 x=ZK v:=⟨(ZV h).1,v,(ZV h).2,rfl⟩
theorem ZjZ {l:List (Y3)} {i:Nat} {v:Y3} (h:l[i]?=some v):∃x:DD 105,(show List (DD 105)from l)[i]?=some x∧UU.cells 105 x=ZK v:=⟨v,h,rfl⟩

theorem ZA {l:List (ZO)} {i:Int} {v:ZO} (h:nth l i=some v):0≤i∧∃x:DD 110,(show List (DD 110)from l)[i.toNat]?=some x∧UU.cells 110 x=Za v:=⟨(ZV h).1,v,(ZV h).2,rfl⟩
theorem Zk0 {l:List (ZO)} {i:Nat} {v:ZO} (h:l[i]?=some v):∃x:DD 110,(show List (DD 110)from l)[i]?=some x∧UU.cells 110 x=Za v:=⟨v,h,rfl⟩

theorem Uj {l:List (YA)} {i:Int} {v:YA} (h:nth l i=some v):0≤i∧∃x:DD 113,(show List (DD 113)from l)[i.toNat]?=some x∧UU.cells 113 x=WM v:=⟨(ZV h).1,v,(ZV h).2,rfl⟩
theorem Zk1 {l:List (YA)} {i:Nat} {v:YA} (h:l[i]?=some v):∃x:DD 113,(show List (DD 113)from l)[i]?=some x∧UU.cells 113 x=WM v:=⟨v,h,rfl⟩

theorem V2 {l:List (List ZJ)} {i:Int} {v:List ZJ} (h:nth l i=some v):0≤i∧∃x:DD 125,(show List (DD 125)from l)[i.toNat]?=some x∧UU.cells 125 x=Wq v:=⟨(ZV h).1,v,(ZV h).2,rfl⟩
theorem Zk2 {l:List (List ZJ)} {i:Nat} {v:List ZJ} (h:l[i]?=some v):∃x:DD 125,(show List (DD 125)from l)[i]?=some x∧UU.cells 125 x=Wq v:=⟨v,h,rfl⟩

theorem Z5z {l:List (ZJ)} {i:Int} {v:ZJ} (h:nth l i=some v):0≤i∧∃x:DD 126,(show List (DD 126)from l)[i.toNat]?=some x∧UU.cells 126 x=Ui v:=⟨(ZV h).1,v,(ZV h).2,rfl⟩
theorem Zk3 {l:List (ZJ)} {i:Nat} {v:ZJ} (h:l[i]?=some v):∃x:DD 126,(show List (DD 126)from l)[i]?=some x∧UU.cells 126 x=Ui v:=⟨v,h,rfl⟩

theorem Zk4 {l:List (Y7)} {i:Int} {v:Y7} (h:nth l i=some v):0≤i∧∃x:DD 161,(show List (DD 161)from l)[i.toNat]?=some x∧UU.cells 161 x=Z5v v:=⟨(ZV h).1,v,(ZV h).2,rfl⟩
theorem Zeh {l:List (Y7)} {i:Nat} {v:Y7} (h:l[i]?=some v):∃x:DD 161,(show List (DD 161)from l)[i]?=some x∧UU.cells 161 x=Z5v v:=⟨v,h,rfl⟩

theorem Xh {l:List (Yt)} {i:Int} {v:Yt} (h:nth l i=some v):0≤i∧∃x:DD 174,(show List (DD 174)from l)[i.toNat]?=some x∧UU.cells 174 x=YY v:=⟨(ZV h).1,v,(ZV h).2,rfl⟩
theorem Zk5 {l:List (Yt)} {i:Nat} {v:Yt} (h:l[i]?=some v):∃x:DD 174,(show List (DD 174)from l)[i]?=some x∧UU.cells 174 x=YY v:=⟨v,h,rfl⟩

theorem QS {l:List (Yz)} {i:Int} {v:Yz} (h:nth l i=some v):0≤i∧∃x:DD 178,(show List (DD 178)from l)[i.toNat]?=some x∧UU.cells 178 x=Vm v:=⟨(ZV h).1,v,(ZV h).2,rfl⟩
theorem Zk6 {l:List (Yz)} {i:Nat} {v:Yz} (h:l[i]?=some v):∃x:DD 178,(show List (DD 178)from l)[i]?=some x∧UU.cells 178 x=Vm v:=⟨v,h,rfl⟩

theorem Zk7 {l:List (ZQ)} {i:Int} {v:ZQ} (h:nth l i=some v):0≤i∧∃x:DD 190,(show List (DD 190)from l)[i.toNat]?=some x∧UU.cells 190 x=Yf v:=⟨(ZV h).1,v,(ZV h).2,rfl⟩
theorem Zk8 {l:List (ZQ)} {i:Nat} {v:ZQ} (h:l[i]?=some v):∃x:DD 190,(show List (DD 190)from l)[i]?=some x∧UU.cells 190 x=Yf v:=⟨v,h,rfl⟩

theorem Zk9 {l:List (Z9)} {i:Int} {v:Z9} (h:nth l i=some v):0≤i∧∃x:DD 214,(show List (DD 214)from l)[i.toNat]?=some x∧UU.cells 214 x=XD v:=⟨(ZV h).1,v,(ZV h).2,rfl⟩
theorem V3 {l:List (Z9)} {i:Nat} {v:Z9} (h:l[i]?=some v):∃x:DD 214,(show List (DD 214)from l)[i]?=some x∧UU.cells 214 x=XD v:=⟨v,h,rfl⟩

theorem Zka {l:List (Y1)} {i:Int} {v:Y1} (h:nth l i=some v):0≤i∧∃x:DD 221,(show List (DD 221)from l)[i.toNat]?=some x∧UU.cells 221 x=WD v:=⟨(ZV h).1,v,(ZV h).2,rfl⟩
theorem Vo {l:List (Y1)} {i:Nat} {v:Y1} (h:l[i]?=some v):∃x:DD 221,(show List (DD 221)from l)[i]?=some x∧UU.cells 221 x=WD v:=⟨v,h,rfl⟩

theorem Zkb {l:List (Vh)} {i:Int} {v:Vh} (h:nth l i=some v):0≤i∧∃x:DD 229,(show List (DD 229)from l)[i.toNat]?=some x∧UU.cells 229 x=Z7s v:=⟨(ZV h).1,v,(ZV h).2,rfl⟩
theorem Zkc {l:List (Vh)} {i:Nat} {v:Vh} (h:l[i]?=some v):∃x:DD 229,(show List (DD 229)from l)[i]?=some x∧UU.cells 229 x=Z7s v:=⟨v,h,rfl⟩

theorem Zkd {l:List (YH)} {i:Int} {v:YH} (h:nth l i=some v):0≤i∧∃x:DD 242,(show List (DD 242)from l)[i.toNat]?=some x∧UU.cells 242 x=Z5w v:=⟨(ZV h).1,v,(ZV h).2,rfl⟩
theorem Zei {l:List (YH)} {i:Nat} {v:YH} (h:l[i]?=some v):∃x:DD 242,(show List (DD 242)from l)[i]?=some x∧UU.cells 242 x=Z5w v:=⟨v,h,rfl⟩

theorem Zke {l:List (YX)} {i:Int} {v:YX} (h:nth l i=some v):0≤i∧∃x:DD 270,(show List (DD 270)from l)[i.toNat]?=some x∧UU.cells 270 x=Z7t v:=⟨(ZV h).1,v,(ZV h).2,rfl⟩
theorem Zkf {l:List (YX)} {i:Nat} {v:YX} (h:l[i]?=some v):∃x:DD 270,(show List (DD 270)from l)[i]?=some x∧UU.cells 270 x=Z7t v:=⟨v,h,rfl⟩

theorem Zkg {l:List (Zw)} {i:Int} {v:Zw} (h:nth l i=some v):0≤i∧∃x:DD 272,(show List (DD 272)from l)[i.toNat]?=some x∧UU.cells 272 x=QP v:=⟨(ZV h).1,v,(ZV h).2,rfl⟩
theorem Z5A {l:List (Zw)} {i:Nat} {v:Zw} (h:l[i]?=some v):∃x:DD 272,(show List (DD 272)from l)[i]?=some x∧UU.cells 272 x=QP v:=⟨v,h,rfl⟩

theorem Zkh {l:List (Ya)} {i:Int} {v:Ya} (h:nth l i=some v):0≤i∧∃x:DD 294,(show List (DD 294)from l)[i.toNat]?=some x∧UU.cells 294 x=Vn v:=⟨(ZV h).1,v,(ZV h).2,rfl⟩
theorem Tj {l:List (Ya)} {i:Nat} {v:Ya} (h:l[i]?=some v):∃x:DD 294,(show List (DD 294)from l)[i]?=some x∧UU.cells 294 x=Vn v:=⟨v,h,rfl⟩

theorem Zki {l:List (YF)} {i:Int} {v:YF} (h:nth l i=some v):0≤i∧∃x:DD 297,(show List (DD 297)from l)[i.toNat]?=some x∧UU.cells 297 x=QQ v:=⟨(ZV h).1,v,(ZV h).2,rfl⟩
theorem Z5B {l:List (YF)} {i:Nat} {v:YF} (h:l[i]?=some v):∃x:DD 297,(show List (DD 297)from l)[i]?=some x∧UU.cells 297 x=QQ v:=⟨v,h,rfl⟩

theorem Z9G (bs:List UInt8):Z5 UU 5 (show List (DD 5)from bs.map fun b=>(b.toNat:Int))=(bs.map fun b=>Value.int .u8 b.toNat).map (AV.v (D:=DD)):=by
 induction bs with
 |nil=>rfl
 |cons x r ih=>exact congrArg (List.cons _) ih
theorem Zej {n:Nat} {l:List Int} (s:ByteArray) (h:ZZ 1 (l++bts s)=true):n=n∧List.length (l++bts s)=List.length l+s.size∧(List.length l+s.size) * 1≤140737488355328∧List.length l+s.size<9223372036854775808∧∃xs:List (DD 5),(Zf.arr 5 (show List (DD 5)from(l++bts s)) (List.length (l++bts s)) false:Zf DD)= .arr 5 ((show List (DD 5)from l)++xs) (List.length (l++bts s)) false∧Z5 UU 5 xs=(byteCells s).map (AV.v (D:=DD)):=by
 have h:=of_decide_eq_true h
 have e:=UI s
 rw[List.length_append]at h
 exact⟨rfl,by rw[List.length_append,e],by rw[←e];exact h.1,by rw[←e];exact h.2,bts s,rfl,Z9G s.data.toList⟩
theorem Zek (s:ByteArray) (h0:decide (0<s.size)=true) (h:ZZ 1 (bts s)=true):0<s.size∧s.size * 1≤140737488355328∧s.size<9223372036854775808∧List.length (bts s)=s.size∧List.length (bts s)=s.size∧Z5 UU 5 (show List (DD 5)from bts s)=(byteCells s).map (AV.v (D:=DD)):=by
 have h:=of_decide_eq_true h
 have e:=UI s
 exact⟨of_decide_eq_true h0,by rw[←e];exact h.1,by rw[←e];exact h.2,e,e,Z9G s.data.toList⟩
theorem Zel {n:Nat} {l:List Int} (h0:decide (0<List.length l)=true) (h:Z0w l=true):n=n∧((List.length l:Nat):Int)=((List.length l:Nat):Int)∧0<List.length l∧List.length l≤9223372036854775807∧∃bs:List UInt8,Z5 UU 5 (show List (DD 5)from l)=bs.map (fun x=>(AV.v (.int .u8 x.toNat):AV DD))∧Yu l=⟨bs.toArray⟩:=by
 have e:=ZdQ h
 refine⟨rfl,rfl,of_decide_eq_true h0,of_decide_eq_true (Bool.and_eq_true_iff.1 h).1,l.map fun n=>UInt8.ofNat n.toNat, ?_,rfl⟩
 have e2:Z5 UU 5 (show List (DD 5)from l)=(l.map fun n=>Value.int .u8 n).map (AV.v (D:=DD)):=by
  clear h0 h e
  induction l with
  |nil=>rfl
  |cons x r ih=>exact congrArg (List.cons _) ih
 rw[e2,e,List.map_map]
 rfl

theorem Z7y (l:List Int):∃ns:List Int,Z5 UU 5 (show List (DD 5)from l)=ns.map (fun n=>(.v (.int .u8 n):AV DD))∧Yu l=⟨(ns.map fun n=>UInt8.ofNat n.toNat).toArray⟩:=⟨l,by
 induction l with
 |nil=>rfl
 |cons x l ih=>exact congrArg (List.cons _) ih,rfl⟩

theorem Zkj (e:Nat) {n b:Nat} {l xs:List (DD e)} (h:ZdX l.length b xs.length=true):n=n∧n=n∧0<l.length∧b+xs.length≤l.length∧(([]:List Nat)= []∨b+xs.length=l.length)∧∃xs',(Zf.arr e (l.take b++(xs++l.drop (b+xs.length))) n false)= .arr e (l.take b++(xs'++l.drop (b+xs.length))) n false∧Z5 UU e xs'=Z5 UU e xs:=by
 have h:=of_decide_eq_true h
 exact⟨rfl,rfl,h.1,h.2, .inl rfl,xs,rfl,rfl⟩
theorem Zkk (e:Nat) {n b:Nat} {l xs:List (DD e)} (h:ZdY l.length b xs.length=true):n=n∧n=n∧0<l.length∧b+xs.length≤l.length∧(([0]:List Nat)= []∨b+xs.length=l.length)∧∃xs',(Zf.arr e (l.take b++(xs++l.drop (b+xs.length))) n false)= .arr e (l.take b++(xs'++l.drop (b+xs.length))) n false∧Z5 UU e xs'=Z5 UU e xs:=by
 have h:=of_decide_eq_true h
 exact⟨rfl,rfl,h.1,Nat.le_of_eq h.2, .inr h.2,xs,rfl,rfl⟩

theorem Z9H {n e:Nat} {l l2:List (DD e)} {a b:Nat} :n=n∧∃xs:List (DD e),(Zf.arr e (l.take a++(l2.take (min l2.length (b-a))++l.drop (a+min l2.length (b-a)))) n false)= .arr e (l.take a++(xs++l.drop (a+min l2.length (b-a)))) n false∧Z5 UU e xs=Z5 UU e (l2.take (min l2.length (b-a))):=⟨rfl,_,rfl,rfl⟩
theorem Zkl {n e:Nat} {l:List (DD e)} {a b:Nat} (y:DD e):n=n∧∃y',(Zf.arr e (l.take a++(List.replicate (b-a) y++l.drop b)) n false)= .arr e (l.take a++(List.replicate (b-a) y'++l.drop b)) n false∧UU.cells e y'=UU.cells e y:=⟨rfl,y,rfl,rfl⟩
theorem Zkm {α:Type} {l:List α} {i:Nat} {v:α} (h:l[i]?=some v):(List.replicate l.length false)[i]?=some false:=by
 have:=(List.getElem?_eq_some_iff.1 h).1
 simp[List.getElem?_replicate,this]
theorem Zkn {n e:Nat} {l:List (DD e)} {pm:List Bool} {i:Nat} (y:DD e) (r:List (AV DD)) (hr:UU.cells e y=r):∃y',(Zf.dp e (l.set i y) (pm.set i false) none n)= .dp e (l.set i y') (pm.set i false) none n∧UU.cells e y'=r:=⟨y,rfl,hr⟩
theorem Z7z {n e:Nat} {l:List (DD e)} {pm:List Bool} {i:Nat} (y:DD e) (r:List (AV DD)) (hr:UU.cells e y=r):∃y',(Zf.dp e (l.set i y) (pm.set i true) none n)= .dp e (l.set i y') (pm.set i true) none n∧UU.cells e y'=r:=⟨y,rfl,hr⟩
theorem XR {n e:Nat} {l:List (DD e)} {i:Nat} {A:Prop} (y:DD e) (r:List (AV DD)) (h:A) (hr:UU.cells e y=r):n=n∧A∧∃y',(Zf.arr e (l.set i y) n false)= .arr e (l.set i y') n false∧UU.cells e y'=r:=⟨rfl,h,y,rfl,hr⟩
theorem Yk (e:Nat) (l:List (DD e)):Z5 UU e l=Z5 UU e l∧l.length=l.length∧l.length=l.length:=⟨rfl,rfl,rfl⟩
theorem Tk {n m:Int} {b:Nat} (e:Nat) (z:DD e) (h:XY b n m=true):0≤n∧n≤m∧m * b≤140737488355328∧m<9223372036854775808∧∃y:DD e,List.replicate n.toNat z=List.replicate n.toNat y∧UU.cells e y=UU.cells e z:=by
 have h:=of_decide_eq_true h
 exact⟨h.1,h.2.1,h.2.2.1,h.2.2.2,z,rfl,rfl⟩
theorem YR (e:Nat) {n b:Nat} {l xs:List (DD e)} (h:ZZ b (l++xs)=true):n=n∧(l++xs).length=(l++xs).length∧(l.length+xs.length) * b≤140737488355328∧l.length+xs.length<9223372036854775808∧∃xs',(Zf.arr e (l++xs) (l++xs).length false)= .arr e (l++xs') (l++xs).length false∧Z5 UU e xs'=Z5 UU e xs:=by
 have h:=of_decide_eq_true h
 rw[List.length_append]at h
 exact⟨rfl,rfl,h.1,h.2,xs,rfl,rfl⟩
theorem Zko (e:Nat) {b:Nat} {l:List (DD e)} (h:ZZ b l=true):l.length * b≤140737488355328∧l.length<9223372036854775808∧l.length=l.length∧Z5 UU e l=Z5 UU e l:=by
 have h:=of_decide_eq_true h
 exact⟨h.1,h.2,rfl,rfl⟩
theorem Zkp (e:Nat) {b:Nat} {l:List (DD e)} (h:ZZ b l=true):l.length * b≤140737488355328∧l.length<9223372036854775808∧l.length=l.length∧Z5 UU e l=Z5 UU e l∧l.length=l.length:=by
 have h:=of_decide_eq_true h
 exact⟨h.1,h.2,rfl,rfl,rfl⟩

def Z9I:Go.Shelf.Ren:=⟨fun|156=>237|165=>260|166=>83|169=>86|240=>167|241=>271|276=>210|277=>281|n=>n,fun|31=>53|9=>9|3=>3|4=>4|0=>0|20=>20|72=>134|76=>139|70=>131|37=>132|75=>138|127=>232|164=>274|5=>5|80=>143|n=>n,fun n=>n⟩
theorem Zem:Lays.n156 Tryz.prog Z9I where
 mixed:=by kernel_rfl
 f156:=Tryz.func237.trans (congrArg some (by kernel_rfl))
 f165:=Tryz.func260.trans (congrArg some (by kernel_rfl))
 f166:=Tryz.func83.trans (congrArg some (by kernel_rfl))
 f169:=Tryz.func86.trans (congrArg some (by kernel_rfl))
 f240:=Tryz.func167.trans (congrArg some (by kernel_rfl))
 f241:=Tryz.func271.trans (congrArg some (by kernel_rfl))
 f276:=Tryz.func210.trans (congrArg some (by kernel_rfl))
 f277:=Tryz.func281.trans (congrArg some (by kernel_rfl))
 t0:=Tryz.underlying0
 a0:=Tryz.isAgg0
 z0:=Tryz.sizeOf0
 v0:=Tryz.zeroValue0
 t3:=Tryz.underlying3
 a3:=Tryz.isAgg3
 z3:=Tryz.sizeOf3
 v3:=Tryz.zeroValue3
 t4:=Tryz.underlying4
 a4:=Tryz.isAgg4
 z4:=Tryz.sizeOf4
 v4:=Tryz.zeroValue4
 t9:=Tryz.underlying9
 a9:=Tryz.isAgg9
 z9:=Tryz.sizeOf9
 v9:=Tryz.zeroValue9
 t20:=Tryz.underlying20
 a20:=Tryz.isAgg20
 z20:=Tryz.sizeOf20
 v20:=Tryz.zeroValue20
 t31:=Tryz.underlying53
 a31:=Tryz.isAgg53
 z31:=Tryz.sizeOf53
 v31:=Tryz.zeroValue53
 t37:=Tryz.underlying132
 a37:=Tryz.isAgg132
 z37:=Tryz.sizeOf132
 v37:=Tryz.zeroValue132
 t70:=Tryz.underlying131
 a70:=Tryz.isAgg131
 z70:=Tryz.sizeOf131
 v70:=Tryz.zeroValue131
 t72:=Tryz.underlying134
 a72:=Tryz.isAgg134
 z72:=Tryz.sizeOf134
 v72:=Tryz.zeroValue134
 t75:=Tryz.underlying138
 a75:=Tryz.isAgg138
 z75:=Tryz.sizeOf138
 v75:=Tryz.zeroValue138
 t76:=Tryz.underlying139
 a76:=Tryz.isAgg139
 z76:=Tryz.sizeOf139
 v76:=Tryz.zeroValue139
 t127:=Tryz.underlying232
 a127:=Tryz.isAgg232
 z127:=Tryz.sizeOf232
 v127:=Tryz.zeroValue232
 t164:=Tryz.underlying274
 a164:=Tryz.isAgg274
 z164:=Tryz.sizeOf274
 v164:=Tryz.zeroValue274
theorem Zen:Builder.Extra Tryz.prog Z9I where
 sizeBuilder:=by kernel_rfl
 liesBuilder:=by kernel_rfl
 t5:=Tryz.underlying5
 a5:=Tryz.isAgg5
 z5:=Tryz.sizeOf5
 v5:=Tryz.zeroValue5
 infoByte:=by kernel_rfl
 cellsByte:=by kernel_rfl
 sizeByte:=by kernel_rfl
 neB5:=by decide
theorem mixedOrders:Tryz.prog.follows .mixedOrders=true:=by kernel_rfl
@[reducible] def AV.z : AV DD := .v (.int .i64 0)
@[reducible] def AV.e : AV DD := .v (.string (⟨#[]⟩ : ByteArray))
@[reducible] def Zf.n (t : Nat) : Zf DD := .arr t [] 0 false
theorem rl {k N:Nat} {c:Code} {fr fr':Fr DD} {hp h':Z3 DD} {ps:List Prop} {ex:Ex} (live ids:List Nat) (π:List (Ans DD)) (hps:ZD ps) (hx:Z7c Tryz.prog UU k N c fr hp live ids π=some (ps,ex,fr',h'):=by kernel_rfl):YE Tryz.prog UU k N c fr hp ex fr' h':=ZdT mixedOrders hx hps
theorem rf {f : FuncId} {fn : Func} {args : List (AV DD)} {h h' : Z3 DD} {ps : List Prop} {r : AV DD} (hfn : Tryz.prog.funcs[f]? = some fn) (keep : Option (List Nat)) (π : List (Ans DD)) (hps : ZD ps) (hname : (fn.name == "runtime.NumGoroutine") = false := by rfl) (hrun : Z7e Tryz.prog UU fn args h keep π = some (ps, r, h') := by kernel_rfl) : Z7 Tryz.prog UU f args h r h' := ZdW mixedOrders hfn hname hrun hps
theorem rn (n:Nat):n=n:=rfl
theorem an (n:Nat) {p:Prop} (h:p):n=n∧p:=⟨rfl,h⟩
@[reducible] def AV.j (n : Int) : AV DD := .v (.int .i64 n)
theorem oi {α:Type} {a b:α} (h:some a=some b):a=b:=by injection h
theorem rr (x:AV DD):x=x:=rfl
theorem rh (x:Z3 DD):x=x:=rfl
theorem ro (x:Zf DD):x=x:=rfl
theorem rl2 (x:List (AV DD)):x=x:=rfl
theorem pd {p:Prop} {ps:List Prop} (h:p) (hs:ZD ps):ZD (p::p::ps):=pc h (pc h hs)
@[reducible] def Zf.w {D : Den} (t : Nat) (l : List (D t)) : Zf D := .arr t l l.length false
@[reducible] def Zf.wt {D : Den} (t : Nat) (l : List (D t)) : Zf D := .arr t l l.length true
@[reducible] def AV.x (s : ByteArray) : AV DD := .v (.string s)
@[reducible] def AV.y (b : Bool) : AV DD := .v (.bool b)
@[reducible] def AV.o (k : Nat) : AV DD := .op k 1 0 0
@[reducible] def Ans.t : Ans DD := .dec true
@[reducible] def Ans.f : Ans DD := .dec false
@[reducible] def Ans.b (x : Bool) : Ans DD := .callv (.v (.bool x))
theorem bo {α β:Type} {o:Option α} {f:α→Option β} {r:β} (h:o.bind f=some r):∃v,o=some v∧f v=some r:=ZdZ h
end Go.Eng
