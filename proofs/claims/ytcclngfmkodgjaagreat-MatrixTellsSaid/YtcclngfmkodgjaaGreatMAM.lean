/- Part of the proof of MatrixTells: printed mirrors of the functions, or their contracts. No conditions. -/
import Derived.Test.YtcclngfmkodgjaaGreatEng14
set_option linter.unusedVariables false
set_option maxRecDepth 100000
namespace Go.Eng
open Go
structure Yy where
 row:Int
 priority:Int
 name:ByteArray
 mac:Int
 vtep:Int
 deriving DecidableEq,Inhabited

def Yy.Ok (x:Yy):Prop:=(okI .i64) x.row∧(okI .i64) x.priority∧okS x.name∧(okI .u64) x.mac∧(okI .u32) x.vtep∧True

structure ZO where
 row:Int
 dev:Int
 native:Int
 cost:Int
 link:Int
 name:ByteArray
 tagged:List Int
 deriving DecidableEq,Inhabited

def ZO.Ok (x:ZO):Prop:=(okI .i64) x.row∧(okI .i64) x.dev∧(okI .i64) x.native∧(okI .i64) x.cost∧(okI .i64) x.link∧okS x.name∧(okL (okI .i64)) x.tagged∧True

structure Yt where
 row:Int
 a:Int
 b:Int
 deriving DecidableEq,Inhabited

def Yt.Ok (x:Yt):Prop:=(okI .i64) x.row∧(okI .i64) x.a∧(okI .i64) x.b∧True

structure ZF where
 dev:Int
 vlan:Int
 vni:Int
 irb:Int
 row:Int
 peers:List Int
 deriving DecidableEq,Inhabited

def ZF.Ok (x:ZF):Prop:=(okI .i64) x.dev∧(okI .i64) x.vlan∧(okI .i64) x.vni∧(okI .i64) x.irb∧(okI .i64) x.row∧(okL (okI .i64)) x.peers∧True

structure Yz where
 row:Int
 domain:Int
 port:Int
 mac:Int
 deriving DecidableEq,Inhabited

def Yz.Ok (x:Yz):Prop:=(okI .i64) x.row∧(okI .i64) x.domain∧(okI .i64) x.port∧(okI .u64) x.mac∧True

structure YA where
 row:Int
 dev:Int
 vni:Int
 addrs:List Int
 deriving DecidableEq,Inhabited

def YA.Ok (x:YA):Prop:=(okI .i64) x.row∧(okI .i64) x.dev∧(okI .i64) x.vni∧(okL (okI .u32)) x.addrs∧True

structure Yh where
 row:Int
 dev:Int
 name:ByteArray
 imports:List Int
 exports:List Int
 deriving DecidableEq,Inhabited

def Yh.Ok (x:Yh):Prop:=(okI .i64) x.row∧(okI .i64) x.dev∧okS x.name∧(okL (okI .i64)) x.imports∧(okL (okI .i64)) x.exports∧True

structure Yc where
 addr:Int
 bits:Int
 deriving DecidableEq,Inhabited

def Yc.Ok (x:Yc):Prop:=(okI .u32) x.addr∧(okI .i64) x.bits∧True

structure Y3 where
 row:Int
 domain:Int
 vrf:Int
 net:Yc
 deriving DecidableEq,Inhabited

def Y3.Ok (x:Y3):Prop:=(okI .i64) x.row∧(okI .i64) x.domain∧(okI .i64) x.vrf∧Yc.Ok x.net∧True

structure Z2 where
 devices:List Yy
 ports:List ZO
 links:List Yt
 domains:List ZF
 statics:List Yz
 floods:List YA
 vrfs:List Yh
 irbs:List Y3
 deriving DecidableEq,Inhabited

def Z2.Ok (x:Z2):Prop:=(okL Yy.Ok) x.devices∧(okL ZO.Ok) x.ports∧(okL Yt.Ok) x.links∧(okL ZF.Ok) x.domains∧(okL Yz.Ok) x.statics∧(okL YA.Ok) x.floods∧(okL Yh.Ok) x.vrfs∧(okL Y3.Ok) x.irbs∧True

structure ZQ where
 n:Z2
 deriving DecidableEq,Inhabited

def ZQ.Ok (x:ZQ):Prop:=Z2.Ok x.n∧True

structure Z9 where
 plain:Int
 led:Int
 deriving DecidableEq,Inhabited

def Z9.Ok (x:Z9):Prop:=(okI .i64) x.plain∧(okI .i64) x.led∧True

structure Y7 where
 kind:Int
 port:Int
 domain:Int
 addr:Int
 deriving DecidableEq,Inhabited

def Y7.Ok (x:Y7):Prop:=(okI .i64) x.kind∧(okI .i64) x.port∧(okI .i64) x.domain∧(okI .u32) x.addr∧True

structure YX where
 domain:Int
 deriving DecidableEq,Inhabited

def YX.Ok (x:YX):Prop:=(okI .i64) x.domain∧True

structure Zw where
 task:YX
 done:Bool
 deriving DecidableEq,Inhabited

def Zw.Ok (x:Zw):Prop:=YX.Ok x.task∧okB x.done∧True

structure YH where
 to:Int
 domain:Int
 addr:Int
 deriving DecidableEq,Inhabited

def YH.Ok (x:YH):Prop:=(okI .i64) x.to∧(okI .i64) x.domain∧(okI .u32) x.addr∧True

structure Vh where
 n:Z2
 all:List Z9
 wait:List Zw
 next:List (List Int)
 leads:List (List Int)
 deriving DecidableEq,Inhabited

def Vh.Ok (x:Vh):Prop:=Z2.Ok x.n∧(okL Z9.Ok) x.all∧(okL Zw.Ok) x.wait∧(okL (okL (okI .i64))) x.next∧(okL (okL (okI .i64))) x.leads∧True

structure Z6 where
 ports:Int
 from_:Int
 to:Int
 deriving DecidableEq,Inhabited

def Z6.Ok (x:Z6):Prop:=(okI .i64) x.ports∧(okI .i64) x.from_∧(okI .i64) x.to∧True

structure ZJ where
 ports:Int
 from_:Int
 to:Int
 deriving DecidableEq,Inhabited

def ZJ.Ok (x:ZJ):Prop:=(okI .i64) x.ports∧(okI .i64) x.from_∧(okI .i64) x.to∧True

structure Y1 where
 plain:Int
 led:Int
 deriving DecidableEq,Inhabited

def Y1.Ok (x:Y1):Prop:=(okI .i64) x.plain∧(okI .i64) x.led∧True

structure Ya where
 kind:Int
 port:Int
 domain:Int
 addr:Int
 deriving DecidableEq,Inhabited

def Ya.Ok (x:Ya):Prop:=(okI .i64) x.kind∧(okI .i64) x.port∧(okI .i64) x.domain∧(okI .u32) x.addr∧True

structure YF where
 to:Int
 domain:Int
 addr:Int
 deriving DecidableEq,Inhabited

def YF.Ok (x:YF):Prop:=(okI .i64) x.to∧(okI .i64) x.domain∧(okI .u32) x.addr∧True

def Z4X (x y:Z9):Bool:=(x.plain==y.plain && (x.led==y.led && true))

def Z7i (x y:Z6):Bool:=(x.ports==y.ports && (x.from_==y.from_ && (x.to==y.to && true)))

def Z7j (x y:ZJ):Bool:=(x.ports==y.ports && (x.from_==y.from_ && (x.to==y.to && true)))

def Z0z (a1:Z2) (v10:Int):Option ((Int)⊕(Unit⊕Unit)):=
 if(decide (v10<(a1.ports.length:Int)))=true then
  (nth a1.ports v10).bind fun x12=>
  if(decide ((x12.tagged.length:Int) >100))=true then
   some (Sum.inr (Sum.inl ()))
  else
   some (Sum.inl (Z4 (v10+1)))
 else
  some (Sum.inr (Sum.inr ()))

def Z0A (a1:Z2) (v17:Int):Option ((Int)⊕(Unit⊕Unit)):=
 if(decide (v17<(a1.domains.length:Int)))=true then
  (nth a1.domains v17).bind fun x19=>
  if(decide ((x19.peers.length:Int) >100))=true then
   some (Sum.inr (Sum.inl ()))
  else
   some (Sum.inl (Z4 (v17+1)))
 else
  some (Sum.inr (Sum.inr ()))

def Z0B (a1:Z2) (v24:Int):Option ((Int)⊕(Unit⊕Unit)):=
 if(decide (v24<(a1.floods.length:Int)))=true then
  (nth a1.floods v24).bind fun x26=>
  if(decide ((x26.addrs.length:Int) >100))=true then
   some (Sum.inr (Sum.inl ()))
  else
   some (Sum.inl (Z4 (v24+1)))
 else
  some (Sum.inr (Sum.inr ()))

def Z0C (a1:Z2) (v31:Int):Option ((Int)⊕(Unit⊕Unit)):=
 if(decide (v31<(a1.vrfs.length:Int)))=true then
  (nth a1.vrfs v31).bind fun x33=>
  if(decide ((x33.imports.length:Int) >100))=true then
   some (Sum.inr (Sum.inl ()))
  else
   (nth a1.vrfs v31).bind fun x36=>
   if(decide ((x36.exports.length:Int) >100))=true then
    some (Sum.inr (Sum.inl ()))
   else
    some (Sum.inl (Z4 (v31+1)))
 else
  some (Sum.inr (Sum.inr ()))

def Z2i (a1:Z2):Option (Bool):=
 if(decide ((a1.devices.length:Int) >200))=true then
  some true
 else
  if(decide ((a1.ports.length:Int) >200))=true then
   some true
  else
   if(decide ((a1.links.length:Int) >200))=true then
    some true
   else
    if(decide ((a1.domains.length:Int) >200))=true then
     some true
    else
     if(decide ((a1.statics.length:Int) >200))=true then
      some true
     else
      if(decide ((a1.floods.length:Int) >200))=true then
       some true
      else
       if(decide ((a1.vrfs.length:Int) >200))=true then
        some true
       else
        if(decide ((a1.irbs.length:Int) >200))=true then
         some true
        else
         (Z8 (Z0z a1) 0).bind fun r16=>match r16 with
         |Sum.inl ()=>
          some true
         |Sum.inr ()=>
          (Z8 (Z0A a1) 0).bind fun r23=>match r23 with
          |Sum.inl ()=>
           some true
          |Sum.inr ()=>
           (Z8 (Z0B a1) 0).bind fun r30=>match r30 with
           |Sum.inl ()=>
            some true
           |Sum.inr ()=>
            (Z8 (Z0C a1) 0).bind fun r40=>match r40 with
            |Sum.inl ()=>
             some true
            |Sum.inr ()=>
             some false

def Z2j (a1:ZQ):Option (Bool):=
 if(decide ((a1.n.devices.length:Int)≤8))=true then
  if(decide ((a1.n.ports.length:Int)≤40))=true then
   if(decide ((a1.n.links.length:Int)≤20))=true then
    if(decide ((a1.n.domains.length:Int)≤48))=true then
     if(decide ((a1.n.statics.length:Int)≤64))=true then
      if(decide ((a1.n.floods.length:Int)≤48))=true then
       if(decide ((a1.n.vrfs.length:Int)≤16))=true then
        some (decide ((a1.n.irbs.length:Int)≤48))
       else
        some false
      else
       some false
     else
      some false
    else
     some false
   else
    some false
  else
   some false
 else
  some false

def U6 (a1:List Yy) (a2:Int):Option (Bool):=
 if(decide (a2≥0))=true then
  some (decide (a2<(a1.length:Int)))
 else
  some false

def Z4Y (a1:ZF) (a2:Int) (a3:Int):Option (Bool):=
 if(a1.dev==a2)=true then
  some (a1.vlan==a3)
 else
  some false

def Z0D (a1:List ZF) (a2:Int) (a3:Int) (v4:Int):Option ((Int)⊕(Int⊕Unit)):=
 if(decide (v4<(a1.length:Int)))=true then
  (nth a1 v4).bind fun x6=>
  (Z4Y x6 a2 a3).bind fun r8=>
  if(r8)=true then
   some (Sum.inr (Sum.inl v4))
  else
   some (Sum.inl (Z4 (v4+1)))
 else
  some (Sum.inr (Sum.inr ()))

def Z2k (a1:List ZF) (a2:Int) (a3:Int):Option (Int):=
 (Z8 (Z0D a1 a2 a3) 0).bind fun r14=>match r14 with
 |Sum.inl v12=>
  some v12
 |Sum.inr ()=>
  some (-1)

def UJ (a1:ZQ) (a2:Int) (a3:Int):Option (Int):=
 (Z2k a1.n.domains a2 a3).bind fun r4=>
 some r4

def Z2l (a1:List Y3) (a2:Int):Option (Bool):=
 if(decide (a2≥0))=true then
  some (decide (a2<(a1.length:Int)))
 else
  some false

def Z2m (a1:ZQ) (a2:Int) (a3:ZF):Option (Bool):=
 (U6 a1.n.devices a3.dev).bind fun r4=>
 if(r4)=true then
  if(decide (a3.vlan≥1))=true then
   if(decide (a3.vlan≤4094))=true then
    if(decide (a3.vni≥0))=true then
     if(decide (a3.vni≤16777215))=true then
      if(a3.irb==(-1))=true then
       (UJ a1 a3.dev a3.vlan).bind fun r12=>
       some (r12==a2)
      else
       (Z2l a1.n.irbs a3.irb).bind fun r14=>
       if(r14)=true then
        (nth a1.n.irbs a3.irb).bind fun x17=>
        if(x17.domain==a2)=true then
         (UJ a1 a3.dev a3.vlan).bind fun r20=>
         some (r20==a2)
        else
         some false
       else
        some false
     else
      some false
    else
     some false
   else
    some false
  else
   some false
 else
  some false

def Z0E (a1:List ZF) (a2:ZQ) (v3:Int):Option ((Int)⊕(Unit⊕Unit)):=
 if(decide (v3<(a1.length:Int)))=true then
  (nth a1 v3).bind fun x5=>
  (Z2m a2 v3 x5).bind fun r7=>
  if(!r7)=true then
   some (Sum.inr (Sum.inl ()))
  else
   some (Sum.inl (Z4 (v3+1)))
 else
  some (Sum.inr (Sum.inr ()))

def Z2n (a1:List ZF) (a2:ZQ):Option (Bool):=
 (Z8 (Z0E a1 a2) 0).bind fun r11=>match r11 with
 |Sum.inl ()=>
  some false
 |Sum.inr ()=>
  some true

def UK (a1:List ZF) (a2:Int):Option (Bool):=
 if(decide (a2≥0))=true then
  some (decide (a2<(a1.length:Int)))
 else
  some false

def Z0F (a1:ZQ) (a2:ZF):Option (Bool):=
 (nth a1.n.devices a2.dev).bind fun x3=>
 some (x3.vtep !=0)

def Z0G (a1:List Int) (a2:Int) (v3:Int):Option ((Int)⊕(Int⊕Unit)):=
 if(decide (v3<(a1.length:Int)))=true then
  (nth a1 v3).bind fun x5=>
  if(a2==x5)=true then
   some (Sum.inr (Sum.inl v3))
  else
   some (Sum.inl (Z4 (v3+1)))
 else
  some (Sum.inr (Sum.inr ()))

def TX (a1:List Int) (a2:Int):Option (Int):=
 (Z8 (Z0G a1 a2) 0).bind fun r11=>match r11 with
 |Sum.inl v9=>
  some v9
 |Sum.inr ()=>
  some (-1)

def U7 (a1:List Int) (a2:Int):Option (Bool):=
 (TX a1 a2).bind fun r3=>
 some (decide (r3≥0))

def Z2o (a1:ZQ) (a2:Int) (a3:ZF) (a4:Int):Option (Bool):=
 (UK a1.n.domains a4).bind fun r5=>
 if(!r5)=true then
  some false
 else
  if(a4==a2)=true then
   some false
  else
   (nth a1.n.domains a4).bind fun x9=>
   (U6 a1.n.devices x9.dev).bind fun r11=>
   if(r11)=true then
    if(x9.dev !=a3.dev)=true then
     if(x9.vni==a3.vni)=true then
      if(a3.vni !=0)=true then
       (Z0F a1 x9).bind fun r17=>
       if(r17)=true then
        (Z0F a1 a3).bind fun r20=>
        if(r20)=true then
         (U7 x9.peers a2).bind fun r23=>
         some r23
        else
         some false
       else
        some false
      else
       some false
     else
      some false
    else
     some false
   else
    some false

def Z4Z (a1:Int) (a2:Int) (a3:ZQ) (a4:Int) (a5:ZF):Option (Bool):=
 (Z2o a3 a4 a5 a2).bind fun r6=>
 if(r6)=true then
  (TX a5.peers a2).bind fun r9=>
  some (r9==a1)
 else
  some false

def Z0H (a1:List Int) (a2:ZQ) (a3:Int) (a4:ZF) (v5:Int):Option ((Int)⊕(Unit⊕Unit)):=
 if(decide (v5<(a1.length:Int)))=true then
  (nth a1 v5).bind fun x7=>
  (Z4Z v5 x7 a2 a3 a4).bind fun r9=>
  if(!r9)=true then
   some (Sum.inr (Sum.inl ()))
  else
   some (Sum.inl (Z4 (v5+1)))
 else
  some (Sum.inr (Sum.inr ()))

def Z50 (a1:List Int) (a2:ZQ) (a3:Int) (a4:ZF):Option (Bool):=
 (Z8 (Z0H a1 a2 a3 a4) 0).bind fun r13=>match r13 with
 |Sum.inl ()=>
  some false
 |Sum.inr ()=>
  some true

def Z2p (a1:ZQ) (a2:Int) (a3:ZF):Option (Bool):=
 (Z50 a3.peers a1 a2 a3).bind fun r4=>
 some r4

def Z0I (a1:List ZF) (a2:ZQ) (v3:Int):Option ((Int)⊕(Unit⊕Unit)):=
 if(decide (v3<(a1.length:Int)))=true then
  (nth a1 v3).bind fun x5=>
  (Z2p a2 v3 x5).bind fun r7=>
  if(!r7)=true then
   some (Sum.inr (Sum.inl ()))
  else
   some (Sum.inl (Z4 (v3+1)))
 else
  some (Sum.inr (Sum.inr ()))

def Z2q (a1:List ZF) (a2:ZQ):Option (Bool):=
 (Z8 (Z0I a1 a2) 0).bind fun r11=>match r11 with
 |Sum.inl ()=>
  some false
 |Sum.inr ()=>
  some true

def TY (a1:List Int) (a2:Int) (a3:Int) (v4:Int):Option ((Int)⊕(Unit⊕Unit)):=
 if(decide (v4<(a1.length:Int)))=true then
  (nth a1 v4).bind fun x6=>
  if(decide (x6<a2))=true then
   some (Sum.inr (Sum.inl ()))
  else
   if(decide (x6>a3))=true then
    some (Sum.inr (Sum.inl ()))
   else
    if(decide (v4>0))=true then
     (nth a1 (Z4 (v4-1))).bind fun x11=>
     if(decide (x11≥x6))=true then
      some (Sum.inr (Sum.inl ()))
     else
      some (Sum.inl (Z4 (v4+1)))
    else
     some (Sum.inl (Z4 (v4+1)))
 else
  some (Sum.inr (Sum.inr ()))

def Z2r (a1:List Int) (a2:Int) (a3:Int):Option (Bool):=
 (Z8 (TY a1 a2 a3) 0).bind fun r15=>match r15 with
 |Sum.inl ()=>
  some false
 |Sum.inr ()=>
  if(decide ((a1.length:Int) >0))=true then
   some (decide ((a1.length:Int)≤16))
  else
   some false

def TZ (a1:List Int) (a2:Int):Option (Bool):=
 if((a1.length:Int)==0)=true then
  some true
 else
  (Z2r a1 1 a2).bind fun r4=>
  some r4

def Z2s (a1:List Yt) (a2:Int):Option (Bool):=
 if(decide (a2≥0))=true then
  some (decide (a2<(a1.length:Int)))
 else
  some false

def Z51 (a1:ZQ) (a2:Int) (a3:ZO):Option (Unit⊕Unit):=
 (U6 a1.n.devices a3.dev).bind fun r4=>
 if(!r4)=true then
  some (Sum.inl ())
 else
  if(decide (a3.native<0))=true then
   some (Sum.inl ())
  else
   if(decide (a3.native>4094))=true then
    some (Sum.inl ())
   else
    (TZ a3.tagged 4094).bind fun r9=>
    if(!r9)=true then
     some (Sum.inl ())
    else
     (U7 a3.tagged a3.native).bind fun r12=>
     if(r12)=true then
      some (Sum.inl ())
     else
      if(a3.native==0)=true then
       if((a3.tagged.length:Int)==0)=true then
        some (Sum.inl ())
       else
        some (Sum.inr ())
      else
       some (Sum.inr ())

def Q0 (a1:ZQ) (a2:Int) (a3:ZO) (v19:Int):Option ((Int)⊕(Unit⊕Unit)):=
 if(decide (v19<(a3.tagged.length:Int)))=true then
  (nth a3.tagged v19).bind fun x21=>
  (UJ a1 a3.dev x21).bind fun r23=>
  if(decide (r23<0))=true then
   some (Sum.inr (Sum.inl ()))
  else
   some (Sum.inl (Z4 (v19+1)))
 else
  some (Sum.inr (Sum.inr ()))

def Z52 (a1:ZQ) (a2:Int) (a3:ZO):Option (Unit⊕Unit):=
 if(decide (a3.native>0))=true then
  (UJ a1 a3.dev a3.native).bind fun r29=>
  if(decide (r29<0))=true then
   some (Sum.inl ())
  else
   some (Sum.inr ())
 else
  some (Sum.inr ())

def Z2t (a1:ZQ) (a2:Int) (a3:ZO):Option (Bool):=
 (Z51 a1 a2 a3).bind fun r18=>match r18 with
 |Sum.inl ()=>
  some false
 |Sum.inr ()=>
  (Z8 (Q0 a1 a2 a3) 0).bind fun r27=>match r27 with
  |Sum.inl ()=>
   some false
  |Sum.inr ()=>
   (Z52 a1 a2 a3).bind fun r33=>match r33 with
   |Sum.inl ()=>
    some false
   |Sum.inr ()=>
    if(a3.link==(-1))=true then
     some true
    else
     (Z2s a1.n.links a3.link).bind fun r35=>
     if(r35)=true then
      (nth a1.n.links a3.link).bind fun x38=>
      if(x38.a==a2)=true then
       some true
      else
       (nth a1.n.links a3.link).bind fun x41=>
       some (x41.b==a2)
     else
      some false

def Z0J (a1:List ZO) (a2:ZQ) (v3:Int):Option ((Int)⊕(Unit⊕Unit)):=
 if(decide (v3<(a1.length:Int)))=true then
  (nth a1 v3).bind fun x5=>
  (Z2t a2 v3 x5).bind fun r7=>
  if(!r7)=true then
   some (Sum.inr (Sum.inl ()))
  else
   some (Sum.inl (Z4 (v3+1)))
 else
  some (Sum.inr (Sum.inr ()))

def Z2u (a1:List ZO) (a2:ZQ):Option (Bool):=
 (Z8 (Z0J a1 a2) 0).bind fun r11=>match r11 with
 |Sum.inl ()=>
  some false
 |Sum.inr ()=>
  some true

def Q1 (a1:List ZO) (a2:Int):Option (Bool):=
 if(decide (a2≥0))=true then
  some (decide (a2<(a1.length:Int)))
 else
  some false

def Z2v (a1:ZQ) (a2:Int) (a3:Yt):Option (Bool):=
 (Q1 a1.n.ports a3.a).bind fun r4=>
 if(!r4)=true then
  some false
 else
  (Q1 a1.n.ports a3.b).bind fun r7=>
  if(!r7)=true then
   some false
  else
   (nth a1.n.ports a3.a).bind fun x10=>
   (nth a1.n.ports a3.b).bind fun x12=>
   if(x10.dev !=x12.dev)=true then
    if(x10.link==a2)=true then
     some (x12.link==a2)
    else
     some false
   else
    some false

def Z0K (a1:List Yt) (a2:ZQ) (v3:Int):Option ((Int)⊕(Unit⊕Unit)):=
 if(decide (v3<(a1.length:Int)))=true then
  (nth a1 v3).bind fun x5=>
  (Z2v a2 v3 x5).bind fun r7=>
  if(!r7)=true then
   some (Sum.inr (Sum.inl ()))
  else
   some (Sum.inl (Z4 (v3+1)))
 else
  some (Sum.inr (Sum.inr ()))

def Z2w (a1:List Yt) (a2:ZQ):Option (Bool):=
 (Z8 (Z0K a1 a2) 0).bind fun r11=>match r11 with
 |Sum.inl ()=>
  some false
 |Sum.inr ()=>
  some true

def Q2 (a1:ZO) (a2:Int):Option (Bool):=
 if(a2 !=0)=true then
  if(a2==a1.native)=true then
   some true
  else
   (U7 a1.tagged a2).bind fun r5=>
   some r5
 else
  some false

def Z2x (a1:ZQ) (a2:Int) (a3:Yz):Option (Bool):=
 (UK a1.n.domains a3.domain).bind fun r4=>
 if(!r4)=true then
  some false
 else
  (Q1 a1.n.ports a3.port).bind fun r7=>
  if(!r7)=true then
   some false
  else
   (nth a1.n.ports a3.port).bind fun x10=>
   (nth a1.n.domains a3.domain).bind fun x12=>
   if(x10.dev==x12.dev)=true then
    (Q2 x10 x12.vlan).bind fun r15=>
    some r15
   else
    some false

def Z0L (a1:List Yz) (a2:ZQ) (v3:Int):Option ((Int)⊕(Unit⊕Unit)):=
 if(decide (v3<(a1.length:Int)))=true then
  (nth a1 v3).bind fun x5=>
  (Z2x a2 v3 x5).bind fun r7=>
  if(!r7)=true then
   some (Sum.inr (Sum.inl ()))
  else
   some (Sum.inl (Z4 (v3+1)))
 else
  some (Sum.inr (Sum.inr ()))

def Z2y (a1:List Yz) (a2:ZQ):Option (Bool):=
 (Z8 (Z0L a1 a2) 0).bind fun r11=>match r11 with
 |Sum.inl ()=>
  some false
 |Sum.inr ()=>
  some true

def Z2z (a1:Int) (a2:YA) (a3:Z2):Option (Bool):=
 (U6 a3.devices a2.dev).bind fun r4=>
 if(r4)=true then
  some (decide ((a2.addrs.length:Int)≤16))
 else
  some false

def Z0M (a1:List YA) (a2:Z2) (v3:Int):Option ((Int)⊕(Unit⊕Unit)):=
 if(decide (v3<(a1.length:Int)))=true then
  (nth a1 v3).bind fun x5=>
  (Z2z v3 x5 a2).bind fun r7=>
  if(!r7)=true then
   some (Sum.inr (Sum.inl ()))
  else
   some (Sum.inl (Z4 (v3+1)))
 else
  some (Sum.inr (Sum.inr ()))

def Z2A (a1:List YA) (a2:Z2):Option (Bool):=
 (Z8 (Z0M a1 a2) 0).bind fun r11=>match r11 with
 |Sum.inl ()=>
  some false
 |Sum.inr ()=>
  some true

def Z2B (a1:Int) (a2:Yh) (a3:Z2):Option (Bool):=
 (U6 a3.devices a2.dev).bind fun r4=>
 if(r4)=true then
  (TZ a2.imports 65535).bind fun r7=>
  if(r7)=true then
   (TZ a2.exports 65535).bind fun r10=>
   some r10
  else
   some false
 else
  some false

def Z0N (a1:List Yh) (a2:Z2) (v3:Int):Option ((Int)⊕(Unit⊕Unit)):=
 if(decide (v3<(a1.length:Int)))=true then
  (nth a1 v3).bind fun x5=>
  (Z2B v3 x5 a2).bind fun r7=>
  if(!r7)=true then
   some (Sum.inr (Sum.inl ()))
  else
   some (Sum.inl (Z4 (v3+1)))
 else
  some (Sum.inr (Sum.inr ()))

def Z2C (a1:List Yh) (a2:Z2):Option (Bool):=
 (Z8 (Z0N a1 a2) 0).bind fun r11=>match r11 with
 |Sum.inl ()=>
  some false
 |Sum.inr ()=>
  some true

def Z2D (a1:List Yh) (a2:Int):Option (Bool):=
 if(decide (a2≥0))=true then
  some (decide (a2<(a1.length:Int)))
 else
  some false

def Z2E (a1:ZQ) (a2:Int) (a3:Y3):Option (Bool):=
 (UK a1.n.domains a3.domain).bind fun r4=>
 if(r4)=true then
  (Z2D a1.n.vrfs a3.vrf).bind fun r7=>
  if(r7)=true then
   (nth a1.n.domains a3.domain).bind fun x10=>
   (nth a1.n.vrfs a3.vrf).bind fun x12=>
   if(x10.dev==x12.dev)=true then
    (nth a1.n.domains a3.domain).bind fun x15=>
    if(x15.irb==a2)=true then
     if(decide (a3.net.bits≥1))=true then
      some (decide (a3.net.bits≤30))
     else
      some false
    else
     some false
   else
    some false
  else
   some false
 else
  some false

def Z0O (a1:List Y3) (a2:ZQ) (v3:Int):Option ((Int)⊕(Unit⊕Unit)):=
 if(decide (v3<(a1.length:Int)))=true then
  (nth a1 v3).bind fun x5=>
  (Z2E a2 v3 x5).bind fun r7=>
  if(!r7)=true then
   some (Sum.inr (Sum.inl ()))
  else
   some (Sum.inl (Z4 (v3+1)))
 else
  some (Sum.inr (Sum.inr ()))

def Z2F (a1:List Y3) (a2:ZQ):Option (Bool):=
 (Z8 (Z0O a1 a2) 0).bind fun r11=>match r11 with
 |Sum.inl ()=>
  some false
 |Sum.inr ()=>
  some true

def Wo (a1:Z2):Option (Bool):=
 (Z2j (⟨a1⟩:ZQ)).bind fun r2=>
 if(r2)=true then
  (Z2n a1.domains (⟨a1⟩:ZQ)).bind fun r5=>
  if(r5)=true then
   (Z2q a1.domains (⟨a1⟩:ZQ)).bind fun r8=>
   if(r8)=true then
    (Z2u a1.ports (⟨a1⟩:ZQ)).bind fun r11=>
    if(r11)=true then
     (Z2w a1.links (⟨a1⟩:ZQ)).bind fun r14=>
     if(r14)=true then
      (Z2y a1.statics (⟨a1⟩:ZQ)).bind fun r17=>
      if(r17)=true then
       (Z2A a1.floods a1).bind fun r20=>
       if(r20)=true then
        (Z2C a1.vrfs a1).bind fun r23=>
        if(r23)=true then
         (Z2F a1.irbs (⟨a1⟩:ZQ)).bind fun r26=>
         some r26
        else
         some false
       else
        some false
      else
       some false
     else
      some false
    else
     some false
   else
    some false
  else
   some false
 else
  some false

def Q3 (a1:Z2) (a2:List Int) (v7:Int):Option ((Int)⊕(Unit⊕Unit)):=
 if(decide (v7<(a2.length:Int)))=true then
  (nth a2 v7).bind fun x9=>
  (nth a1.ports v7).bind fun x11=>
  if(decide (x11.link≥0))=true then
   if(x9 !=(-1))=true then
    some (Sum.inr (Sum.inl ()))
   else
    if(!(decide (x11.link≥0)))=true then
     if(decide (x9<0))=true then
      some (Sum.inr (Sum.inl ()))
     else
      if(decide (x9≥10))=true then
       some (Sum.inr (Sum.inl ()))
      else
       some (Sum.inl (Z4 (v7+1)))
    else
     some (Sum.inl (Z4 (v7+1)))
  else
   if(!(decide (x11.link≥0)))=true then
    if(decide (x9<0))=true then
     some (Sum.inr (Sum.inl ()))
    else
     if(decide (x9≥10))=true then
      some (Sum.inr (Sum.inl ()))
     else
      some (Sum.inl (Z4 (v7+1)))
   else
    some (Sum.inl (Z4 (v7+1)))
 else
  some (Sum.inr (Sum.inr ()))

def Z0P (a1:Z2) (a2:List Int):Option (Bool):=
 if((a2.length:Int) !=(a1.ports.length:Int))=true then
  some false
 else
  (Wo a1).bind fun r4=>
  if(!r4)=true then
   some false
  else
   (Z8 (Q3 a1 a2) 0).bind fun r22=>match r22 with
   |Sum.inl ()=>
    some false
   |Sum.inr ()=>
    some true

def Z53 (a1:Int) (a2:Int):Option (Bool):=
 some (decide (a1≥a2))

def Q4 (a1:List Int) (a2:Int) (v3:Int):Option ((Int)⊕(Int⊕Unit)):=
 if(decide (v3<(a1.length:Int)))=true then
  (nth a1 v3).bind fun x5=>
  (Z53 x5 a2).bind fun r7=>
  if(r7)=true then
   some (Sum.inr (Sum.inl v3))
  else
   some (Sum.inl (Z4 (v3+1)))
 else
  some (Sum.inr (Sum.inr ()))

def Z54 (a1:List Int) (a2:Int):Option (Int):=
 (Z8 (Q4 a1 a2) 0).bind fun r13=>match r13 with
 |Sum.inl v11=>
  some v11
 |Sum.inr ()=>
  some (-1)

def Z55 (a1:List Int) (a2:Int):Option (Bool):=
 (Z54 a1 a2).bind fun r3=>
 some (decide (r3≥0))

def Z2G (a1:Z2) (a2:List Int) (a3:Int):Option (Bool):=
 if(decide (a3<0))=true then
  some false
 else
  if(decide (a3>10))=true then
   some false
  else
   (Z0P a1 a2).bind fun r6=>
   if(!r6)=true then
    some false
   else
    (Z55 a2 a3).bind fun r9=>
    some (!r9)

def Z2H (a1:Z2) (a2:Int):Option (Bool):=
 if(decide (a2≥0))=true then
  if(decide (a2<(a1.domains.length:Int)))=true then
   (Wo a1).bind fun r5=>
   some r5
  else
   some false
 else
  some false

def Z0Q (a1:Z2) (a2:Int) (l9:List Int) (v10:Int):Option (((List Int)×Int)⊕((List Int))):=
 if(decide (v10<(a1.ports.length:Int)))=true then
  (nth a1.ports v10).bind fun x12=>
  (nth a1.domains a2).bind fun x14=>
  if(x12.dev==x14.dev)=true then
   (nth a1.domains a2).bind fun x17=>
   (Q2 x12 x17.vlan).bind fun r19=>
   if(r19)=true then
    if(ZZ 8 (l9++ [v10]))=true then
     some (Sum.inl (l9++ [v10],Z4 (v10+1)))
    else
     none
   else
    some (Sum.inl (l9,Z4 (v10+1)))
  else
   some (Sum.inl (l9,Z4 (v10+1)))
 else
  some (Sum.inr l9)

def U8 (a1:Z2) (a2:Int):Option (((List Int))):=
 (Wo a1).bind fun r3=>
 if(!r3)=true then
  some []
 else
  (UK a1.domains a2).bind fun r6=>
  if(!r6)=true then
   some []
  else
   (Z8 (fun s:(List Int)×Int=>match s with|(l9,v10)=>Z0Q a1 a2 l9 v10) ([],0)).bind fun r27=>match r27 with
   |l25=>
    some l25

def Z2I (a1:Z2) (a2:Int):Option (Int):=
 if(decide (a2<0))=true then
  some (-1)
 else
  if(decide (a2≥(a1.ports.length:Int)))=true then
   some (-1)
  else
   (nth a1.ports a2).bind fun x5=>
   if(decide (x5.link<0))=true then
    some (-1)
   else
    (Wo a1).bind fun r8=>
    if(!r8)=true then
     some (-1)
    else
     (nth a1.ports a2).bind fun x11=>
     (nth a1.links x11.link).bind fun x13=>
     if(x13.a==a2)=true then
      some x13.b
     else
      some x13.a

def Z2J (a1:Z2) (a2:Int) (a3:Int):Option (Int×Int×Bool):=
 (Z2I a1 a2).bind fun r4=>
 if(decide (r4<0))=true then
  some (0,0,false)
 else
  (nth a1.ports a2).bind fun x7=>
  (Q2 x7 a3).bind fun r9=>
  if(!r9)=true then
   some (0,0,false)
  else
   (nth a1.ports r4).bind fun x12=>
   (nth a1.ports a2).bind fun x14=>
   if(a3==x14.native)=true then
    if(x12.native==0)=true then
     some (0,0,false)
    else
     some (r4,x12.native,true)
   else
    (U7 x12.tagged a3).bind fun r18=>
    if(r18)=true then
     if(a3==0)=true then
      some (0,0,false)
     else
      some (r4,a3,true)
    else
     if(0==0)=true then
      some (0,0,false)
     else
      some (r4,0,true)

def Z2K (a1:ZF) (a2:Int) (a3:Int):Option (Bool):=
 if(a1.dev==a2)=true then
  some (a1.vlan==a3)
 else
  some false

def Z0R (a1:List ZF) (a2:Int) (a3:Int) (v4:Int):Option ((Int)⊕(Int⊕Unit)):=
 if(decide (v4<(a1.length:Int)))=true then
  (nth a1 v4).bind fun x6=>
  (Z2K x6 a2 a3).bind fun r8=>
  if(r8)=true then
   some (Sum.inr (Sum.inl v4))
  else
   some (Sum.inl (Z4 (v4+1)))
 else
  some (Sum.inr (Sum.inr ()))

def Z56 (a1:List ZF) (a2:Int) (a3:Int):Option (Int):=
 (Z8 (Z0R a1 a2 a3) 0).bind fun r14=>match r14 with
 |Sum.inl v12=>
  some v12
 |Sum.inr ()=>
  some (-1)

def Z57 (a1:Z2) (a2:List ZF) (a3:Int) (a4:Int):Option (Int):=
 (Wo a1).bind fun r5=>
 if(!r5)=true then
  some (-1)
 else
  (Z56 a2 a3 a4).bind fun r8=>
  some r8

def Z2L (a1:Z2) (a2:Int) (a3:Int):Option (Int):=
 (Z57 a1 a1.domains a2 a3).bind fun r4=>
 some r4

def Z0S (a1:Z2) (a2:Int) (a3:Int):Option (Int×Bool):=
 (Z2J a1 a2 a3).bind fun r4=>
 if(!r4.2.2)=true then
  some (0,false)
 else
  (nth a1.ports r4.1).bind fun x7=>
  (Z2L a1 x7.dev r4.2.1).bind fun r9=>
  some (r9,true)

def Q5 (a1:Z2) (a2:Int) (l8:List Int) (l9:List Y7) (v10:Int):Option (((List Y7)×Int)⊕((List Y7))):=
 if(decide (v10<((List.length l8):Int)))=true then
  if(lin l8 v10)=true then
   (l8[(Int.toNat v10)]?).bind fun x13=>
   (nth a1.domains a2).bind fun x15=>
   (Z0S a1 x13 x15.vlan).bind fun r17=>
   if(r17.2)=true then
    if(ZZ 32 (l9++ [(⟨1,x13,r17.1,0⟩:Y7)]))=true then
     some (Sum.inl (l9++ [(⟨1,x13,r17.1,0⟩:Y7)],Z4 (v10+1)))
    else
     none
   else
    some (Sum.inl (l9,Z4 (v10+1)))
  else
   none
 else
  some (Sum.inr l9)

def Q6 (x28:ZF) (l30:List Y7) (v31:Int):Option (((List Y7)×Int)⊕((List Y7))):=
 if(decide (v31<(x28.peers.length:Int)))=true then
  (nth x28.peers v31).bind fun x33=>
  if(ZZ 32 (l30++ [(⟨2,0,x33,0⟩:Y7)]))=true then
   some (Sum.inl (l30++ [(⟨2,0,x33,0⟩:Y7)],Z4 (v31+1)))
  else
   none
 else
  some (Sum.inr l30)

def Z2M (a1:Z2) (a2:Int):Option (((List Y7))):=
 (Z2H a1 a2).bind fun r3=>
 if(!r3)=true then
  some []
 else
  (U8 a1 a2).bind fun r6=>match r6 with
  |l8=>
   (Z8 (fun s:(List Y7)×Int=>match s with|(l9,v10)=>Q5 a1 a2 l8 l9 v10) ([],0)).bind fun r27=>match r27 with
   |l25=>
    (nth a1.domains a2).bind fun x28=>
    (Z8 (fun s:(List Y7)×Int=>match s with|(l30,v31)=>Q6 x28 l30 v31) (l25,0)).bind fun r40=>match r40 with
    |l38=>
     some l38

def Q7 (l5:List Y7) (l6:List Int) (v7:Int):Option (((List Int)×Int)⊕((List Int))):=
 if(decide (v7<((List.length l5):Int)))=true then
  if(lin l5 v7)=true then
   (l5[(Int.toNat v7)]?).bind fun x10=>
   if(ZZ 8 (l6++ [x10.domain]))=true then
    some (Sum.inl (l6++ [x10.domain],Z4 (v7+1)))
   else
    none
  else
   none
 else
  some (Sum.inr l6)

def Z2N (a1:Z2) (a2:Int):Option (((List Int))):=
 (Z2M a1 a2).bind fun r3=>match r3 with
 |l5=>
  (Z8 (fun s:(List Int)×Int=>match s with|(l6,v7)=>Q7 l5 l6 v7) ([],0)).bind fun r17=>match r17 with
  |l15=>
   some l15

def Q8 (a1:Yc):Option (Bool):=
 if(decide (a1.bits≥0))=true then
  some (decide (a1.bits≤32))
 else
  some false

def Q9 (a1:Yc):Option (Int):=
 if(decide (0≤(Z4 (32-a1.bits))))=true then
  some (Xz ((Xz (1 * 2 ^ (min (Int.toNat (Z4 (32-a1.bits))) 32))) -1))
 else
  none

def Z2O (a1:Yc):Option (Int):=
 (Q8 a1).bind fun r2=>
 if(!r2)=true then
  some 0
 else
  (Q9 a1).bind fun r5=>
  some (Z2g .u32 a1.addr r5)

def Z0T (a1:Yc):Option (Int):=
 (Q8 a1).bind fun r2=>
 if(!r2)=true then
  some 0
 else
  (Q9 a1).bind fun r5=>
  some (Y2 .u32 a1.addr r5)

def UL (a1:Z2) (a2:Int):Option (Int):=
 (nth a1.irbs a2).bind fun x3=>
 (nth a1.domains x3.domain).bind fun x5=>
 some x5.dev

def Z2P (a1:Yc) (a2:Int):Option (Bool):=
 (Q8 a1).bind fun r3=>
 if(r3)=true then
  (Q9 a1).bind fun r6=>
  some ((Z2g .u32 (Z4S .u32 a1.addr a2) r6)==0)
 else
  some false

def Z58 (a1:Int) (a2:Yh):Option (Bool):=
 (U7 a2.imports a1).bind fun r3=>
 some r3

def Z0U (a1:List Int) (a2:Yh) (v3:Int):Option ((Int)⊕(Int⊕Unit)):=
 if(decide (v3<(a1.length:Int)))=true then
  (nth a1 v3).bind fun x5=>
  (Z58 x5 a2).bind fun r7=>
  if(r7)=true then
   some (Sum.inr (Sum.inl v3))
  else
   some (Sum.inl (Z4 (v3+1)))
 else
  some (Sum.inr (Sum.inr ()))

def Z59 (a1:List Int) (a2:Yh):Option (Int):=
 (Z8 (Z0U a1 a2) 0).bind fun r13=>match r13 with
 |Sum.inl v11=>
  some v11
 |Sum.inr ()=>
  some (-1)

def Z2Q (a1:List Int) (a2:Yh):Option (Bool):=
 (Z59 a1 a2).bind fun r3=>
 some (decide (r3≥0))

def Z2R (a1:Z2) (a2:Int) (a3:Int):Option (Bool):=
 if(decide (a2<0))=true then
  some false
 else
  if(decide (a3<0))=true then
   some false
  else
   if(decide (a2≥(a1.vrfs.length:Int)))=true then
    some false
   else
    if(decide (a3≥(a1.vrfs.length:Int)))=true then
     some false
    else
     (Wo a1).bind fun r8=>
     if(!r8)=true then
      some false
     else
      (nth a1.vrfs a2).bind fun x11=>
      (nth a1.vrfs a3).bind fun x13=>
      if(a2==a3)=true then
       some true
      else
       if(x11.dev==x13.dev)=true then
        (Z2Q x11.exports x13).bind fun r17=>
        some r17
       else
        some false

def Z2S (a1:Z2) (a2:Int) (a3:Int):Option (Bool):=
 (UL a1 a2).bind fun r4=>
 (UL a1 a3).bind fun r6=>
 if(r4==r6)=true then
  (nth a1.irbs a3).bind fun x9=>
  (nth a1.irbs a2).bind fun x11=>
  (Z2R a1 x9.vrf x11.vrf).bind fun r13=>
  some r13
 else
  some false

def Z2T (a1:Int) (a2:Z2) (a3:Int):Option (Int):=
 (nth a2.irbs a1).bind fun x4=>
 (nth a2.irbs a3).bind fun x6=>
 if(x4.vrf==x6.vrf)=true then
  some 1
 else
  some 0

def Z2U (a1:Int) (a2:Int) (a3:Z2) (a4:Z2) (a5:Int):Option (Int):=
 (nth a3.irbs a1).bind fun x6=>
 (nth a3.irbs a2).bind fun x8=>
 if(x6.net.bits !=x8.net.bits)=true then
  some (Z4 (x6.net.bits-x8.net.bits))
 else
  (Z2T a1 a4 a5).bind fun r11=>
  (Z2T a2 a4 a5).bind fun r13=>
  some (Z4 (r11-r13))

def Qa (a1:List Int) (a2:Z2) (a3:Z2) (a4:Int) (v8:Int) (v9:Int):Option ((Int×Int)⊕(Int)):=
 if(decide (v9<(a1.length:Int)))=true then
  (nth a1 v9).bind fun x11=>
  (Z2U x11 v8 a2 a3 a4).bind fun r13=>
  if(decide (r13>0))=true then
   (nth a1 v9).bind fun x16=>
   some (Sum.inl (x16,Z4 (v9+1)))
  else
   some (Sum.inl (v8,Z4 (v9+1)))
 else
  some (Sum.inr v8)

def Z2V (a1:List Int) (a2:Z2) (a3:Z2) (a4:Int):Option (Int):=
 if(decide ((a1.length:Int) <1))=true then
  none
 else
  (nth a1 0).bind fun x6=>
  (Z8 (fun s:Int×Int=>match s with|(v8,v9)=>Qa a1 a2 a3 a4 v8 v9) (x6,1)).bind fun r21=>match r21 with
  |v19=>
   some v19

def Z5a (a1:Z2) (a2:Int) (a3:Int) (l4:List Int) (v5:Int) (x7:Y3):Option (Unit⊕Unit):=
 (UL a1 v5).bind fun r9=>
 (UL a1 a2).bind fun r11=>
 if(r9==r11)=true then
  if(x7.net.addr==a3)=true then
   some (Sum.inl ())
  else
   some (Sum.inr ())
 else
  some (Sum.inr ())

def Z0V (a1:Z2) (a2:Int) (a3:Int) (l4:List Int) (v5:Int):Option (((List Int)×Int)⊕(Unit⊕(List Int))):=
 if(decide (v5<(a1.irbs.length:Int)))=true then
  (nth a1.irbs v5).bind fun x7=>
  (Z5a a1 a2 a3 l4 v5 x7).bind fun r16=>match r16 with
  |Sum.inl ()=>
   some (Sum.inr (Sum.inl ()))
  |Sum.inr ()=>
   (Z2P x7.net a3).bind fun r17=>
   if(r17)=true then
    (Z2S a1 a2 v5).bind fun r20=>
    if(r20)=true then
     if(ZZ 8 (l4++ [v5]))=true then
      some (Sum.inl (l4++ [v5],Z4 (v5+1)))
     else
      none
    else
     some (Sum.inl (l4,Z4 (v5+1)))
   else
    some (Sum.inl (l4,Z4 (v5+1)))
 else
  some (Sum.inr (Sum.inr l4))

def Z2W (a1:Z2) (a2:Int) (a3:Int):Option (Int×Bool):=
 (Z8 (fun s:(List Int)×Int=>match s with|(l4,v5)=>Z0V a1 a2 a3 l4 v5) ([],0)).bind fun r31=>match r31 with
 |Sum.inl ()=>
  some (0,false)
 |Sum.inr l29=>
  if(((List.length l29):Int)==0)=true then
   some (0,false)
  else
   (Z2V l29 a1 a1 a2).bind fun r33=>
   some (r33,true)

def UM (a1:Z2) (a2:Int) (a3:Int):Option (Int×Bool):=
 if(decide (a2<0))=true then
  some (0,false)
 else
  if(decide (a2≥(a1.irbs.length:Int)))=true then
   some (0,false)
  else
   (Wo a1).bind fun r6=>
   if(!r6)=true then
    some (0,false)
   else
    (Z2W a1 a2 a3).bind fun r9=>
    some (r9.1,r9.2)

def Z5b (a1:Y3) (a2:Int):Option (Bool):=
 some (a1.net.addr==a2)

def Z0W (a1:List Y3) (a2:Int) (v3:Int):Option ((Int)⊕(Int⊕Unit)):=
 if(decide (v3<(a1.length:Int)))=true then
  (nth a1 v3).bind fun x5=>
  (Z5b x5 a2).bind fun r7=>
  if(r7)=true then
   some (Sum.inr (Sum.inl v3))
  else
   some (Sum.inl (Z4 (v3+1)))
 else
  some (Sum.inr (Sum.inr ()))

def Z5c (a1:List Y3) (a2:Int):Option (Int):=
 (Z8 (Z0W a1 a2) 0).bind fun r13=>match r13 with
 |Sum.inl v11=>
  some v11
 |Sum.inr ()=>
  some (-1)

def Z2X (a1:List Y3) (a2:Int):Option (Bool):=
 (Z5c a1 a2).bind fun r3=>
 some (decide (r3≥0))

def Z5d (a1:Y3) (a2:Int):Option (Bool):=
 some (a1.net.addr==a2)

def Z0X (a1:List Y3) (a2:Int) (v3:Int):Option ((Int)⊕(Int⊕Unit)):=
 if(decide (v3<(a1.length:Int)))=true then
  (nth a1 v3).bind fun x5=>
  (Z5d x5 a2).bind fun r7=>
  if(r7)=true then
   some (Sum.inr (Sum.inl v3))
  else
   some (Sum.inl (Z4 (v3+1)))
 else
  some (Sum.inr (Sum.inr ()))

def Z5e (a1:List Y3) (a2:Int):Option (Int):=
 (Z8 (Z0X a1 a2) 0).bind fun r13=>match r13 with
 |Sum.inl v11=>
  some v11
 |Sum.inr ()=>
  some (-1)

def Z2Y (a1:List Y3) (a2:Int):Option (Bool):=
 (Z5e a1 a2).bind fun r3=>
 some (decide (r3≥0))

def VH (a1:Z2) (a2:Int) (a3:Int):Option (Int):=
 (Z2Y a1.irbs a2).bind fun r4=>
 if(r4)=true then
  some (Z4 ((Z4 a2)+1))
 else
  (nth a1.irbs a3).bind fun x7=>
  (Z0T x7.net).bind fun r9=>
  some (Z4 ((Z4 r9)+1))

def Qb (a1:Z2) (a2:Int) (a3:Int) (r15:Int) (v17:Int):Option ((Int)⊕(Int⊕Unit)):=
 if(decide (v17≤(Z4 r15)))=true then
  (UM a1 a2 (Xz v17)).bind fun r19=>
  (Z2X a1.irbs (Xz v17)).bind fun r21=>
  if(r19.2)=true then
   if(r19.1==a3)=true then
    if(!r21)=true then
     some (Sum.inr (Sum.inl (Xz v17)))
    else
     if(!r19.2)=true then
      (VH a1 (Xz v17) r19.1).bind fun r27=>
      some (Sum.inl r27)
     else
      (VH a1 (Xz v17) r19.1).bind fun r29=>
      some (Sum.inl r29)
   else
    if(!r19.2)=true then
     if(!r21)=true then
      some (Sum.inr (Sum.inr ()))
     else
      (VH a1 (Xz v17) r19.1).bind fun r33=>
      some (Sum.inl r33)
    else
     (VH a1 (Xz v17) r19.1).bind fun r35=>
     some (Sum.inl r35)
  else
   if(!r19.2)=true then
    if(!r21)=true then
     some (Sum.inr (Sum.inr ()))
    else
     (VH a1 (Xz v17) r19.1).bind fun r39=>
     some (Sum.inl r39)
   else
    (VH a1 (Xz v17) r19.1).bind fun r41=>
    some (Sum.inl r41)
 else
  some (Sum.inr (Sum.inr ()))

def Vi (a1:Z2) (a2:Int) (a3:Int):Option (Int×Bool):=
 if(decide (a2<0))=true then
  some (0,false)
 else
  if(decide (a3<0))=true then
   some (0,false)
  else
   if(decide (a2≥(a1.irbs.length:Int)))=true then
    some (0,false)
   else
    if(decide (a3≥(a1.irbs.length:Int)))=true then
     some (0,false)
    else
     (Wo a1).bind fun r8=>
     if(!r8)=true then
      some (0,false)
     else
      (nth a1.irbs a3).bind fun x11=>
      (Z2O x11.net).bind fun r13=>
      (Z0T x11.net).bind fun r15=>
      (Z8 (Qb a1 a2 a3 r15) (Z4 r13)).bind fun r46=>match r46 with
      |Sum.inl v44=>
       some (v44,true)
      |Sum.inr ()=>
       some (0,false)

def Qc (a1:Z2) (a2:Int) (l11:List YH) (v12:Int):Option (((List YH)×Int)⊕((List YH))):=
 if(decide (v12<(a1.irbs.length:Int)))=true then
  (nth a1.irbs v12).bind fun x14=>
  (nth a1.domains a2).bind fun x16=>
  (Vi a1 x16.irb v12).bind fun r18=>
  if(r18.2)=true then
   if(ZZ 24 (l11++ [(⟨v12,x14.domain,r18.1⟩:YH)]))=true then
    some (Sum.inl (l11++ [(⟨v12,x14.domain,r18.1⟩:YH)],Z4 (v12+1)))
   else
    none
  else
   some (Sum.inl (l11,Z4 (v12+1)))
 else
  some (Sum.inr l11)

def VI (a1:Z2) (a2:Int):Option (((List YH))):=
 if(decide (a2<0))=true then
  some []
 else
  if(decide (a2≥(a1.domains.length:Int)))=true then
   some []
  else
   (nth a1.domains a2).bind fun x5=>
   if(decide (x5.irb<0))=true then
    some []
   else
    (Wo a1).bind fun r8=>
    if(!r8)=true then
     some []
    else
     (Z8 (fun s:(List YH)×Int=>match s with|(l11,v12)=>Qc a1 a2 l11 v12) ([],0)).bind fun r26=>match r26 with
     |l24=>
      some l24

def U9 (l5:List YH) (l6:List Int) (v7:Int):Option (((List Int)×Int)⊕((List Int))):=
 if(decide (v7<((List.length l5):Int)))=true then
  if(lin l5 v7)=true then
   (l5[(Int.toNat v7)]?).bind fun x10=>
   if(ZZ 8 (l6++ [x10.domain]))=true then
    some (Sum.inl (l6++ [x10.domain],Z4 (v7+1)))
   else
    none
  else
   none
 else
  some (Sum.inr l6)

def Z2Z (a1:Z2) (a2:Int):Option (((List Int))):=
 (VI a1 a2).bind fun r3=>match r3 with
 |l5=>
  (Z8 (fun s:(List Int)×Int=>match s with|(l6,v7)=>U9 l5 l6 v7) ([],0)).bind fun r17=>match r17 with
  |l15=>
   some l15

def UN (a1:Z2) (l3:List (List Int)) (l4:List (List Int)) (v5:Int):Option (((List (List Int))×(List (List Int))×Int)⊕(((List (List Int))×(List (List Int))))):=
 if(decide (v5<(a1.domains.length:Int)))=true then
  (Z2N a1 v5).bind fun r7=>match r7 with
  |l9=>
   if(ZZ 24 (l3++ [l9]))=true then
    (Z2Z a1 v5).bind fun r11=>match r11 with
    |l13=>
     if(ZZ 24 (l4++ [l13]))=true then
      some (Sum.inl (l3++ [l9],l4++ [l13],Z4 (v5+1)))
     else
      none
   else
    none
 else
  some (Sum.inr (l3,l4))

def Z30 (a1:Z2):Option (((List (List Int))×(List (List Int)))):=
 if(XY 16 (a1.domains.length:Int) (a1.domains.length:Int))=true then
  (Z8 (fun s:(List (List Int))×(List (List Int))×Int=>match s with|(l3,l4,v5)=>UN a1 l3 l4 v5) ([],[],0)).bind fun r22=>match r22 with
  |(l19,l20)=>
   some (l19,l20)
 else
  none

def Z31 (a1:List Yy) (a2:List ZO) (a3:List Yt) (a4:List ZF) (a5:List Yz) (a6:List YA) (a7:List Yh) (a8:List Y3) (a9:List Z9) (n10:Nat) (a11:List Zw) (a12:List (List Int)) (a13:List (List Int)) (a14:Int) (a15:Z9):Option (((List Z9)×(List Zw))):=
 if(lin a9 a14)=true then
  (a9[(Int.toNat a14)]?).bind fun x17=>
  if(!(Z4X (⟨Y2 .i64 x17.plain a15.plain,Y2 .i64 x17.led a15.led⟩:Z9) x17))=true then
   (a9[(Int.toNat a14)]?).bind fun x20=>
   if(ZZ 16 (a11++ [(⟨(⟨a14⟩:YX),false⟩:Zw)]))=true then
    some (List.set a9 (Int.toNat a14) (⟨Y2 .i64 x17.plain a15.plain,Y2 .i64 x17.led a15.led⟩:Z9),a11++ [(⟨(⟨a14⟩:YX),false⟩:Zw)])
   else
    none
  else
   some (a9,a11)
 else
  none

def Z0Y (a1:List Yy) (a2:List ZO) (a3:List Yt) (a4:List ZF) (a5:List Yz) (a6:List YA) (a7:List Yh) (a8:List Y3) (a9:List Z9) (n10:Nat) (a11:List Zw) (n12:Nat) (a13:List (List Int)) (a14:List (List Int)) (a15:Int) (a16:Z9):Option (((List Z9)×(List Zw)×Nat)):=
 if(lin a9 a15)=true then
  (a9[(Int.toNat a15)]?).bind fun x18=>
  if(!(Z4X (⟨Y2 .i64 x18.plain a16.plain,Y2 .i64 x18.led a16.led⟩:Z9) x18))=true then
   (a9[(Int.toNat a15)]?).bind fun x21=>
   if(ZZ 16 (a11++ [(⟨(⟨a15⟩:YX),false⟩:Zw)]))=true then
    some (List.set a9 (Int.toNat a15) (⟨Y2 .i64 x18.plain a16.plain,Y2 .i64 x18.led a16.led⟩:Z9),a11++ [(⟨(⟨a15⟩:YX),false⟩:Zw)],(List.length (a11++ [(⟨(⟨a15⟩:YX),false⟩:Zw)])))
   else
    none
  else
   some (a9,a11,n12)
 else
  none

def Qd (a1:List Yy) (a2:List ZO) (a3:List Yt) (a4:List ZF) (a5:List Yz) (a6:List YA) (a7:List Yh) (a8:List Y3) (n10:Nat) (a12:List (List Int)) (a13:List (List Int)) (v17:Int) (x26:Zw) (x29:Z9) (x32:List Int) (l34:List Z9) (l35:List Zw) (n36:Nat) (v37:Int):Option (((List Z9)×(List Zw)×Nat×Int)⊕(((List Z9)×(List Zw)×Nat))):=
 if(decide (v37<(x32.length:Int)))=true then
  (nth x32 v37).bind fun x39=>
  (Z0Y a1 a2 a3 a4 a5 a6 a7 a8 l34 n10 l35 n36 a12 a13 x39 x29).bind fun r41=>match r41 with
  |(l43,l44,n45)=>
   some (Sum.inl (l43,l44,n45,Z4 (v37+1)))
 else
  some (Sum.inr (l34,l35,n36))

def Qe (a1:List Yy) (a2:List ZO) (a3:List Yt) (a4:List ZF) (a5:List Yz) (a6:List YA) (a7:List Yh) (a8:List Y3) (n10:Nat) (a12:List (List Int)) (a13:List (List Int)) (v17:Int) (x29:Z9) (x64:List Int) (l66:List Z9) (l67:List Zw) (n68:Nat) (v69:Int):Option (((List Z9)×(List Zw)×Nat×Int)⊕(((List Z9)×(List Zw)×Nat))):=
 if(decide (v69<(x64.length:Int)))=true then
  (nth x64 v69).bind fun x71=>
  (Z0Y a1 a2 a3 a4 a5 a6 a7 a8 l66 n10 l67 n68 a12 a13 x71 (⟨0,x29.plain⟩:Z9)).bind fun r73=>match r73 with
  |(l75,l76,n77)=>
   some (Sum.inl (l75,l76,n77,Z4 (v69+1)))
 else
  some (Sum.inr (l66,l67,n68))

def Qf (a1:List Yy) (a2:List ZO) (a3:List Yt) (a4:List ZF) (a5:List Yz) (a6:List YA) (a7:List Yh) (a8:List Y3) (n10:Nat) (a12:List (List Int)) (a13:List (List Int)) (l14:List Z9) (l15:List Zw) (n16:Nat) (v17:Int):Option (((List Z9)×(List Zw)×Nat×Int)⊕(((List Z9)×(List Zw)×Nat))):=
 if(decide (v17<(n16:Int)))=true then
  if(lin l15 v17)=true then
   (l15[(Int.toNat v17)]?).bind fun x20=>
   if(x20.done)=true then
    some (Sum.inl (l14,l15,n16,Z4 (v17+1)))
   else
    (l15[(Int.toNat v17)]?).bind fun x23=>
    if(lin (List.set l15 (Int.toNat v17) (⟨x23.task,true⟩:Zw)) v17)=true then
     ((List.set l15 (Int.toNat v17) (⟨x23.task,true⟩:Zw))[(Int.toNat v17)]?).bind fun x26=>
     if(lin l14 x26.task.domain)=true then
      (l14[(Int.toNat x26.task.domain)]?).bind fun x29=>
      if(lin a12 x26.task.domain)=true then
       (a12[(Int.toNat x26.task.domain)]?).bind fun x32=>
       (Z8 (fun s:(List Z9)×(List Zw)×Nat×Int=>match s with|(l34,l35,n36,v37)=>Qd a1 a2 a3 a4 a5 a6 a7 a8 n10 a12 a13 v17 x26 x29 x32 l34 l35 n36 v37) (l14,List.set l15 (Int.toNat v17) (⟨x23.task,true⟩:Zw),n16,0)).bind fun r62=>match r62 with
       |(l58,l59,n60)=>
        if(lin a13 x26.task.domain)=true then
         (a13[(Int.toNat x26.task.domain)]?).bind fun x64=>
         (Z8 (fun s:(List Z9)×(List Zw)×Nat×Int=>match s with|(l66,l67,n68,v69)=>Qe a1 a2 a3 a4 a5 a6 a7 a8 n10 a12 a13 v17 x29 x64 l66 l67 n68 v69) (l58,l59,n60,0)).bind fun r88=>match r88 with
         |(l84,l85,n86)=>
          some (Sum.inl (l84,l85,n86,Z4 (v17+1)))
        else
         none
      else
       none
     else
      none
    else
     none
  else
   none
 else
  some (Sum.inr (l14,l15,n16))

def Z32 (a1:List Yy) (a2:List ZO) (a3:List Yt) (a4:List ZF) (a5:List Yz) (a6:List YA) (a7:List Yh) (a8:List Y3) (a9:List Z9) (n10:Nat) (a11:List Zw) (a12:List (List Int)) (a13:List (List Int)):Option (((List Z9)×(List Zw)×Nat)):=
 (Z8 (fun s:(List Z9)×(List Zw)×Nat×Int=>match s with|(l14,l15,n16,v17)=>Qf a1 a2 a3 a4 a5 a6 a7 a8 n10 a12 a13 l14 l15 n16 v17) (a9,a11,(List.length a11),0)).bind fun r93=>match r93 with
 |(l89,l90,n91)=>
  some (l89,l90,n91)

def Ua (a1:Z2) (a2:List Int) (l8:List (List Int)) (l9:List (List Int)) (v12:Int) (l16:List Int) (l17:List Z9) (l18:List Zw) (v19:Int):Option (((List Z9)×(List Zw)×Int)⊕(((List Z9)×(List Zw)))):=
 if(decide (v19<((List.length l16):Int)))=true then
  if(lin l16 v19)=true then
   (l16[(Int.toNat v19)]?).bind fun x22=>
   (nth a2 x22).bind fun x24=>
   if(decide (x24≥0))=true then
    (nth a2 x22).bind fun x27=>
    if(decide (0≤x27))=true then
     (Z31 a1.devices a1.ports a1.links a1.domains a1.statics a1.floods a1.vrfs a1.irbs l17 (Int.toNat (a1.domains.length:Int)) l18 l8 l9 v12 (⟨Z4 (1 * 2 ^ (min (Int.toNat x27) 64)),0⟩:Z9)).bind fun r30=>match r30 with
     |(l32,l33)=>
      some (Sum.inl (l32,l33,Z4 (v19+1)))
    else
     none
   else
    some (Sum.inl (l17,l18,Z4 (v19+1)))
  else
   none
 else
  some (Sum.inr (l17,l18))

def Qg (a1:Z2) (a2:List Int) (l8:List (List Int)) (l9:List (List Int)) (l10:List Z9) (l11:List Zw) (v12:Int):Option (((List Z9)×(List Zw)×Int)⊕(((List Z9)×(List Zw)))):=
 if(decide (v12<(a1.domains.length:Int)))=true then
  (U8 a1 v12).bind fun r14=>match r14 with
  |l16=>
   (Z8 (fun s:(List Z9)×(List Zw)×Int=>match s with|(l17,l18,v19)=>Ua a1 a2 l8 l9 v12 l16 l17 l18 v19) (l10,l11,0)).bind fun r51=>match r51 with
   |(l48,l49)=>
    some (Sum.inl (l48,l49,Z4 (v12+1)))
 else
  some (Sum.inr (l10,l11))

def Ub (a1:Z2) (a2:List Int):Option (((List Z9)×Nat×Bool)):=
 (Z0P a1 a2).bind fun r3=>
 if(!r3)=true then
  some ([],0,false)
 else
  (Z30 a1).bind fun r6=>match r6 with
  |(l8,l9)=>
   (Z8 (fun s:(List Z9)×(List Zw)×Int=>match s with|(l10,l11,v12)=>Qg a1 a2 l8 l9 l10 l11 v12) (List.replicate (Int.toNat (a1.domains.length:Int)) (⟨0,0⟩:Z9),[],0)).bind fun r61=>match r61 with
   |(l58,l59)=>
    (Z32 a1.devices a1.ports a1.links a1.domains a1.statics a1.floods a1.vrfs a1.irbs l58 (Int.toNat (a1.domains.length:Int)) l59 l8 l9).bind fun r62=>match r62 with
    |(l64,l65,n66)=>
     some (l64,(Int.toNat (a1.domains.length:Int)),true)

def Uc (a1:Z2) (a2:List Int) (l5:List Z9) (n6:Nat) (v11:Int) (x14:Z9) (l18:List Int) (l19:List Int) (v20:Int):Option (((List Int)×Int)⊕((List Int))):=
 if(decide (v20<((List.length l18):Int)))=true then
  if(lin l18 v20)=true then
   (l18[(Int.toNat v20)]?).bind fun x23=>
   (nth a2 x23).bind fun x25=>
   if(decide (x25≥0))=true then
    if(lin l19 x23)=true then
     (l19[(Int.toNat x23)]?).bind fun x29=>
     (l19[(Int.toNat x23)]?).bind fun x31=>
     some (Sum.inl (List.set l19 (Int.toNat x23) (Y2 .i64 x29 (Y2 .i64 x14.plain x14.led):Int),Z4 (v20+1)))
    else
     none
   else
    some (Sum.inl (l19,Z4 (v20+1)))
  else
   none
 else
  some (Sum.inr l19)

def Qh (a1:Z2) (a2:List Int) (l5:List Z9) (n6:Nat) (l10:List Int) (v11:Int):Option (((List Int)×Int)⊕((List Int))):=
 if(decide (v11<(n6:Int)))=true then
  if(lin l5 v11)=true then
   (l5[(Int.toNat v11)]?).bind fun x14=>
   (U8 a1 v11).bind fun r16=>match r16 with
   |l18=>
    (Z8 (fun s:(List Int)×Int=>match s with|(l19,v20)=>Uc a1 a2 l5 n6 v11 x14 l18 l19 v20) (l10,0)).bind fun r43=>match r43 with
    |l41=>
     some (Sum.inl (l41,Z4 (v11+1)))
  else
   none
 else
  some (Sum.inr l10)

def Z0Z (a1:Z2) (a2:List Int):Option (((List Int)×Nat×Bool)):=
 (Ub a1 a2).bind fun r3=>match r3 with
 |(l5,n6,v7)=>
  if(!v7)=true then
   some ([],0,false)
  else
   if(XY 8 (a1.ports.length:Int) (a1.ports.length:Int))=true then
    (Z8 (fun s:(List Int)×Int=>match s with|(l10,v11)=>Qh a1 a2 l5 n6 l10 v11) (List.replicate (Int.toNat (a1.ports.length:Int)) (0:Int),0)).bind fun r49=>match r49 with
    |l47=>
     some (l47,(Int.toNat (a1.ports.length:Int)),true)
   else
    none

def Z33:Option (Z6):=
 some (⟨0,(-1),(-1)⟩:Z6)

def Z7k (a1:Int) (a2:Int):Option (Int×Int):=
 some (Y0 ((Y0 ((Y0 ((Int.fdiv a1 (2 ^ 32)) * (Int.fdiv a2 (2 ^ 32))))+(Int.fdiv (Y0 ((Y0 ((Int.fdiv a1 (2 ^ 32)) * (VG .u64 a2 4294967295)))+(Int.fdiv (Y0 ((VG .u64 a1 4294967295) * (VG .u64 a2 4294967295))) (2 ^ 32)))) (2 ^ 32))))+(Int.fdiv (Y0 ((VG .u64 (Y0 ((Y0 ((Int.fdiv a1 (2 ^ 32)) * (VG .u64 a2 4294967295)))+(Int.fdiv (Y0 ((VG .u64 a1 4294967295) * (VG .u64 a2 4294967295))) (2 ^ 32)))) 4294967295)+(Y0 ((VG .u64 a1 4294967295) * (Int.fdiv a2 (2 ^ 32)))))) (2 ^ 32))),Y0 (a1 * a2))

def Z7l (a1:Int) (a2:Int):Option (Int×Int):=
 (Z7k a1 a2).bind fun r3=>
 some (r3.1,r3.2)

def Z5f (r4:Int×Int) (l9:List Z6) (v10:Int):Option (((List Z6)×Int)⊕((List Z6))):=
 if(decide (v10<((Int.toNat (Z4 r4.2)):Int)))=true then
  if(Z0y (List.length l9) v10 ((List.length l9):Int))=true then
   if(Z0y (List.length l9) 0 v10)=true then
    some (Sum.inl (List.take (Int.toNat v10) l9++(List.take (min (List.length (List.drop (Int.toNat 0) (List.take (Int.toNat v10) l9))) ((Int.toNat ((List.length l9):Int)) -(Int.toNat v10))) (List.drop (Int.toNat 0) (List.take (Int.toNat v10) l9))++List.drop ((Int.toNat v10)+(min (List.length (List.drop (Int.toNat 0) (List.take (Int.toNat v10) l9))) ((Int.toNat ((List.length l9):Int)) -(Int.toNat v10)))) l9),Z4 (v10+(((min (List.length (List.drop (Int.toNat 0) (List.take (Int.toNat v10) l9))) ((Int.toNat ((List.length l9):Int)) -(Int.toNat v10))):Nat):Int))))
   else
    none
  else
   none
 else
  some (Sum.inr l9)

def Wp (a1:List Z6) (a2:Int):Option (((List Z6)×Nat)):=
 if(decide (a2<0))=true then
  none
 else
  (Z7l (Y0 (a1.length:Int)) (Y0 a2)).bind fun r4=>
  if(decide (r4.1>0))=true then
   none
  else
   if(decide (r4.2>9223372036854775807))=true then
    none
   else
    if(XY 24 (Z4 r4.2) (Z4 r4.2))=true then
     (Z8 (fun s:(List Z6)×Int=>match s with|(l9,v10)=>Z5f r4 l9 v10) (List.take 0 (List.replicate (Int.toNat (Z4 r4.2)) (⟨0,0,0⟩:Z6))++(List.take (min (List.length a1) ((List.length (List.replicate (Int.toNat (Z4 r4.2)) (⟨0,0,0⟩:Z6))) -0)) a1++List.drop (0+(min (List.length a1) ((List.length (List.replicate (Int.toNat (Z4 r4.2)) (⟨0,0,0⟩:Z6))) -0))) (List.replicate (Int.toNat (Z4 r4.2)) (⟨0,0,0⟩:Z6))),(((min (List.length a1) ((List.length (List.replicate (Int.toNat (Z4 r4.2)) (⟨0,0,0⟩:Z6))) -0)):Nat):Int))).bind fun r18=>match r18 with
     |l16=>
      some (l16,(Int.toNat (Z4 r4.2)))
    else
     none

def UO (a1:Int) (a2:Int):Option (Bool):=
 if(decide (a2≥0))=true then
  if(decide (a2<10))=true then
   if(decide (0≤a2))=true then
    some ((VG .i64 (Int.fdiv a1 (2 ^ (min (Int.toNat a2) 64))) 1)==1)
   else
    none
  else
   some false
 else
  some false

def UP (a1:Int) (l2:List Int) (v3:Int):Option (((List Int)×Int)⊕((List Int))):=
 if(decide (v3<10))=true then
  (UO a1 v3).bind fun r5=>
  if(r5)=true then
   if(ZZ 8 (l2++ [v3]))=true then
    some (Sum.inl (l2++ [v3],Z4 (v3+1)))
   else
    none
  else
   some (Sum.inl (l2,Z4 (v3+1)))
 else
  some (Sum.inr l2)

def Z34 (a1:Int):Option (((List Int))):=
 (Z8 (fun s:(List Int)×Int=>match s with|(l2,v3)=>UP a1 l2 v3) ([],0)).bind fun r13=>match r13 with
 |l11=>
  some l11

def UQ (a2:List Int) (a3:Int) (l9:List Int) (n10:Nat) (l13:List (List Z6)) (p14:List Bool) (v15:Int):Option (((List (List Z6))×(List Bool)×Int)⊕(((List (List Z6))×(List Bool)))):=
 if(decide (v15<((Int.toNat a3):Int)))=true then
  (l13[(Int.toNat v15)]?).bind fun x17=>
  if(UG p14 (Int.toNat v15) false)=true then
   (Z33).bind fun r20=>
   (Wp [r20] a3).bind fun r22=>match r22 with
   |(l24,n25)=>
    if(lin l13 v15)=true then
     some (Sum.inl (List.set l13 (Int.toNat v15) l24,(List.set p14 (Int.toNat v15) true),Z4 (v15+1)))
    else
     none
  else
   none
 else
  some (Sum.inr (l13,p14))

def UR (a2:List Int) (a3:Int) (l9:List Int) (n10:Nat) (v43:Int) (x45:Int) (l53:List Int) (l54:List (List Z6)) (p55:List Bool) (v56:Int):Option (((List (List Z6))×(List Bool)×Int)⊕(((List (List Z6))×(List Bool)))):=
 if(decide (v56<((List.length l53):Int)))=true then
  if(lin l53 v56)=true then
   (l53[(Int.toNat v56)]?).bind fun x59=>
   (l54[(Int.toNat x59)]?).bind fun x61=>
   if(UG p55 (Int.toNat x59) true)=true then
    if(lin l54 x59)=true then
     if(lin x61 x45)=true then
      (x61[(Int.toNat x45)]?).bind fun x66=>
      (Z33).bind fun r68=>
      if(Z7i x66 r68)=true then
       (TX a2 x59).bind fun r71=>
       (x61[(Int.toNat x45)]?).bind fun x73=>
       ((List.set x61 (Int.toNat x45) (⟨x73.ports,r71,x73.to⟩:Z6))[(Int.toNat x45)]?).bind fun x75=>
       ((List.set (List.set x61 (Int.toNat x45) (⟨x73.ports,r71,x73.to⟩:Z6)) (Int.toNat x45) (⟨x75.ports,x75.from_,v43⟩:Z6))[(Int.toNat x45)]?).bind fun x77=>
       ((List.set (List.set x61 (Int.toNat x45) (⟨x73.ports,r71,x73.to⟩:Z6)) (Int.toNat x45) (⟨x75.ports,x75.from_,v43⟩:Z6))[(Int.toNat x45)]?).bind fun x79=>
       some (Sum.inl (List.set l54 (Int.toNat x59) (List.set (List.set (List.set x61 (Int.toNat x45) (⟨x73.ports,r71,x73.to⟩:Z6)) (Int.toNat x45) (⟨x75.ports,x75.from_,v43⟩:Z6)) (Int.toNat x45) (⟨Z4 (x77.ports+1),x79.from_,x79.to⟩:Z6)),(List.set p55 (Int.toNat x59) true),Z4 (v56+1)))
      else
       (x61[(Int.toNat x45)]?).bind fun x81=>
       (x61[(Int.toNat x45)]?).bind fun x83=>
       some (Sum.inl (List.set l54 (Int.toNat x59) (List.set x61 (Int.toNat x45) (⟨Z4 (x81.ports+1),x83.from_,x83.to⟩:Z6)),(List.set p55 (Int.toNat x59) true),Z4 (v56+1)))
     else
      none
    else
     none
   else
    none
  else
   none
 else
  some (Sum.inr (l54,p55))

def US (a2:List Int) (a3:Int) (l9:List Int) (n10:Nat) (l41:List (List Z6)) (p42:List Bool) (v43:Int):Option (((List (List Z6))×(List Bool)×Int)⊕(((List (List Z6))×(List Bool)))):=
 if(decide (v43<(a2.length:Int)))=true then
  (nth a2 v43).bind fun x45=>
  if(decide (x45<0))=true then
   some (Sum.inl (l41,p42,Z4 (v43+1)))
  else
   if(lin l9 v43)=true then
    (l9[(Int.toNat v43)]?).bind fun x49=>
    (Z34 x49).bind fun r51=>match r51 with
    |l53=>
     (Z8 (fun s:(List (List Z6))×(List Bool)×Int=>match s with|(l54,p55,v56)=>UR a2 a3 l9 n10 v43 x45 l53 l54 p55 v56) (l41,p42,0)).bind fun r104=>match r104 with
     |(l101,p102)=>
      some (Sum.inl (l101,p102,Z4 (v43+1)))
   else
    none
 else
  some (Sum.inr (l41,p42))

def Z10 (a1:Z2) (a2:List Int) (a3:Int):Option (((List (List Z6))×Nat×Bool)):=
 (Z2G a1 a2 a3).bind fun r4=>
 if(!r4)=true then
  some ([],0,false)
 else
  (Z0Z a1 a2).bind fun r7=>match r7 with
  |(l9,n10,v11)=>
   if(XY 24 a3 a3)=true then
    (Z8 (fun s:(List (List Z6))×(List Bool)×Int=>match s with|(l13,p14,v15)=>UQ a2 a3 l9 n10 l13 p14 v15) (List.replicate (Int.toNat a3) [],(List.replicate (List.length (List.replicate (Int.toNat a3) []:List (List Z6))) false),0)).bind fun r40=>match r40 with
    |(l37,p38)=>
     (Z8 (fun s:(List (List Z6))×(List Bool)×Int=>match s with|(l41,p42,v43)=>US a2 a3 l9 n10 l41 p42 v43) (l37,p38,0)).bind fun r114=>match r114 with
     |(l111,p112)=>
      some (l111,(Int.toNat a3),true)
   else
    none

def Z7m (a1:List Z6) (a2:List (List Z6)):Option (Bool):=
 some ((a1.length:Int) !=(a2.length:Int))

def Z5g (a1:List (List Z6)) (a2:List (List Z6)) (v3:Int):Option ((Int)⊕(Int⊕Unit)):=
 if(decide (v3<(a1.length:Int)))=true then
  (nth a1 v3).bind fun x5=>
  (Z7m x5 a2).bind fun r7=>
  if(r7)=true then
   some (Sum.inr (Sum.inl v3))
  else
   some (Sum.inl (Z4 (v3+1)))
 else
  some (Sum.inr (Sum.inr ()))

def Z7n (a1:List (List Z6)) (a2:List (List Z6)):Option (Int):=
 (Z8 (Z5g a1 a2) 0).bind fun r13=>match r13 with
 |Sum.inl v11=>
  some v11
 |Sum.inr ()=>
  some (-1)

def Z7o (a1:List (List Z6)) (a2:List (List Z6)):Option (Bool):=
 (Z7n a1 a2).bind fun r3=>
 some (decide (r3≥0))

def Qi (a1:ByteArray) (v2:Int):Option ((Int)⊕(Unit⊕Unit)):=
 if(decide (v2<(a1.size:Int)))=true then
  if(decide (0≤(v2:Int)∧(v2:Int) <(a1.size:Int)))=true then
   if(decide ((Yr a1 v2)≥97))=true then
    if(decide ((Yr a1 v2)≥48))=true then
     if(!(decide ((Yr a1 v2)≤122)))=true then
      if(!(decide ((Yr a1 v2)≤57)))=true then
       some (Sum.inr (Sum.inl ()))
      else
       if(v2==0)=true then
        some (Sum.inr (Sum.inl ()))
       else
        some (Sum.inl (Z4 (v2+1)))
     else
      some (Sum.inl (Z4 (v2+1)))
    else
     if(!(decide ((Yr a1 v2)≤122)))=true then
      some (Sum.inr (Sum.inl ()))
     else
      some (Sum.inl (Z4 (v2+1)))
   else
    if(decide ((Yr a1 v2)≥48))=true then
     if(!(decide ((Yr a1 v2)≤57)))=true then
      some (Sum.inr (Sum.inl ()))
     else
      if(v2==0)=true then
       some (Sum.inr (Sum.inl ()))
      else
       some (Sum.inl (Z4 (v2+1)))
    else
     some (Sum.inr (Sum.inl ()))
  else
   none
 else
  some (Sum.inr (Sum.inr ()))

def Z35 (a1:ByteArray):Option (Bool):=
 (Z8 (Qi a1) 0).bind fun r15=>match r15 with
 |Sum.inl ()=>
  some false
 |Sum.inr ()=>
  if(decide ((a1.size:Int) >0))=true then
   some (decide ((a1.size:Int)≤12))
  else
   some false

def Z5h (a1:ByteArray):Option (Bool):=
 (Z35 a1).bind fun r2=>
 some (!r2)

def Qj (a1:List ByteArray) (v2:Int):Option ((Int)⊕(Int⊕Unit)):=
 if(decide (v2<(a1.length:Int)))=true then
  (nth a1 v2).bind fun x4=>
  (Z5h x4).bind fun r6=>
  if(r6)=true then
   some (Sum.inr (Sum.inl v2))
  else
   some (Sum.inl (Z4 (v2+1)))
 else
  some (Sum.inr (Sum.inr ()))

def Z5i (a1:List ByteArray):Option (Int):=
 (Z8 (Qj a1) 0).bind fun r12=>match r12 with
 |Sum.inl v10=>
  some v10
 |Sum.inr ()=>
  some (-1)

def Z5j (a1:List ByteArray):Option (Bool):=
 (Z5i a1).bind fun r2=>
 some (decide (r2≥0))

def Z11 (a1:List ByteArray):Option (Bool):=
 (Z5j a1).bind fun r2=>
 some (!r2)

def Z5k:Option ((Unit)):=
 some ()

def Z12 (a1:ByteArray):Option ((Unit)):=
 (Z5k).bind fun r2=>match r2 with
 |()=>
  if(decide (0<a1.size))=true then
   if(ZZ 1 (bts a1))=true then
    some ()
   else
    none
  else
   none

def Z36 (a1:Int):Option (Int):=
 if(decide (a1<0))=true then
  some (Y0 (0-(Y0 a1)))
 else
  some (Y0 a1)

def VJ (a1:Int) (l7:List Int) (v8:Int) (v9:Bool):Option (((List Int)×Int×Bool)⊕((List Int))):=
 if(v9)=true then
  if(ZZ 1 (l7++ [(Xc (Y0 (48+(Int.tmod v8 10))):Int)]))=true then
   some (Sum.inl (l7++ [(Xc (Y0 (48+(Int.tmod v8 10))):Int)],Y0 (Int.tdiv v8 10),decide ((Y0 (Int.tdiv v8 10)) >0)))
  else
   none
 else
  some (Sum.inr l7)

def Z37 (a1:Int) (l15:List Int):Option ((List Int)):=
 if(decide (a1<0))=true then
  if(ZZ 1 (l15++ [(45:Int)]))=true then
   some (l15++ [(45:Int)])
  else
   none
 else
  some l15

def VK (l22:List Int) (l25:List Int) (v26:Int) (v27:Int):Option (((List Int)×Int×Int)⊕((List Int))):=
 if(decide (v26<v27))=true then
  if(lin l25 v27)=true then
   (l25[(Int.toNat v27)]?).bind fun x30=>
   if(lin l25 v26)=true then
    (l25[(Int.toNat v26)]?).bind fun x33=>
    (l25[(Int.toNat v26)]?).bind fun x35=>
    if(lin (List.set l25 (Int.toNat v26) x30) v27)=true then
     ((List.set l25 (Int.toNat v26) x30)[(Int.toNat v27)]?).bind fun x38=>
     some (Sum.inl (List.set (List.set l25 (Int.toNat v26) x30) (Int.toNat v27) x33,Z4 (v26+1),Z4 (v27-1)))
    else
     none
   else
    none
  else
   none
 else
  some (Sum.inr l25)

def Qk (a1:Int):Option (ByteArray):=
 (Z36 a1).bind fun r6=>match r6 with
 |v4=>
  (Z8 (fun s:(List Int)×Int×Bool=>match s with|(l7,v8,v9)=>VJ a1 l7 v8 v9) ([],v4,true)).bind fun r17=>match r17 with
  |l15=>
   (Z37 a1 l15).bind fun r24=>match r24 with
   |l22=>
    (Z8 (fun s:(List Int)×Int×Int=>match s with|(l25,v26,v27)=>VK l22 l25 v26 v27) (l22,0,Z4 (((List.length l22):Int) -1))).bind fun r44=>match r44 with
    |l42=>
     some (Yu l42)

def Z13 (a1:List Int):Option ((Unit)):=
 some ()

def VL (a1:List Int) (a2:ByteArray):Option ((Unit)):=
 (Z13 a1).bind fun r3=>match r3 with
 |()=>
  if(ZZ 1 (a1++bts a2))=true then
   some ()
  else
   none

def VM (a1:List Int) (a2:Int):Option ((Unit)):=
 (Z13 a1).bind fun r3=>match r3 with
 |()=>
  if(ZZ 1 (a1++ [a2]))=true then
   some ()
  else
   none

def Z38:Option ((Unit)):=
 some ()

def Z39 (a1:List Int):Option ((Unit)):=
 if(decide (0<(List.length a1)))=true then
  if(Z0w a1)=true then
   some ()
  else
   none
 else
  none

def Z5l (a1:List ByteArray) (a2:List (List Z6)) (x14:List Z6) (l21:List Int) (v22:Int):Option (((List Int)×Int)⊕((List Int))):=
 if(decide (v22<(x14.length:Int)))=true then
  (nth x14 v22).bind fun x24=>
  (Qk x24.ports).bind fun r26=>
  if(Ys (⟨#[32]⟩:ByteArray) r26)=true then
   (VL l21 ((⟨#[32]⟩:ByteArray)++r26)).bind fun r29=>match r29 with
   |()=>
    some (Sum.inl (l21++bts ((⟨#[32]⟩:ByteArray)++r26),Z4 (v22+1)))
  else
   none
 else
  some (Sum.inr l21)

def Z5m (a1:List ByteArray) (a2:List (List Z6)) (v12:Int) (x44:List Z6) (l51:List Int) (v52:Int):Option (((List Int)×Int)⊕((List Int))):=
 if(decide (v52<(x44.length:Int)))=true then
  (nth x44 v52).bind fun x54=>
  (Qk x54.ports).bind fun r56=>
  if(Ys (⟨#[32]⟩:ByteArray) r56)=true then
   (VL l51 ((⟨#[32]⟩:ByteArray)++r56)).bind fun r59=>match r59 with
   |()=>
    some (Sum.inl (l51++bts ((⟨#[32]⟩:ByteArray)++r56),Z4 (v52+1)))
  else
   none
 else
  some (Sum.inr l51)

def Z5n (a1:List ByteArray) (a2:List (List Z6)) (l11:List Int) (v12:Int):Option (((List Int)×Int)⊕(Unit⊕(List Int))):=
 if(decide (v12<(a2.length:Int)))=true then
  (nth a2 v12).bind fun x44=>
  (nth a1 v12).bind fun x46=>
  if(Ys x46 (⟨#[58]⟩:ByteArray))=true then
   (VL l11 (x46++(⟨#[58]⟩:ByteArray))).bind fun r49=>match r49 with
   |()=>
    (Z8 (fun s:(List Int)×Int=>match s with|(l51,v52)=>Z5m a1 a2 v12 x44 l51 v52) (l11++bts (x46++(⟨#[58]⟩:ByteArray)),0)).bind fun r70=>match r70 with
    |l68=>
     (VM l68 10).bind fun r71=>match r71 with
     |()=>
      some (Sum.inl (l68++ [10],Z4 (v12+1)))
  else
   none
 else
  some (Sum.inr (Sum.inr l11))

def Z7p (a1:List ByteArray) (a2:List (List Z6)):Option (((List Int)×Int)⊕(Unit⊕(List Int))):=
 if(decide (0<(a2.length:Int)))=true then
  (nth a2 0).bind fun x14=>
  (nth a1 0).bind fun x16=>
  if(Ys x16 (⟨#[58]⟩:ByteArray))=true then
   (Z12 (x16++(⟨#[58]⟩:ByteArray))).bind fun r19=>match r19 with
   |()=>
    (Z8 (fun s:(List Int)×Int=>match s with|(l21,v22)=>Z5l a1 a2 x14 l21 v22) (bts (x16++(⟨#[58]⟩:ByteArray)),0)).bind fun r40=>match r40 with
    |l38=>
     (VM l38 10).bind fun r41=>match r41 with
     |()=>
      some (Sum.inl (l38++ [10],Z4 (0+1)))
  else
   none
 else
  some (Sum.inr (Sum.inl ()))

def Z7q (a1:List ByteArray) (a2:List (List Z6)):Option (ByteArray×Int):=
 (Z7o a2 a2).bind fun r3=>
 if((a1.length:Int) !=(a2.length:Int))=true then
  some ((⟨#[]⟩:ByteArray),2)
 else
  if(!(!r3))=true then
   some ((⟨#[]⟩:ByteArray),2)
  else
   (Z11 a1).bind fun r7=>
   if(!r7)=true then
    some ((⟨#[]⟩:ByteArray),2)
   else
    if(decide ((a2.length:Int) >10))=true then
     some ((⟨#[]⟩:ByteArray),3)
    else
     (TU (Z7p a1 a2) (fun s:(List Int)×Int=>match s with|(l11,v12)=>Z5n a1 a2 l11 v12)).bind fun r78=>match r78 with
     |Sum.inl ()=>
      (Z38).bind fun r79=>match r79 with
      |()=>
       some ((⟨#[]⟩:ByteArray),0)
     |Sum.inr l76=>
      (Z39 l76).bind fun r81=>match r81 with
      |()=>
       some (Yu l76,0)

def UT (a3:Int) (l6:List Z9) (n7:Nat) (l9:List Int) (l10:List Int) (v11:Int):Option (((List Int)×(List Int)×Int)⊕(((List Int)×(List Int)))):=
 if(decide (v11<(n7:Int)))=true then
  if(lin l6 v11)=true then
   (l6[(Int.toNat v11)]?).bind fun x14=>
   (UO x14.plain a3).bind fun r16=>
   if(r16)=true then
    if(ZZ 8 (l9++ [v11]))=true then
     (UO x14.led a3).bind fun r20=>
     if(r20)=true then
      if(ZZ 8 (l10++ [v11]))=true then
       some (Sum.inl (l9++ [v11],l10++ [v11],Z4 (v11+1)))
      else
       none
     else
      some (Sum.inl (l9++ [v11],l10,Z4 (v11+1)))
    else
     none
   else
    (UO x14.led a3).bind fun r24=>
    if(r24)=true then
     if(ZZ 8 (l10++ [v11]))=true then
      some (Sum.inl (l9,l10++ [v11],Z4 (v11+1)))
     else
      none
    else
     some (Sum.inl (l9,l10,Z4 (v11+1)))
  else
   none
 else
  some (Sum.inr (l9,l10))

def UV (a1:Z2) (a2:List Int) (a3:Int):Option (((List Int)×(List Int))):=
 (Ub a1 a2).bind fun r4=>match r4 with
 |(l6,n7,v8)=>
  (Z8 (fun s:(List Int)×(List Int)×Int=>match s with|(l9,l10,v11)=>UT a3 l6 n7 l9 l10 v11) ([],[],0)).bind fun r35=>match r35 with
  |(l32,l33)=>
   some (l32,l33)

def strings_Join (a1:List ByteArray) (a2:ByteArray):Option (ByteArray):=
 if Z4R a1 a2=true then some (Z4Q a1 a2)else none

def Z5o (a1:List ByteArray):Option (ByteArray):=
 (strings_Join a1 (⟨#[]⟩:ByteArray)).bind fun r2=>
 some r2

def Z3a (a1:Z2) (a2:Int):Option (ByteArray):=
 if(decide (a2<0))=true then
  some (⟨#[]⟩:ByteArray)
 else
  if(decide (a2≥(a1.domains.length:Int)))=true then
   some (⟨#[]⟩:ByteArray)
  else
   (Wo a1).bind fun r5=>
   if(!r5)=true then
    some (⟨#[]⟩:ByteArray)
   else
    (nth a1.domains a2).bind fun x8=>
    (nth a1.devices x8.dev).bind fun x10=>
    (Qk x8.vlan).bind fun r12=>
    (Z5o [x10.name,(⟨#[47]⟩:ByteArray),r12]).bind fun r14=>
    some r14

def Ql (a1:Z2) (a2:List Int) (v3:ByteArray) (v4:Int):Option ((ByteArray×Int)⊕(ByteArray)):=
 if(decide (v4<(a2.length:Int)))=true then
  (nth a2 v4).bind fun x6=>
  (Z3a a1 x6).bind fun r8=>
  if(Ys (⟨#[32]⟩:ByteArray) r8)=true then
   if(Ys v3 ((⟨#[32]⟩:ByteArray)++r8))=true then
    some (Sum.inl (v3++((⟨#[32]⟩:ByteArray)++r8),Z4 (v4+1)))
   else
    none
  else
   none
 else
  some (Sum.inr v3)

def UW (a1:Z2) (a2:List Int):Option (ByteArray):=
 (Z8 (fun s:ByteArray×Int=>match s with|(v3,v4)=>Ql a1 a2 v3 v4) ((⟨#[]⟩:ByteArray),0)).bind fun r15=>match r15 with
 |v13=>
  some v13

def WK (a1:Z2) (a2:List Int) (a3:List ByteArray) (l14:List Int) (v15:Int):Option (((List Int)×Int)⊕(Unit⊕(List Int))):=
 if(decide (v15<(a3.length:Int)))=true then
  (nth a3 v15).bind fun x40=>
  (UV a1 a2 v15).bind fun r42=>match r42 with
  |(l44,l45)=>
   if(Ys x40 (⟨#[58]⟩:ByteArray))=true then
    (UW a1 l44).bind fun r47=>
    if(Ys (x40++(⟨#[58]⟩:ByteArray)) r47)=true then
     (VL l14 ((x40++(⟨#[58]⟩:ByteArray))++r47)).bind fun r50=>match r50 with
     |()=>
      if(decide (((List.length l45):Int) >0))=true then
       (UW a1 l45).bind fun r53=>
       if(Ys (⟨#[32,124]⟩:ByteArray) r53)=true then
        (VL (l14++bts ((x40++(⟨#[58]⟩:ByteArray))++r47)) ((⟨#[32,124]⟩:ByteArray)++r53)).bind fun r56=>match r56 with
        |()=>
         (VM ((l14++bts ((x40++(⟨#[58]⟩:ByteArray))++r47))++bts ((⟨#[32,124]⟩:ByteArray)++r53)) 10).bind fun r58=>match r58 with
         |()=>
          some (Sum.inl (((l14++bts ((x40++(⟨#[58]⟩:ByteArray))++r47))++bts ((⟨#[32,124]⟩:ByteArray)++r53))++ [10],Z4 (v15+1)))
       else
        none
      else
       (VM (l14++bts ((x40++(⟨#[58]⟩:ByteArray))++r47)) 10).bind fun r60=>match r60 with
       |()=>
        some (Sum.inl ((l14++bts ((x40++(⟨#[58]⟩:ByteArray))++r47))++ [10],Z4 (v15+1)))
    else
     none
   else
    none
 else
  some (Sum.inr (Sum.inr l14))

def Qm (a1:Z2) (a2:List Int) (a3:List ByteArray):Option (((List Int)×Int)⊕(Unit⊕(List Int))):=
 if(decide (0<(a3.length:Int)))=true then
  (nth a3 0).bind fun x17=>
  (UV a1 a2 0).bind fun r19=>match r19 with
  |(l21,l22)=>
   if(Ys x17 (⟨#[58]⟩:ByteArray))=true then
    (UW a1 l21).bind fun r24=>
    if(Ys (x17++(⟨#[58]⟩:ByteArray)) r24)=true then
     (Z12 ((x17++(⟨#[58]⟩:ByteArray))++r24)).bind fun r27=>match r27 with
     |()=>
      if(decide (((List.length l22):Int) >0))=true then
       (UW a1 l22).bind fun r30=>
       if(Ys (⟨#[32,124]⟩:ByteArray) r30)=true then
        (VL (bts ((x17++(⟨#[58]⟩:ByteArray))++r24)) ((⟨#[32,124]⟩:ByteArray)++r30)).bind fun r33=>match r33 with
        |()=>
         (VM ((bts ((x17++(⟨#[58]⟩:ByteArray))++r24))++bts ((⟨#[32,124]⟩:ByteArray)++r30)) 10).bind fun r35=>match r35 with
         |()=>
          some (Sum.inl (((bts ((x17++(⟨#[58]⟩:ByteArray))++r24))++bts ((⟨#[32,124]⟩:ByteArray)++r30))++ [10],Z4 (0+1)))
       else
        none
      else
       (VM (bts ((x17++(⟨#[58]⟩:ByteArray))++r24)) 10).bind fun r37=>match r37 with
       |()=>
        some (Sum.inl ((bts ((x17++(⟨#[58]⟩:ByteArray))++r24))++ [10],Z4 (0+1)))
    else
     none
   else
    none
 else
  some (Sum.inr (Sum.inl ()))

def Z14 (a1:Z2) (a2:List Int) (a3:List ByteArray):Option (ByteArray×Int):=
 (Ub a1 a2).bind fun r4=>match r4 with
 |(l6,n7,v8)=>
  if(!v8)=true then
   some ((⟨#[]⟩:ByteArray),2)
  else
   if(decide ((a3.length:Int) >10))=true then
    some ((⟨#[]⟩:ByteArray),2)
   else
    (Z11 a3).bind fun r11=>
    if(!r11)=true then
     some ((⟨#[]⟩:ByteArray),2)
    else
     (TU (Qm a1 a2 a3) (fun s:(List Int)×Int=>match s with|(l14,v15)=>WK a1 a2 a3 l14 v15)).bind fun r67=>match r67 with
     |Sum.inl ()=>
      (Z38).bind fun r68=>match r68 with
      |()=>
       some ((⟨#[]⟩:ByteArray),0)
     |Sum.inr l65=>
      (Z39 l65).bind fun r70=>match r70 with
      |()=>
       some (Yu l65,0)

def Z5p (a1:List (List Z6)) (v2:Int) (x4:List Z6) (v6:Int):Option ((Int)⊕(Unit⊕Unit)):=
 if(decide (v6<(x4.length:Int)))=true then
  (nth x4 v6).bind fun x8=>
  if(v2 !=v6)=true then
   if(x8.ports !=0)=true then
    some (Sum.inr (Sum.inl ()))
   else
    some (Sum.inl (Z4 (v6+1)))
  else
   some (Sum.inl (Z4 (v6+1)))
 else
  some (Sum.inr (Sum.inr ()))

def Z5q (a1:List (List Z6)) (v2:Int):Option ((Int)⊕(Unit⊕Unit)):=
 if(decide (v2<(a1.length:Int)))=true then
  (nth a1 v2).bind fun x4=>
  (Z8 (Z5p a1 v2 x4) 0).bind fun r13=>match r13 with
  |Sum.inl ()=>
   some (Sum.inr (Sum.inl ()))
  |Sum.inr ()=>
   some (Sum.inl (Z4 (v2+1)))
 else
  some (Sum.inr (Sum.inr ()))

def Z7r (a1:List (List Z6)):Option (Bool):=
 (Z8 (Z5q a1) 0).bind fun r15=>match r15 with
 |Sum.inl ()=>
  some false
 |Sum.inr ()=>
  some true

def Ud:Option (Bool):=
 (Z10 (⟨[(⟨0,0,(⟨#[97]⟩:ByteArray),0,0⟩:Yy)],[(⟨0,0,10,0,(-1),(⟨#[112]⟩:ByteArray),[]⟩:ZO),(⟨0,0,10,0,(-1),(⟨#[113]⟩:ByteArray),[]⟩:ZO),(⟨0,0,20,0,(-1),(⟨#[114]⟩:ByteArray),[]⟩:ZO)],[],[(⟨0,10,0,(-1),0,[]⟩:ZF),(⟨0,20,0,(-1),0,[]⟩:ZF)],[],[],[],[]⟩:Z2) [(0:Int),(0:Int),(1:Int)] 2).bind fun r1=>match r1 with
 |(l3,n4,v5)=>
  (Z7q [(⟨#[120]⟩:ByteArray),(⟨#[121]⟩:ByteArray)] l3).bind fun r6=>
  (Z14 (⟨[(⟨0,0,(⟨#[97]⟩:ByteArray),0,0⟩:Yy)],[(⟨0,0,10,0,(-1),(⟨#[112]⟩:ByteArray),[]⟩:ZO),(⟨0,0,10,0,(-1),(⟨#[113]⟩:ByteArray),[]⟩:ZO),(⟨0,0,20,0,(-1),(⟨#[114]⟩:ByteArray),[]⟩:ZO)],[],[(⟨0,10,0,(-1),0,[]⟩:ZF),(⟨0,20,0,(-1),0,[]⟩:ZF)],[],[],[],[]⟩:Z2) [(0:Int),(0:Int),(1:Int)] [(⟨#[120]⟩:ByteArray),(⟨#[121]⟩:ByteArray)]).bind fun r8=>
  if(v5)=true then
   if(r6.2==0)=true then
    if(Z2h r6.1 (⟨#[120,58,32,50,32,48,10,121,58,32,48,32,49,10]⟩:ByteArray))=true then
     (Z7r l3).bind fun r13=>
     if(r13)=true then
      if(r8.2==0)=true then
       some (Z2h r8.1 (⟨#[120,58,32,97,47,49,48,10,121,58,32,97,47,50,48,10]⟩:ByteArray))
      else
       some false
     else
      some false
    else
     some false
   else
    some false
  else
   some false

def Qn (a1:List ByteArray) (v3:Int):Option ((Int)⊕(Unit⊕Unit)):=
 if(decide (v3<(a1.length:Int)))=true then
  (nth a1 v3).bind fun x5=>
  if(decide ((x5.size:Int) >300))=true then
   some (Sum.inr (Sum.inl ()))
  else
   some (Sum.inl (Z4 (v3+1)))
 else
  some (Sum.inr (Sum.inr ()))

def Z3b (a1:List ByteArray):Option (Bool):=
 if(decide ((a1.length:Int) >40))=true then
  some true
 else
  (Z8 (Qn a1) 0).bind fun r9=>match r9 with
  |Sum.inl ()=>
   some true
  |Sum.inr ()=>
   some false

def Xg (a1:Int) (a2:Int):Option (Bool):=
 if(decide (a1≥0))=true then
  some (decide (a1<a2))
 else
  some false

def Z15 (a1:Z2) (a2:Int) (a3:Int) (v4:Int):Option ((Int)⊕(Int⊕Unit)):=
 if(decide (v4<(a1.domains.length:Int)))=true then
  (nth a1.domains v4).bind fun x6=>
  if(x6.dev==a2)=true then
   (nth a1.domains v4).bind fun x9=>
   if(x9.vlan==a3)=true then
    some (Sum.inr (Sum.inl v4))
   else
    some (Sum.inl (Z4 (v4+1)))
  else
   some (Sum.inl (Z4 (v4+1)))
 else
  some (Sum.inr (Sum.inr ()))

def Ue (a1:Z2) (a2:Int) (a3:Int):Option (Int):=
 (Z8 (Z15 a1 a2 a3) 0).bind fun r15=>match r15 with
 |Sum.inl v13=>
  some v13
 |Sum.inr ()=>
  some (-1)

def Z16 (a1:List Int) (a2:Int) (v3:Int):Option ((Int)⊕(Unit⊕Unit)):=
 if(decide (v3<(a1.length:Int)))=true then
  (nth a1 v3).bind fun x5=>
  if(x5==a2)=true then
   some (Sum.inr (Sum.inl ()))
  else
   some (Sum.inl (Z4 (v3+1)))
 else
  some (Sum.inr (Sum.inr ()))

def V1 (a1:List Int) (a2:Int):Option (Bool):=
 (Z8 (Z16 a1 a2) 0).bind fun r9=>match r9 with
 |Sum.inl ()=>
  some true
 |Sum.inr ()=>
  some false

def Z3c (a1:Z2) (a2:Int) (a3:Int):Option (Bool):=
 (Xg a3 (a1.domains.length:Int)).bind fun r4=>
 if(!r4)=true then
  some false
 else
  if(a3==a2)=true then
   some false
  else
   (nth a1.domains a2).bind fun x8=>
   (nth a1.domains a3).bind fun x10=>
   if(x8.dev !=x10.dev)=true then
    if(x8.vni==x10.vni)=true then
     if(x8.vni !=0)=true then
      (nth a1.devices x8.dev).bind fun x15=>
      if(x15.vtep !=0)=true then
       (nth a1.devices x10.dev).bind fun x18=>
       if(x18.vtep !=0)=true then
        (V1 x10.peers a2).bind fun r21=>
        some r21
       else
        some false
      else
       some false
     else
      some false
    else
     some false
   else
    some false

def Qo (a1:Z2) (v2:Int):Option ((Int)⊕(Unit⊕Unit)):=
 if(decide (v2<(a1.domains.length:Int)))=true then
  (nth a1.domains v2).bind fun x4=>
  (Xg x4.dev (a1.devices.length:Int)).bind fun r6=>
  if(!r6)=true then
   some (Sum.inr (Sum.inl ()))
  else
   if(decide (x4.vlan<1))=true then
    some (Sum.inr (Sum.inl ()))
   else
    if(decide (x4.vlan>4094))=true then
     some (Sum.inr (Sum.inl ()))
    else
     if(decide (x4.vni<0))=true then
      some (Sum.inr (Sum.inl ()))
     else
      if(decide (x4.vni≥16777216))=true then
       some (Sum.inr (Sum.inl ()))
      else
       (Ue a1 x4.dev x4.vlan).bind fun r13=>
       if(r13 !=v2)=true then
        some (Sum.inr (Sum.inl ()))
       else
        if(x4.irb !=(-1))=true then
         (Xg x4.irb (a1.irbs.length:Int)).bind fun r17=>
         if(!r17)=true then
          some (Sum.inr (Sum.inl ()))
         else
          (nth a1.irbs x4.irb).bind fun x20=>
          if(x20.domain !=v2)=true then
           some (Sum.inr (Sum.inl ()))
          else
           some (Sum.inl (Z4 (v2+1)))
        else
         some (Sum.inl (Z4 (v2+1)))
 else
  some (Sum.inr (Sum.inr ()))

def Z17 (a1:Z2) (v25:Int) (x27:ZF) (v29:Int):Option ((Int)⊕(Unit⊕Unit)):=
 if(decide (v29<(x27.peers.length:Int)))=true then
  (nth x27.peers v29).bind fun x31=>
  (Z3c a1 v25 x31).bind fun r33=>
  if(!r33)=true then
   some (Sum.inr (Sum.inl ()))
  else
   if(Z0y (List.length x27.peers) 0 v29)=true then
    (nth x27.peers v29).bind fun x37=>
    (V1 (List.drop (Int.toNat 0) (List.take (Int.toNat v29) x27.peers)) x37).bind fun r39=>
    if(r39)=true then
     some (Sum.inr (Sum.inl ()))
    else
     some (Sum.inl (Z4 (v29+1)))
   else
    none
 else
  some (Sum.inr (Sum.inr ()))

def Qp (a1:Z2) (v25:Int):Option ((Int)⊕(Unit⊕Unit)):=
 if(decide (v25<(a1.domains.length:Int)))=true then
  (nth a1.domains v25).bind fun x27=>
  (Z8 (Z17 a1 v25 x27) 0).bind fun r43=>match r43 with
  |Sum.inl ()=>
   some (Sum.inr (Sum.inl ()))
  |Sum.inr ()=>
   some (Sum.inl (Z4 (v25+1)))
 else
  some (Sum.inr (Sum.inr ()))

def Z3d (a1:Z2):Option (Bool):=
 (Z8 (Qo a1) 0).bind fun r24=>match r24 with
 |Sum.inl ()=>
  some false
 |Sum.inr ()=>
  (Z8 (Qp a1) 0).bind fun r45=>match r45 with
  |Sum.inl ()=>
   some false
  |Sum.inr ()=>
   some true

def Qq (a1:List Int) (a2:Int) (a3:Int) (v6:Int):Option ((Int)⊕(Unit⊕Unit)):=
 if(decide (v6<(a1.length:Int)))=true then
  (nth a1 v6).bind fun x8=>
  if(decide (x8<a2))=true then
   some (Sum.inr (Sum.inl ()))
  else
   (nth a1 v6).bind fun x11=>
   if(decide (x11>a3))=true then
    some (Sum.inr (Sum.inl ()))
   else
    if(decide (v6>0))=true then
     (nth a1 v6).bind fun x15=>
     (nth a1 (Z4 (v6-1))).bind fun x17=>
     if(decide (x15≤x17))=true then
      some (Sum.inr (Sum.inl ()))
     else
      some (Sum.inl (Z4 (v6+1)))
    else
     some (Sum.inl (Z4 (v6+1)))
 else
  some (Sum.inr (Sum.inr ()))

def Z3e (a1:List Int) (a2:Int) (a3:Int):Option (Bool):=
 if(decide ((a1.length:Int) <1))=true then
  some false
 else
  if(decide ((a1.length:Int) >16))=true then
   some false
  else
   (Z8 (Qq a1 a2 a3) 0).bind fun r21=>match r21 with
   |Sum.inl ()=>
    some false
   |Sum.inr ()=>
    some true

def Qr (a1:List Int) (a2:Int):Option (Bool):=
 if((a1.length:Int)==0)=true then
  some true
 else
  (Z3e a1 1 a2).bind fun r4=>
  some r4

def Z5r (a1:Z2) (v2:Int) (x4:ZO):Option (Unit⊕Unit):=
 if(x4.native==0)=true then
  if((x4.tagged.length:Int)==0)=true then
   some (Sum.inl ())
  else
   if(decide (x4.native>0))=true then
    (Ue a1 x4.dev x4.native).bind fun r20=>
    if(decide (r20<0))=true then
     some (Sum.inl ())
    else
     some (Sum.inr ())
   else
    some (Sum.inr ())
 else
  if(decide (x4.native>0))=true then
   (Ue a1 x4.dev x4.native).bind fun r24=>
   if(decide (r24<0))=true then
    some (Sum.inl ())
   else
    some (Sum.inr ())
  else
   some (Sum.inr ())

def Qs (a1:Z2) (v2:Int) (x4:ZO) (v29:Int):Option ((Int)⊕(Unit⊕Unit)):=
 if(decide (v29<(x4.tagged.length:Int)))=true then
  (nth x4.tagged v29).bind fun x31=>
  (Ue a1 x4.dev x31).bind fun r33=>
  if(decide (r33<0))=true then
   some (Sum.inr (Sum.inl ()))
  else
   some (Sum.inl (Z4 (v29+1)))
 else
  some (Sum.inr (Sum.inr ()))

def Z18 (a1:Z2) (v2:Int):Option ((Int)⊕(Unit⊕Unit)):=
 if(decide (v2<(a1.ports.length:Int)))=true then
  (nth a1.ports v2).bind fun x4=>
  (Xg x4.dev (a1.devices.length:Int)).bind fun r6=>
  if(!r6)=true then
   some (Sum.inr (Sum.inl ()))
  else
   if(decide (x4.native<0))=true then
    some (Sum.inr (Sum.inl ()))
   else
    if(decide (x4.native>4094))=true then
     some (Sum.inr (Sum.inl ()))
    else
     (Qr x4.tagged 4094).bind fun r11=>
     if(!r11)=true then
      some (Sum.inr (Sum.inl ()))
     else
      (V1 x4.tagged x4.native).bind fun r14=>
      if(r14)=true then
       some (Sum.inr (Sum.inl ()))
      else
       (Z5r a1 v2 x4).bind fun r28=>match r28 with
       |Sum.inl ()=>
        some (Sum.inr (Sum.inl ()))
       |Sum.inr ()=>
        (Z8 (Qs a1 v2 x4) 0).bind fun r37=>match r37 with
        |Sum.inl ()=>
         some (Sum.inr (Sum.inl ()))
        |Sum.inr ()=>
         if(x4.link==(-1))=true then
          some (Sum.inl (Z4 (v2+1)))
         else
          (Xg x4.link (a1.links.length:Int)).bind fun r39=>
          if(!r39)=true then
           some (Sum.inr (Sum.inl ()))
          else
           (nth a1.links x4.link).bind fun x42=>
           if(x42.a !=v2)=true then
            (nth a1.links x4.link).bind fun x45=>
            if(x45.b !=v2)=true then
             some (Sum.inr (Sum.inl ()))
            else
             some (Sum.inl (Z4 (v2+1)))
           else
            some (Sum.inl (Z4 (v2+1)))
 else
  some (Sum.inr (Sum.inr ()))

def Z3f (a1:Z2):Option (Bool):=
 (Z8 (Z18 a1) 0).bind fun r49=>match r49 with
 |Sum.inl ()=>
  some false
 |Sum.inr ()=>
  some true

def Z19 (a1:Z2) (v2:Int):Option ((Int)⊕(Unit⊕Unit)):=
 if(decide (v2<(a1.links.length:Int)))=true then
  (nth a1.links v2).bind fun x4=>
  (Xg x4.a (a1.ports.length:Int)).bind fun r6=>
  if(!r6)=true then
   some (Sum.inr (Sum.inl ()))
  else
   (Xg x4.b (a1.ports.length:Int)).bind fun r9=>
   if(!r9)=true then
    some (Sum.inr (Sum.inl ()))
   else
    (nth a1.ports x4.a).bind fun x12=>
    (nth a1.ports x4.b).bind fun x14=>
    if(x12.dev==x14.dev)=true then
     some (Sum.inr (Sum.inl ()))
    else
     (nth a1.ports x4.a).bind fun x17=>
     if(x17.link !=v2)=true then
      some (Sum.inr (Sum.inl ()))
     else
      (nth a1.ports x4.b).bind fun x20=>
      if(x20.link !=v2)=true then
       some (Sum.inr (Sum.inl ()))
      else
       some (Sum.inl (Z4 (v2+1)))
 else
  some (Sum.inr (Sum.inr ()))

def Z3g (a1:Z2):Option (Bool):=
 (Z8 (Z19 a1) 0).bind fun r24=>match r24 with
 |Sum.inl ()=>
  some false
 |Sum.inr ()=>
  some true

def Qt (a1:ZO) (a2:Int):Option (Bool):=
 if(a2 !=0)=true then
  if(a1.native==a2)=true then
   some true
  else
   (V1 a1.tagged a2).bind fun r5=>
   some r5
 else
  some false

def Z1a (a1:Z2) (v2:Int):Option ((Int)⊕(Unit⊕Unit)):=
 if(decide (v2<(a1.statics.length:Int)))=true then
  (nth a1.statics v2).bind fun x4=>
  (Xg x4.domain (a1.domains.length:Int)).bind fun r6=>
  if(!r6)=true then
   some (Sum.inr (Sum.inl ()))
  else
   (Xg x4.port (a1.ports.length:Int)).bind fun r9=>
   if(!r9)=true then
    some (Sum.inr (Sum.inl ()))
   else
    (nth a1.domains x4.domain).bind fun x12=>
    (nth a1.ports x4.port).bind fun x14=>
    if(x14.dev !=x12.dev)=true then
     some (Sum.inr (Sum.inl ()))
    else
     (nth a1.ports x4.port).bind fun x17=>
     (Qt x17 x12.vlan).bind fun r19=>
     if(!r19)=true then
      some (Sum.inr (Sum.inl ()))
     else
      some (Sum.inl (Z4 (v2+1)))
 else
  some (Sum.inr (Sum.inr ()))

def Z1b (a1:Z2) (v24:Int):Option ((Int)⊕(Unit⊕Unit)):=
 if(decide (v24<(a1.floods.length:Int)))=true then
  (nth a1.floods v24).bind fun x26=>
  (Xg x26.dev (a1.devices.length:Int)).bind fun r28=>
  if(!r28)=true then
   some (Sum.inr (Sum.inl ()))
  else
   (nth a1.floods v24).bind fun x31=>
   if(decide ((x31.addrs.length:Int) >16))=true then
    some (Sum.inr (Sum.inl ()))
   else
    some (Sum.inl (Z4 (v24+1)))
 else
  some (Sum.inr (Sum.inr ()))

def Z1c (a1:Z2) (v36:Int):Option ((Int)⊕(Unit⊕Unit)):=
 if(decide (v36<(a1.vrfs.length:Int)))=true then
  (nth a1.vrfs v36).bind fun x38=>
  (Xg x38.dev (a1.devices.length:Int)).bind fun r40=>
  if(!r40)=true then
   some (Sum.inr (Sum.inl ()))
  else
   (Qr x38.imports 65535).bind fun r43=>
   if(!r43)=true then
    some (Sum.inr (Sum.inl ()))
   else
    (Qr x38.exports 65535).bind fun r46=>
    if(!r46)=true then
     some (Sum.inr (Sum.inl ()))
    else
     some (Sum.inl (Z4 (v36+1)))
 else
  some (Sum.inr (Sum.inr ()))

def Z1d (a1:Z2) (v51:Int):Option ((Int)⊕(Unit⊕Unit)):=
 if(decide (v51<(a1.irbs.length:Int)))=true then
  (nth a1.irbs v51).bind fun x53=>
  (Xg x53.domain (a1.domains.length:Int)).bind fun r55=>
  if(!r55)=true then
   some (Sum.inr (Sum.inl ()))
  else
   (Xg x53.vrf (a1.vrfs.length:Int)).bind fun r58=>
   if(!r58)=true then
    some (Sum.inr (Sum.inl ()))
   else
    if(decide (x53.net.bits<1))=true then
     some (Sum.inr (Sum.inl ()))
    else
     if(decide (x53.net.bits>30))=true then
      some (Sum.inr (Sum.inl ()))
     else
      (nth a1.domains x53.domain).bind fun x63=>
      (nth a1.vrfs x53.vrf).bind fun x65=>
      if(x63.dev !=x65.dev)=true then
       some (Sum.inr (Sum.inl ()))
      else
       (nth a1.domains x53.domain).bind fun x68=>
       if(x68.irb !=v51)=true then
        some (Sum.inr (Sum.inl ()))
       else
        some (Sum.inl (Z4 (v51+1)))
 else
  some (Sum.inr (Sum.inr ()))

def Z3h (a1:Z2):Option (Bool):=
 (Z8 (Z1a a1) 0).bind fun r23=>match r23 with
 |Sum.inl ()=>
  some false
 |Sum.inr ()=>
  (Z8 (Z1b a1) 0).bind fun r35=>match r35 with
  |Sum.inl ()=>
   some false
  |Sum.inr ()=>
   (Z8 (Z1c a1) 0).bind fun r50=>match r50 with
   |Sum.inl ()=>
    some false
   |Sum.inr ()=>
    (Z8 (Z1d a1) 0).bind fun r72=>match r72 with
    |Sum.inl ()=>
     some false
    |Sum.inr ()=>
     some true

def Z3i (a1:Z2):Option (Bool):=
 if(decide ((a1.devices.length:Int) >8))=true then
  some false
 else
  if(decide ((a1.ports.length:Int) >40))=true then
   some false
  else
   if(decide ((a1.links.length:Int) >20))=true then
    some false
   else
    if(decide ((a1.domains.length:Int) >48))=true then
     some false
    else
     if(decide ((a1.statics.length:Int) >64))=true then
      some false
     else
      if(decide ((a1.floods.length:Int) >48))=true then
       some false
      else
       if(decide ((a1.vrfs.length:Int) >16))=true then
        some false
       else
        if(decide ((a1.irbs.length:Int) >48))=true then
         some false
        else
         (Z3d a1).bind fun r10=>
         if(r10)=true then
          (Z3f a1).bind fun r13=>
          if(r13)=true then
           (Z3g a1).bind fun r16=>
           if(r16)=true then
            (Z3h a1).bind fun r19=>
            some r19
           else
            some false
          else
           some false
         else
          some false

def Z5s (a1:Z2) (a2:List Int) (v7:Int):Option (Unit⊕Unit):=
 (nth a1.ports v7).bind fun x9=>
 if(x9.link !=(-1))=true then
  (nth a2 v7).bind fun x12=>
  if(x12 !=(-1))=true then
   some (Sum.inl ())
  else
   some (Sum.inr ())
 else
  some (Sum.inr ())

def Qu (a1:Z2) (a2:List Int) (v7:Int):Option ((Int)⊕(Unit⊕Unit)):=
 if(decide (v7<(a2.length:Int)))=true then
  (Z5s a1 a2 v7).bind fun r16=>match r16 with
  |Sum.inl ()=>
   some (Sum.inr (Sum.inl ()))
  |Sum.inr ()=>
   (nth a1.ports v7).bind fun x17=>
   if(x17.link==(-1))=true then
    (nth a2 v7).bind fun x20=>
    if(decide (x20<0))=true then
     some (Sum.inr (Sum.inl ()))
    else
     (nth a2 v7).bind fun x23=>
     if(decide (x23>9))=true then
      some (Sum.inr (Sum.inl ()))
     else
      some (Sum.inl (Z4 (v7+1)))
   else
    some (Sum.inl (Z4 (v7+1)))
 else
  some (Sum.inr (Sum.inr ()))

def Qv (a1:Z2) (a2:List Int):Option (Bool):=
 if((a2.length:Int) !=(a1.ports.length:Int))=true then
  some false
 else
  (Z3i a1).bind fun r4=>
  if(!r4)=true then
   some false
  else
   (Z8 (Qu a1 a2) 0).bind fun r27=>match r27 with
   |Sum.inl ()=>
    some false
   |Sum.inr ()=>
    some true

def Qw (a1:List Int) (a2:Int) (l3:List Int) (v4:Int):Option (((List Int)×Int)⊕((List Int))):=
 if(decide (v4<(a1.length:Int)))=true then
  (nth a1 v4).bind fun x6=>
  if(x6==a2)=true then
   if(ZZ 8 (l3++ [v4]))=true then
    some (Sum.inl (l3++ [v4],Z4 (v4+1)))
   else
    none
  else
   some (Sum.inl (l3,Z4 (v4+1)))
 else
  some (Sum.inr l3)

def Z3j (a1:List Int) (a2:Int):Option (((List Int))):=
 (Z8 (fun s:(List Int)×Int=>match s with|(l3,v4)=>Qw a1 a2 l3 v4) ([],0)).bind fun r14=>match r14 with
 |l12=>
  some l12

def Z1e (a1:Z2) (x6:ZF) (l8:List Int) (v9:Int):Option (((List Int)×Int)⊕((List Int))):=
 if(decide (v9<(a1.ports.length:Int)))=true then
  (nth a1.ports v9).bind fun x11=>
  if(x11.dev==x6.dev)=true then
   (nth a1.ports v9).bind fun x14=>
   (Qt x14 x6.vlan).bind fun r16=>
   if(r16)=true then
    if(ZZ 8 (l8++ [v9]))=true then
     some (Sum.inl (l8++ [v9],Z4 (v9+1)))
    else
     none
   else
    some (Sum.inl (l8,Z4 (v9+1)))
  else
   some (Sum.inl (l8,Z4 (v9+1)))
 else
  some (Sum.inr l8)

def UX (a1:Z2) (a2:Int):Option (((List Int))):=
 (Xg a2 (a1.domains.length:Int)).bind fun r3=>
 if(!r3)=true then
  some []
 else
  (nth a1.domains a2).bind fun x6=>
  (Z8 (fun s:(List Int)×Int=>match s with|(l8,v9)=>Z1e a1 x6 l8 v9) ([],0)).bind fun r24=>match r24 with
  |l22=>
   some l22

def Z1f (a1:Z2) (a2:Int) (v3:Int):Option ((Int)⊕(Int⊕Unit)):=
 if(decide (v3<(a1.links.length:Int)))=true then
  (nth a1.links v3).bind fun x5=>
  if(x5.a==a2)=true then
   (nth a1.links v3).bind fun x8=>
   some (Sum.inr (Sum.inl x8.b))
  else
   (nth a1.links v3).bind fun x10=>
   if(x10.b==a2)=true then
    (nth a1.links v3).bind fun x13=>
    some (Sum.inr (Sum.inl x13.a))
   else
    some (Sum.inl (Z4 (v3+1)))
 else
  some (Sum.inr (Sum.inr ()))

def Z3k (a1:Z2) (a2:Int):Option (Int):=
 (Z8 (Z1f a1 a2) 0).bind fun r18=>match r18 with
 |Sum.inl v16=>
  some v16
 |Sum.inr ()=>
  some (-1)

def Z5t (a3:Int) (r4:Int) (x8:ZO) (x10:ZO):Option (Unit⊕Unit):=
 if(x8.native==a3)=true then
  if(decide (x10.native>0))=true then
   some (Sum.inl ())
  else
   some (Sum.inr ())
 else
  some (Sum.inr ())

def Z3l (a1:Z2) (a2:Int) (a3:Int):Option (Int×Int×Bool):=
 (Z3k a1 a2).bind fun r4=>
 if(decide (r4<0))=true then
  some (0,0,false)
 else
  if(a3==0)=true then
   some (0,0,false)
  else
   (nth a1.ports a2).bind fun x8=>
   (nth a1.ports r4).bind fun x10=>
   (Z5t a3 r4 x8 x10).bind fun r15=>match r15 with
   |Sum.inl ()=>
    some (r4,x10.native,true)
   |Sum.inr ()=>
    (V1 x8.tagged a3).bind fun r16=>
    if(r16)=true then
     (V1 x10.tagged a3).bind fun r19=>
     if(r19)=true then
      some (r4,a3,true)
     else
      some (0,0,false)
    else
     some (0,0,false)

def Z1g (a1:Z2) (a2:Int) (a3:Int):Option (Int×Bool):=
 (Z3l a1 a2 a3).bind fun r4=>
 if(!r4.2.2)=true then
  some (0,false)
 else
  (nth a1.ports r4.1).bind fun x7=>
  (Ue a1 x7.dev r4.2.1).bind fun r9=>
  some (r9,true)

def Qx (a1:Z2) (a2:Int) (l5:List Int) (l6:List Ya) (v7:Int):Option (((List Ya)×Int)⊕((List Ya))):=
 if(decide (v7<((List.length l5):Int)))=true then
  if(lin l5 v7)=true then
   (l5[(Int.toNat v7)]?).bind fun x10=>
   (nth a1.domains a2).bind fun x12=>
   (Z1g a1 x10 x12.vlan).bind fun r14=>
   if(r14.2)=true then
    (l5[(Int.toNat v7)]?).bind fun x17=>
    if(ZZ 32 (l6++ [(⟨1,x17,r14.1,0⟩:Ya)]))=true then
     some (Sum.inl (l6++ [(⟨1,x17,r14.1,0⟩:Ya)],Z4 (v7+1)))
    else
     none
   else
    some (Sum.inl (l6,Z4 (v7+1)))
  else
   none
 else
  some (Sum.inr l6)

def Qy (a1:Z2) (a2:Int) (l27:List Ya) (v28:Int):Option (((List Ya)×Int)⊕((List Ya))):=
 (nth a1.domains a2).bind fun x29=>
 if(decide (v28<(x29.peers.length:Int)))=true then
  (nth a1.domains a2).bind fun x32=>
  (nth x32.peers v28).bind fun x34=>
  if(ZZ 32 (l27++ [(⟨2,0,x34,0⟩:Ya)]))=true then
   some (Sum.inl (l27++ [(⟨2,0,x34,0⟩:Ya)],Z4 (v28+1)))
  else
   none
 else
  some (Sum.inr l27)

def Z3m (a1:Z2) (a2:Int):Option (((List Ya))):=
 (UX a1 a2).bind fun r3=>match r3 with
 |l5=>
  (Z8 (fun s:(List Ya)×Int=>match s with|(l6,v7)=>Qx a1 a2 l5 l6 v7) ([],0)).bind fun r26=>match r26 with
  |l24=>
   (Z8 (fun s:(List Ya)×Int=>match s with|(l27,v28)=>Qy a1 a2 l27 v28) (l24,0)).bind fun r41=>match r41 with
   |l39=>
    some l39

def Qz (a1:Yc):Option (Bool):=
 if(decide (a1.bits≥0))=true then
  some (decide (a1.bits≤32))
 else
  some false

def QA (v2:Int) (v3:Int):Option ((Int×Int)⊕(Int)):=
 if(decide (v3<32))=true then
  some (Sum.inl (Z4 (v2 * 2),Z4 (v3+1)))
 else
  some (Sum.inr v2)

def QB (a1:Yc):Option (Int):=
 (Z8 (fun s:Int×Int=>match s with|(v2,v3)=>QA v2 v3) (1,a1.bits)).bind fun r8=>match r8 with
 |v6=>
  some v6

def QC (a1:Yc):Option (Int):=
 (Qz a1).bind fun r2=>
 if(!r2)=true then
  some 0
 else
  (QB a1).bind fun r5=>
  if(r5 !=0)=true then
   (QB a1).bind fun r8=>
   some (Xz (Z4 ((Z4 (Int.tdiv (Z4 a1.addr) r5)) * r8)))
  else
   none

def Z1h (a1:Yc):Option (Int):=
 (Qz a1).bind fun r2=>
 if(!r2)=true then
  some 0
 else
  (QC a1).bind fun r5=>
  (QB a1).bind fun r7=>
  some (Xz (Z4 ((Z4 ((Z4 r5)+r7)) -1)))

def Z1i (a1:Z2) (a2:Int):Option (Int):=
 (nth a1.irbs a2).bind fun x3=>
 (nth a1.domains x3.domain).bind fun x5=>
 some x5.dev

def Z3n (a1:Yc) (a2:Int):Option (Bool):=
 (Qz a1).bind fun r3=>
 if(r3)=true then
  (QC a1).bind fun r6=>
  if(decide (a2≥r6))=true then
   (Z1h a1).bind fun r9=>
   some (decide (a2≤r9))
  else
   some false
 else
  some false

def QD (a1:Z2) (a2:Int) (a3:Int) (v11:Int):Option ((Int)⊕(Unit⊕Unit)):=
 (nth a1.vrfs a2).bind fun x12=>
 if(decide (v11<(x12.exports.length:Int)))=true then
  (nth a1.vrfs a2).bind fun x15=>
  (nth a1.vrfs a3).bind fun x17=>
  if(x15.dev==x17.dev)=true then
   (nth a1.vrfs a3).bind fun x20=>
   (nth a1.vrfs a2).bind fun x22=>
   (nth x22.exports v11).bind fun x24=>
   (V1 x20.imports x24).bind fun r26=>
   if(r26)=true then
    some (Sum.inr (Sum.inl ()))
   else
    some (Sum.inl (Z4 (v11+1)))
  else
   some (Sum.inl (Z4 (v11+1)))
 else
  some (Sum.inr (Sum.inr ()))

def Z3o (a1:Z2) (a2:Int) (a3:Int):Option (Bool):=
 (Xg a2 (a1.vrfs.length:Int)).bind fun r4=>
 if(!r4)=true then
  some false
 else
  (Xg a3 (a1.vrfs.length:Int)).bind fun r7=>
  if(!r7)=true then
   some false
  else
   if(a2==a3)=true then
    some true
   else
    (Z8 (QD a1 a2 a3) 0).bind fun r30=>match r30 with
    |Sum.inl ()=>
     some true
    |Sum.inr ()=>
     some false

def Z3p (a1:Z2) (a2:Int) (a3:Int) (a4:Int):Option (Bool):=
 (nth a1.irbs a3).bind fun x5=>
 (nth a1.irbs a4).bind fun x7=>
 if(x5.net.bits !=x7.net.bits)=true then
  (nth a1.irbs a3).bind fun x10=>
  (nth a1.irbs a4).bind fun x12=>
  some (decide (x10.net.bits>x12.net.bits))
 else
  (nth a1.irbs a3).bind fun x14=>
  (nth a1.irbs a2).bind fun x16=>
  if(x14.vrf==x16.vrf)=true then
   (nth a1.irbs a4).bind fun x19=>
   (nth a1.irbs a2).bind fun x21=>
   some (x19.vrf !=x21.vrf)
  else
   some false

def QE (a1:Z2) (a2:Int) (a3:Int) (v7:Int) (v8:Int):Option ((Int×Int)⊕(Unit⊕Int)):=
 if(decide (v8<(a1.irbs.length:Int)))=true then
  (Z1i a1 v8).bind fun r10=>
  (Z1i a1 a2).bind fun r12=>
  if(r10 !=r12)=true then
   some (Sum.inl (v7,Z4 (v8+1)))
  else
   (nth a1.irbs v8).bind fun x15=>
   if(x15.net.addr==a3)=true then
    some (Sum.inr (Sum.inl ()))
   else
    (nth a1.irbs v8).bind fun x18=>
    (Z3n x18.net a3).bind fun r20=>
    if(!r20)=true then
     some (Sum.inl (v7,Z4 (v8+1)))
    else
     (nth a1.irbs v8).bind fun x23=>
     (nth a1.irbs a2).bind fun x25=>
     (Z3o a1 x23.vrf x25.vrf).bind fun r27=>
     if(!r27)=true then
      some (Sum.inl (v7,Z4 (v8+1)))
     else
      if(decide (v7<0))=true then
       some (Sum.inl (v8,Z4 (v8+1)))
      else
       (Z3p a1 a2 v8 v7).bind fun r31=>
       if(r31)=true then
        some (Sum.inl (v8,Z4 (v8+1)))
       else
        some (Sum.inl (v7,Z4 (v8+1)))
 else
  some (Sum.inr (Sum.inr v7))

def Z3q (a1:Z2) (a2:Int) (a3:Int):Option (Int×Bool):=
 (Xg a2 (a1.irbs.length:Int)).bind fun r4=>
 if(!r4)=true then
  some (0,false)
 else
  (Z8 (fun s:Int×Int=>match s with|(v7,v8)=>QE a1 a2 a3 v7 v8) ((-1),0)).bind fun r37=>match r37 with
  |Sum.inl ()=>
   some (0,false)
  |Sum.inr v35=>
   if(decide (v35<0))=true then
    some (0,false)
   else
    some (v35,true)

def QF (a1:Z2) (a2:Int) (v3:Int):Option ((Int)⊕(Unit⊕Unit)):=
 if(decide (v3<(a1.irbs.length:Int)))=true then
  (nth a1.irbs v3).bind fun x5=>
  if(x5.net.addr==a2)=true then
   some (Sum.inr (Sum.inl ()))
  else
   some (Sum.inl (Z4 (v3+1)))
 else
  some (Sum.inr (Sum.inr ()))

def Z3r (a1:Z2) (a2:Int):Option (Bool):=
 (Z8 (QF a1 a2) 0).bind fun r9=>match r9 with
 |Sum.inl ()=>
  some true
 |Sum.inr ()=>
  some false

def Z1j (a1:Z2) (a2:Int) (a3:Int) (a4:Int):Option (Bool):=
 (Z3q a1 a2 a4).bind fun r5=>
 if(r5.2)=true then
  if(r5.1==a3)=true then
   (Z3r a1 a4).bind fun r9=>
   some (!r9)
  else
   some false
 else
  some false

def UY (a1:Z2) (a2:Int) (a3:Int) (l14:List Int) (v15:Int):Option (((List Int)×Int)⊕((List Int))):=
 if(decide (v15<(a1.irbs.length:Int)))=true then
  (nth a1.irbs v15).bind fun x17=>
  (nth a1.irbs v15).bind fun x19=>
  (Z1h x19.net).bind fun r21=>
  if(ZZ 8 (l14++ [(Z4 ((Z4 x17.net.addr)+1):Int),(Z4 ((Z4 r21)+1):Int)]))=true then
   some (Sum.inl (l14++ [(Z4 ((Z4 x17.net.addr)+1):Int),(Z4 ((Z4 r21)+1):Int)],Z4 (v15+1)))
  else
   none
 else
  some (Sum.inr l14)

def UZ (a1:Z2) (a2:Int) (a3:Int) (l31:List Int) (v34:Int) (v35:Int):Option ((Int×Int)⊕(Int)):=
 if(decide (v35<((List.length l31):Int)))=true then
  if(lin l31 v35)=true then
   (l31[(Int.toNat v35)]?).bind fun x38=>
   if(decide (x38<4294967296))=true then
    if(decide (v34<0))=true then
     (Z1j a1 a2 a3 (Xz x38)).bind fun r42=>
     if(r42)=true then
      some (Sum.inl (x38,Z4 (v35+1)))
     else
      some (Sum.inl (v34,Z4 (v35+1)))
    else
     if(decide (x38<v34))=true then
      (Z1j a1 a2 a3 (Xz x38)).bind fun r46=>
      if(r46)=true then
       some (Sum.inl (x38,Z4 (v35+1)))
      else
       some (Sum.inl (v34,Z4 (v35+1)))
     else
      some (Sum.inl (v34,Z4 (v35+1)))
   else
    some (Sum.inl (v34,Z4 (v35+1)))
  else
   none
 else
  some (Sum.inr v34)

def T0 (a1:Z2) (a2:Int) (a3:Int):Option (Int×Bool):=
 (Xg a2 (a1.irbs.length:Int)).bind fun r4=>
 if(!r4)=true then
  some (0,false)
 else
  (Xg a3 (a1.irbs.length:Int)).bind fun r7=>
  if(!r7)=true then
   some (0,false)
  else
   (nth a1.irbs a3).bind fun x10=>
   (QC x10.net).bind fun r12=>
   (Z8 (fun s:(List Int)×Int=>match s with|(l14,v15)=>UY a1 a2 a3 l14 v15) ([(Z4 r12:Int)],0)).bind fun r33=>match r33 with
   |l31=>
    (Z8 (fun s:Int×Int=>match s with|(v34,v35)=>UZ a1 a2 a3 l31 v34 v35) ((-1),0)).bind fun r52=>match r52 with
    |v50=>
     if(decide (v50<0))=true then
      some (0,false)
     else
      some (Xz v50,true)

def QG (a1:Z2) (a2:Int) (l9:List YF) (v10:Int):Option (((List YF)×Int)⊕((List YF))):=
 if(decide (v10<(a1.irbs.length:Int)))=true then
  (nth a1.domains a2).bind fun x12=>
  (T0 a1 x12.irb v10).bind fun r14=>
  if(r14.2)=true then
   (nth a1.irbs v10).bind fun x17=>
   if(ZZ 24 (l9++ [(⟨v10,x17.domain,r14.1⟩:YF)]))=true then
    some (Sum.inl (l9++ [(⟨v10,x17.domain,r14.1⟩:YF)],Z4 (v10+1)))
   else
    none
  else
   some (Sum.inl (l9,Z4 (v10+1)))
 else
  some (Sum.inr l9)

def Uf (a1:Z2) (a2:Int):Option (((List YF))):=
 (Xg a2 (a1.domains.length:Int)).bind fun r3=>
 if(!r3)=true then
  some []
 else
  (nth a1.domains a2).bind fun x6=>
  if(x6.irb==(-1))=true then
   some []
  else
   (Z8 (fun s:(List YF)×Int=>match s with|(l9,v10)=>QG a1 a2 l9 v10) ([],0)).bind fun r24=>match r24 with
   |l22=>
    some l22

def QH (a1:Z2) (a2:List Int) (a3:Int) (v6:Int) (l10:List Int) (l11:List Bool) (v12:Int):Option (((List Bool)×Int)⊕((List Bool))):=
 if(decide (v12<((List.length l10):Int)))=true then
  if(lin l11 v6)=true then
   (l11[(Int.toNat v6)]?).bind fun x15=>
   if(x15)=true then
    (l11[(Int.toNat v6)]?).bind fun x18=>
    some (Sum.inl (List.set l11 (Int.toNat v6) true,Z4 (v12+1)))
   else
    if(lin l10 v12)=true then
     (l10[(Int.toNat v12)]?).bind fun x21=>
     (nth a2 x21).bind fun x23=>
     (l11[(Int.toNat v6)]?).bind fun x25=>
     some (Sum.inl (List.set l11 (Int.toNat v6) (x23==a3),Z4 (v12+1)))
    else
     none
  else
   none
 else
  some (Sum.inr l11)

def T1 (a1:Z2) (a2:List Int) (a3:Int) (l5:List Bool) (v6:Int):Option (((List Bool)×Int)⊕((List Bool))):=
 if(decide (v6<(a1.domains.length:Int)))=true then
  (UX a1 v6).bind fun r8=>match r8 with
  |l10=>
   (Z8 (fun s:(List Bool)×Int=>match s with|(l11,v12)=>QH a1 a2 a3 v6 l10 l11 v12) (l5,0)).bind fun r37=>match r37 with
   |l35=>
    some (Sum.inl (l35,Z4 (v6+1)))
 else
  some (Sum.inr l5)

def Z3s (a1:Z2) (v48:Int) (v52:Int) (l56:List Ya) (l57:List Bool) (l58:List Bool) (v59:Int):Option ((List Bool)):=
 if(lin l56 v59)=true then
  (l56[(Int.toNat v59)]?).bind fun x62=>
  (l56[(Int.toNat v59)]?).bind fun x64=>
  if(lin l57 x64.domain)=true then
   (l57[(Int.toNat x64.domain)]?).bind fun x67=>
   if(x67)=true then
    if(lin l57 x62.domain)=true then
     (l57[(Int.toNat x62.domain)]?).bind fun x71=>
     some (List.set l57 (Int.toNat x62.domain) true)
    else
     none
   else
    if(lin l57 v52)=true then
     (l57[(Int.toNat v52)]?).bind fun x74=>
     if(lin l57 x62.domain)=true then
      (l57[(Int.toNat x62.domain)]?).bind fun x77=>
      some (List.set l57 (Int.toNat x62.domain) x74)
     else
      none
    else
     none
  else
   none
 else
  none

def T2 (a1:Z2) (v48:Int) (v52:Int) (l56:List Ya) (l57:List Bool) (l58:List Bool) (v59:Int):Option (((List Bool)×(List Bool)×Int)⊕(((List Bool)×(List Bool)))):=
 if(decide (v59<((List.length l56):Int)))=true then
  (Z3s a1 v48 v52 l56 l57 l58 v59).bind fun r90=>match r90 with
  |l88=>
   if(lin l56 v59)=true then
    (l56[(Int.toNat v59)]?).bind fun x92=>
    (l56[(Int.toNat v59)]?).bind fun x94=>
    if(lin l58 x94.domain)=true then
     (l58[(Int.toNat x94.domain)]?).bind fun x97=>
     if(x97)=true then
      if(lin l58 x92.domain)=true then
       (l58[(Int.toNat x92.domain)]?).bind fun x101=>
       some (Sum.inl (l88,List.set l58 (Int.toNat x92.domain) true,Z4 (v59+1)))
      else
       none
     else
      if(lin l58 v52)=true then
       (l58[(Int.toNat v52)]?).bind fun x104=>
       if(lin l58 x92.domain)=true then
        (l58[(Int.toNat x92.domain)]?).bind fun x107=>
        some (Sum.inl (l88,List.set l58 (Int.toNat x92.domain) x104,Z4 (v59+1)))
       else
        none
      else
       none
    else
     none
   else
    none
 else
  some (Sum.inr (l57,l58))

def T3 (a1:Z2) (v48:Int) (l50:List Bool) (l51:List Bool) (v52:Int):Option (((List Bool)×(List Bool)×Int)⊕(((List Bool)×(List Bool)))):=
 if(decide (v52<(a1.domains.length:Int)))=true then
  (Z3m a1 v52).bind fun r54=>match r54 with
  |l56=>
   (Z8 (fun s:(List Bool)×(List Bool)×Int=>match s with|(l57,l58,v59)=>T2 a1 v48 v52 l56 l57 l58 v59) (l50,l51,0)).bind fun r126=>match r126 with
   |(l123,l124)=>
    some (Sum.inl (l123,l124,Z4 (v52+1)))
 else
  some (Sum.inr (l50,l51))

def T4 (a1:Z2) (v48:Int) (l139:List Bool) (v144:Int) (l149:List YF) (l150:List Bool) (v151:Int):Option (((List Bool)×Int)⊕((List Bool))):=
 if(decide (v151<((List.length l149):Int)))=true then
  if(lin l149 v151)=true then
   (l149[(Int.toNat v151)]?).bind fun x154=>
   (l149[(Int.toNat v151)]?).bind fun x156=>
   if(lin l150 x156.domain)=true then
    (l150[(Int.toNat x156.domain)]?).bind fun x159=>
    if(x159)=true then
     if(lin l150 x154.domain)=true then
      (l150[(Int.toNat x154.domain)]?).bind fun x163=>
      some (Sum.inl (List.set l150 (Int.toNat x154.domain) true,Z4 (v151+1)))
     else
      none
    else
     if(lin l139 v144)=true then
      (l139[(Int.toNat v144)]?).bind fun x166=>
      if(lin l150 x154.domain)=true then
       (l150[(Int.toNat x154.domain)]?).bind fun x169=>
       some (Sum.inl (List.set l150 (Int.toNat x154.domain) x166,Z4 (v151+1)))
      else
       none
     else
      none
   else
    none
  else
   none
 else
  some (Sum.inr l150)

def Vj (a1:Z2) (v48:Int) (l139:List Bool) (l143:List Bool) (v144:Int):Option (((List Bool)×Int)⊕((List Bool))):=
 if(decide (v144<(a1.domains.length:Int)))=true then
  if(v48==(a1.domains.length:Int))=true then
   (Uf a1 v144).bind fun r147=>match r147 with
   |l149=>
    (Z8 (fun s:(List Bool)×Int=>match s with|(l150,v151)=>T4 a1 v48 l139 v144 l149 l150 v151) (l143,0)).bind fun r180=>match r180 with
    |l178=>
     some (Sum.inl (l178,Z4 (v144+1)))
  else
   some (Sum.inr l143)
 else
  some (Sum.inr l143)

def T5 (a1:Z2) (l46:List Bool) (l47:List Bool) (v48:Int):Option (((List Bool)×(List Bool)×Int)⊕(((List Bool)×(List Bool)))):=
 if(decide (v48<(Z4 (2 * (a1.domains.length:Int)))))=true then
  (Z8 (fun s:(List Bool)×(List Bool)×Int=>match s with|(l50,l51,v52)=>T3 a1 v48 l50 l51 v52) (l46,l47,0)).bind fun r142=>match r142 with
  |(l139,l140)=>
   (Z8 (fun s:(List Bool)×Int=>match s with|(l143,v144)=>Vj a1 v48 l139 l143 v144) (l140,0)).bind fun r189=>match r189 with
   |l187=>
    some (Sum.inl (l139,l187,Z4 (v48+1)))
 else
  some (Sum.inr (l46,l47))

def Z3t (a1:Z2) (a2:List Int) (a3:Int):Option (((List Bool)×(List Bool))):=
 if(XY 1 (a1.domains.length:Int) (a1.domains.length:Int))=true then
  (Z8 (fun s:(List Bool)×Int=>match s with|(l5,v6)=>T1 a1 a2 a3 l5 v6) (List.replicate (Int.toNat (a1.domains.length:Int)) false,0)).bind fun r45=>match r45 with
  |l43=>
   (Z8 (fun s:(List Bool)×(List Bool)×Int=>match s with|(l46,l47,v48)=>T5 a1 l46 l47 v48) (l43,List.replicate (Int.toNat (a1.domains.length:Int)) false,0)).bind fun r201=>match r201 with
   |(l198,l199)=>
    some (l198,l199)
 else
  none

def Vk:Option ((Unit)):=
 some ()

def Z3u (a1:Z2) (a2:List Int) (v8:Int) (l16:List Bool) (l17:List Bool) (l18:List Y1) (v19:Int):Option ((List Y1)):=
 if(lin l16 v19)=true then
  (l16[(Int.toNat v19)]?).bind fun x22=>
  if(x22)=true then
   if(lin l18 v19)=true then
    (l18[(Int.toNat v19)]?).bind fun x26=>
    (Vk).bind fun r28=>match r28 with
    |()=>
     if(lin [(1:Int),(2:Int),(4:Int),(8:Int),(16:Int),(32:Int),(64:Int),(128:Int),(256:Int),(512:Int)] v8)=true then
      ([(1:Int),(2:Int),(4:Int),(8:Int),(16:Int),(32:Int),(64:Int),(128:Int),(256:Int),(512:Int)][(Int.toNat v8)]?).bind fun x31=>
      (l18[(Int.toNat v19)]?).bind fun x33=>
      some (List.set l18 (Int.toNat v19) (⟨Z4 (x26.plain+x31),x33.led⟩:Y1))
     else
      none
   else
    none
  else
   some l18
 else
  none

def T6 (a1:Z2) (a2:List Int) (v8:Int) (l16:List Bool) (l17:List Bool) (l18:List Y1) (v19:Int):Option (((List Y1)×Int)⊕((List Y1))):=
 if(decide (v19<((Int.toNat (a1.domains.length:Int)):Int)))=true then
  (Z3u a1 a2 v8 l16 l17 l18 v19).bind fun r46=>match r46 with
  |l44=>
   if(lin l17 v19)=true then
    (l17[(Int.toNat v19)]?).bind fun x48=>
    if(x48)=true then
     if(lin l44 v19)=true then
      (l44[(Int.toNat v19)]?).bind fun x52=>
      (Vk).bind fun r54=>match r54 with
      |()=>
       if(lin [(1:Int),(2:Int),(4:Int),(8:Int),(16:Int),(32:Int),(64:Int),(128:Int),(256:Int),(512:Int)] v8)=true then
        ([(1:Int),(2:Int),(4:Int),(8:Int),(16:Int),(32:Int),(64:Int),(128:Int),(256:Int),(512:Int)][(Int.toNat v8)]?).bind fun x57=>
        (l44[(Int.toNat v19)]?).bind fun x59=>
        some (Sum.inl (List.set l44 (Int.toNat v19) (⟨x59.plain,Z4 (x52.led+x57)⟩:Y1),Z4 (v19+1)))
       else
        none
     else
      none
    else
     some (Sum.inl (l44,Z4 (v19+1)))
   else
    none
 else
  some (Sum.inr l18)

def T7 (a1:Z2) (a2:List Int) (l7:List Y1) (v8:Int):Option (((List Y1)×Int)⊕((List Y1))):=
 if(decide (v8<10))=true then
  (Z3j a2 v8).bind fun r10=>match r10 with
  |l12=>
   if(((List.length l12):Int)==0)=true then
    some (Sum.inl (l7,Z4 (v8+1)))
   else
    (Z3t a1 a2 v8).bind fun r14=>match r14 with
    |(l16,l17)=>
     (Z8 (fun s:(List Y1)×Int=>match s with|(l18,v19)=>T6 a1 a2 v8 l16 l17 l18 v19) (l7,0)).bind fun r69=>match r69 with
     |l67=>
      some (Sum.inl (l67,Z4 (v8+1)))
 else
  some (Sum.inr l7)

def T8 (a1:Z2) (a2:List Int):Option (((List Y1)×Nat×Bool)):=
 (Qv a1 a2).bind fun r3=>
 if(!r3)=true then
  some ([],0,false)
 else
  if(XY 16 (a1.domains.length:Int) (a1.domains.length:Int))=true then
   (Z8 (fun s:(List Y1)×Int=>match s with|(l7,v8)=>T7 a1 a2 l7 v8) (List.replicate (Int.toNat (a1.domains.length:Int)) (⟨0,0⟩:Y1),0)).bind fun r75=>match r75 with
   |l73=>
    some (l73,(Int.toNat (a1.domains.length:Int)),true)
  else
   none

def Ug (a1:Int) (a2:Int):Option (Bool):=
 if(decide (a2<0))=true then
  some false
 else
  if(decide (a2>9))=true then
   some false
  else
   if(decide (a1<0))=true then
    (Vk).bind fun r6=>match r6 with
    |()=>
     if(lin [(1:Int),(2:Int),(4:Int),(8:Int),(16:Int),(32:Int),(64:Int),(128:Int),(256:Int),(512:Int)] a2)=true then
      ([(1:Int),(2:Int),(4:Int),(8:Int),(16:Int),(32:Int),(64:Int),(128:Int),(256:Int),(512:Int)][(Int.toNat a2)]?).bind fun x9=>
      if(x9 !=0)=true then
       some ((Int.tmod (Z4 (Int.tdiv (Z4 ((Z4 ((Z4 (a1+512)) -(Z4 ((Z4 (Int.tdiv a1 1024)) * 1024))))+512)) x9)) 2)==1)
      else
       none
     else
      none
   else
    (Vk).bind fun r12=>match r12 with
    |()=>
     if(lin [(1:Int),(2:Int),(4:Int),(8:Int),(16:Int),(32:Int),(64:Int),(128:Int),(256:Int),(512:Int)] a2)=true then
      ([(1:Int),(2:Int),(4:Int),(8:Int),(16:Int),(32:Int),(64:Int),(128:Int),(256:Int),(512:Int)][(Int.toNat a2)]?).bind fun x15=>
      if(x15 !=0)=true then
       some ((Int.tmod (Z4 (Int.tdiv a1 x15)) 2)==1)
      else
       none
     else
      none

def T9 (a1:Z2) (l5:List Y1) (n6:Nat) (v11:Int) (l13:List Int) (v14:Int) (v19:Bool) (v20:Int):Option ((Bool×Int)⊕(Bool)):=
 if(decide (v20<(n6:Int)))=true then
  (UX a1 v20).bind fun r22=>match r22 with
  |l24=>
   (V1 l24 v11).bind fun r25=>
   if(v19)=true then
    some (Sum.inl (true,Z4 (v20+1)))
   else
    if(r25)=true then
     if(lin l5 v20)=true then
      (l5[(Int.toNat v20)]?).bind fun x30=>
      (Ug x30.plain v14).bind fun r32=>
      if(r32)=true then
       some (Sum.inl (true,Z4 (v20+1)))
      else
       (l5[(Int.toNat v20)]?).bind fun x35=>
       (Ug x35.led v14).bind fun r37=>
       some (Sum.inl (r37,Z4 (v20+1)))
     else
      none
    else
     some (Sum.inl (false,Z4 (v20+1)))
 else
  some (Sum.inr v19)

def Vl (a1:Z2) (l5:List Y1) (n6:Nat) (v11:Int) (l13:List Int) (v14:Int):Option (((List Int)×Int)⊕((List Int))):=
 if(decide (v14<10))=true then
  (nth a1.ports v11).bind fun x16=>
  if(x16.link==(-1))=true then
   (Z8 (fun s:Bool×Int=>match s with|(v19,v20)=>T9 a1 l5 n6 v11 l13 v14 v19 v20) (false,0)).bind fun r42=>match r42 with
   |v40=>
    if(v40)=true then
     if(lin l13 v11)=true then
      (l13[(Int.toNat v11)]?).bind fun x45=>
      (Vk).bind fun r47=>match r47 with
      |()=>
       if(lin [(1:Int),(2:Int),(4:Int),(8:Int),(16:Int),(32:Int),(64:Int),(128:Int),(256:Int),(512:Int)] v14)=true then
        ([(1:Int),(2:Int),(4:Int),(8:Int),(16:Int),(32:Int),(64:Int),(128:Int),(256:Int),(512:Int)][(Int.toNat v14)]?).bind fun x50=>
        (l13[(Int.toNat v11)]?).bind fun x52=>
        some (Sum.inl (List.set l13 (Int.toNat v11) (Z4 (x45+x50):Int),Z4 (v14+1)))
       else
        none
     else
      none
    else
     some (Sum.inl (l13,Z4 (v14+1)))
  else
   some (Sum.inr l13)
 else
  some (Sum.inr l13)

def QI (a1:Z2) (l5:List Y1) (n6:Nat) (l10:List Int) (v11:Int):Option (((List Int)×Int)⊕((List Int))):=
 if(decide (v11<(a1.ports.length:Int)))=true then
  (Z8 (fun s:(List Int)×Int=>match s with|(l13,v14)=>Vl a1 l5 n6 v11 l13 v14) (l10,0)).bind fun r62=>match r62 with
  |l60=>
   some (Sum.inl (l60,Z4 (v11+1)))
 else
  some (Sum.inr l10)

def Z3v (a1:Z2) (a2:List Int):Option (((List Int)×Nat×Bool)):=
 (T8 a1 a2).bind fun r3=>match r3 with
 |(l5,n6,v7)=>
  if(!v7)=true then
   some ([],0,false)
  else
   if(XY 8 (a1.ports.length:Int) (a1.ports.length:Int))=true then
    (Z8 (fun s:(List Int)×Int=>match s with|(l10,v11)=>QI a1 l5 n6 l10 v11) (List.replicate (Int.toNat (a1.ports.length:Int)) (0:Int),0)).bind fun r68=>match r68 with
    |l66=>
     some (l66,(Int.toNat (a1.ports.length:Int)),true)
   else
    none

def Ta (a1:List Int) (a2:List Int) (a3:Int) (a4:Int) (v5:Int) (v6:Int) (v7:Int):Option ((Int×Int×Int)⊕((Int×Int))):=
 if(decide (v7<(a1.length:Int)))=true then
  (nth a1 v7).bind fun x9=>
  if(x9 !=a4)=true then
   some (Sum.inl (v5,v6,Z4 (v7+1)))
  else
   (nth a2 v7).bind fun x12=>
   (Ug x12 a3).bind fun r14=>
   if(!r14)=true then
    some (Sum.inl (v5,v6,Z4 (v7+1)))
   else
    if(decide (v6<0))=true then
     some (Sum.inl (Z4 (v5+1),v7,Z4 (v7+1)))
    else
     some (Sum.inl (Z4 (v5+1),v6,Z4 (v7+1)))
 else
  some (Sum.inr (v5,v6))

def VN (a1:List Int) (a3:Int) (v26:Int) (v27:Int) (v30:Int) (v31:Int):Option ((Int×Int)⊕(Int)):=
 if(decide (v31<(a1.length:Int)))=true then
  if(decide (v26>0))=true then
   (nth a1 v31).bind fun x34=>
   if(x34==a3)=true then
    if(decide (v30<0))=true then
     some (Sum.inl (v31,Z4 (v31+1)))
    else
     some (Sum.inl (v30,Z4 (v31+1)))
   else
    some (Sum.inl (v30,Z4 (v31+1)))
  else
   some (Sum.inr v30)
 else
  some (Sum.inr v30)

def Z3w (a1:List Int) (a2:List Int) (a3:Int) (a4:Int):Option (ZJ):=
 (Z8 (fun s:Int×Int×Int=>match s with|(v5,v6,v7)=>Ta a1 a2 a3 a4 v5 v6 v7) (0,(-1),0)).bind fun r29=>match r29 with
 |(v26,v27)=>
  (Z8 (fun s:Int×Int=>match s with|(v30,v31)=>VN a1 a3 v26 v27 v30 v31) ((-1),0)).bind fun r42=>match r42 with
  |v40=>
   some (⟨v26,v40,v27⟩:ZJ)

def Tb (a1:Z2) (a2:List Int) (a3:Int) (v9:Int):Option ((Int)⊕(Unit⊕Unit)):=
 if(decide (v9<(a2.length:Int)))=true then
  (nth a2 v9).bind fun x11=>
  if(decide (x11≥a3))=true then
   some (Sum.inr (Sum.inl ()))
  else
   some (Sum.inl (Z4 (v9+1)))
 else
  some (Sum.inr (Sum.inr ()))

def Tc (a2:List Int) (a3:Int) (l18:List Int) (n19:Nat) (l21:List (List ZJ)) (v22:Int) (l24:List ZJ) (v25:Int):Option (((List ZJ)×Int)⊕((List ZJ))):=
 if(decide (v25<a3))=true then
  (Z3w a2 l18 v22 v25).bind fun r27=>
  if(ZZ 24 (l24++ [r27]))=true then
   some (Sum.inl (l24++ [r27],Z4 (v25+1)))
  else
   none
 else
  some (Sum.inr l24)

def Td (a2:List Int) (a3:Int) (l18:List Int) (n19:Nat) (l21:List (List ZJ)) (v22:Int):Option (((List (List ZJ))×Int)⊕((List (List ZJ)))):=
 if(decide (v22<a3))=true then
  (Z8 (fun s:(List ZJ)×Int=>match s with|(l24,v25)=>Tc a2 a3 l18 n19 l21 v22 l24 v25) ([],0)).bind fun r40=>match r40 with
  |l38=>
   if(ZZ 24 (l21++ [l38]))=true then
    some (Sum.inl (l21++ [l38],Z4 (v22+1)))
   else
    none
 else
  some (Sum.inr l21)

def Z3x (a1:Z2) (a2:List Int) (a3:Int):Option (((List (List ZJ))×Bool)):=
 (Qv a1 a2).bind fun r4=>
 if(!r4)=true then
  some ([],false)
 else
  if(decide (a3<0))=true then
   some ([],false)
  else
   if(decide (a3>10))=true then
    some ([],false)
   else
    (Z8 (Tb a1 a2 a3) 0).bind fun r15=>match r15 with
    |Sum.inl ()=>
     some ([],false)
    |Sum.inr ()=>
     (Z3v a1 a2).bind fun r16=>match r16 with
     |(l18,n19,v20)=>
      (Z8 (fun s:(List (List ZJ))×Int=>match s with|(l21,v22)=>Td a2 a3 l18 n19 l21 v22) ([],0)).bind fun r47=>match r47 with
      |l45=>
       some (l45,true)

def QJ (a1:ByteArray) (v7:Int):Option ((Int)⊕(Unit⊕Unit)):=
 if(decide (v7<(a1.size:Int)))=true then
  if(decide (0≤(v7:Int)∧(v7:Int) <(a1.size:Int)))=true then
   if(decide ((Yr a1 v7) <97))=true then
    if(decide ((Yr a1 v7) <48))=true then
     some (Sum.inr (Sum.inl ()))
    else
     if(decide ((Yr a1 v7) >57))=true then
      some (Sum.inr (Sum.inl ()))
     else
      some (Sum.inl (Z4 (v7+1)))
   else
    if(decide ((Yr a1 v7) >122))=true then
     if(decide ((Yr a1 v7) <48))=true then
      some (Sum.inr (Sum.inl ()))
     else
      if(decide ((Yr a1 v7) >57))=true then
       some (Sum.inr (Sum.inl ()))
      else
       some (Sum.inl (Z4 (v7+1)))
    else
     some (Sum.inl (Z4 (v7+1)))
  else
   none
 else
  some (Sum.inr (Sum.inr ()))

def Z3y (a1:ByteArray):Option (Bool):=
 if(decide ((a1.size:Int) <1))=true then
  some false
 else
  if(decide ((a1.size:Int) >12))=true then
   some false
  else
   if(decide (0≤(0:Int)∧(0:Int) <(a1.size:Int)))=true then
    if(decide ((Yr a1 0) <97))=true then
     some false
    else
     if(decide ((Yr a1 0) >122))=true then
      some false
     else
      (Z8 (QJ a1) 0).bind fun r17=>match r17 with
      |Sum.inl ()=>
       some false
      |Sum.inr ()=>
       some true
   else
    none

def QK (a1:List ByteArray) (v2:Int):Option ((Int)⊕(Unit⊕Unit)):=
 if(decide (v2<(a1.length:Int)))=true then
  (nth a1 v2).bind fun x4=>
  (Z3y x4).bind fun r6=>
  if(!r6)=true then
   some (Sum.inr (Sum.inl ()))
  else
   some (Sum.inl (Z4 (v2+1)))
 else
  some (Sum.inr (Sum.inr ()))

def Z3z (a1:List ByteArray):Option (Bool):=
 (Z8 (QK a1) 0).bind fun r10=>match r10 with
 |Sum.inl ()=>
  some false
 |Sum.inr ()=>
  some true

def Z3A (a3:Int) (l6:List Y1) (n7:Nat) (l9:List Int) (l10:List Int) (v11:Int):Option ((List Int)):=
 if(lin l6 v11)=true then
  (l6[(Int.toNat v11)]?).bind fun x14=>
  (Ug x14.plain a3).bind fun r16=>
  if(r16)=true then
   if(ZZ 8 (l9++ [v11]))=true then
    some (l9++ [v11])
   else
    none
  else
   some l9
 else
  none

def Te (a3:Int) (l6:List Y1) (n7:Nat) (l9:List Int) (l10:List Int) (v11:Int):Option (((List Int)×(List Int)×Int)⊕(((List Int)×(List Int)))):=
 if(decide (v11<(n7:Int)))=true then
  (Z3A a3 l6 n7 l9 l10 v11).bind fun r29=>match r29 with
  |l27=>
   if(lin l6 v11)=true then
    (l6[(Int.toNat v11)]?).bind fun x31=>
    (Ug x31.led a3).bind fun r33=>
    if(r33)=true then
     if(ZZ 8 (l10++ [v11]))=true then
      some (Sum.inl (l27,l10++ [v11],Z4 (v11+1)))
     else
      none
    else
     some (Sum.inl (l27,l10,Z4 (v11+1)))
   else
    none
 else
  some (Sum.inr (l9,l10))

def Z1k (a1:Z2) (a2:List Int) (a3:Int):Option (((List Int)×(List Int))):=
 (T8 a1 a2).bind fun r4=>match r4 with
 |(l6,n7,v8)=>
  (Z8 (fun s:(List Int)×(List Int)×Int=>match s with|(l9,l10,v11)=>Te a3 l6 n7 l9 l10 v11) ([],[],0)).bind fun r48=>match r48 with
  |(l45,l46)=>
   some (l45,l46)

def QL (v2:Int) (v3:ByteArray):Option ((Int×ByteArray)⊕((Int×ByteArray))):=
 if(decide (v2≥10))=true then
  if(Ys (Yu [(Xc (Y0 (48+(Int.tmod v2 10))):Int)]) v3)=true then
   some (Sum.inl (Y0 (Int.tdiv v2 10),(Yu [(Xc (Y0 (48+(Int.tmod v2 10))):Int)])++v3))
  else
   none
 else
  some (Sum.inr (v2,v3))

def Z1l (a1:Int):Option (ByteArray):=
 (Z8 (fun s:Int×ByteArray=>match s with|(v2,v3)=>QL v2 v3) (a1,(⟨#[]⟩:ByteArray))).bind fun r11=>match r11 with
 |(v8,v9)=>
  if(Ys (Yu [(Xc (Y0 (48+v8)):Int)]) v9)=true then
   some ((Yu [(Xc (Y0 (48+v8)):Int)])++v9)
  else
   none

def Z3B (a1:Int):Option (ByteArray):=
 if(decide (a1<0))=true then
  (Z1l (Y0 ((Y0 (Z4 (0-(Z4 (a1+1)))))+1))).bind fun r3=>
  if(Ys (⟨#[45]⟩:ByteArray) r3)=true then
   some ((⟨#[45]⟩:ByteArray)++r3)
  else
   none
 else
  (Z1l (Y0 a1)).bind fun r6=>
  some r6

def Z1m (a1:Z2) (a2:Int):Option (ByteArray):=
 (Xg a2 (a1.domains.length:Int)).bind fun r3=>
 if(!r3)=true then
  some (⟨#[]⟩:ByteArray)
 else
  (nth a1.domains a2).bind fun x6=>
  (nth a1.devices x6.dev).bind fun x8=>
  if(Ys x8.name (⟨#[47]⟩:ByteArray))=true then
   (Z3B x6.vlan).bind fun r11=>
   if(Ys (x8.name++(⟨#[47]⟩:ByteArray)) r11)=true then
    some ((x8.name++(⟨#[47]⟩:ByteArray))++r11)
   else
    none
  else
   none

def Tf (a1:Z2) (a2:List Int) (a3:List ByteArray) (v12:Int) (l20:List Int) (l21:List Int) (v22:ByteArray) (v23:Int):Option ((ByteArray×Int)⊕(ByteArray)):=
 if(decide (v23<((List.length l20):Int)))=true then
  if(Ys v22 (⟨#[32]⟩:ByteArray))=true then
   if(lin l20 v23)=true then
    (l20[(Int.toNat v23)]?).bind fun x27=>
    (Z1m a1 x27).bind fun r29=>
    if(Ys (v22++(⟨#[32]⟩:ByteArray)) r29)=true then
     some (Sum.inl ((v22++(⟨#[32]⟩:ByteArray))++r29,Z4 (v23+1)))
    else
     none
   else
    none
  else
   none
 else
  some (Sum.inr v22)

def Z3C (a1:Z2) (a2:List Int) (a3:List ByteArray) (v12:Int) (l21:List Int) (v33:ByteArray):Option (ByteArray):=
 if(decide (((List.length l21):Int) >0))=true then
  if(Ys v33 (⟨#[32,124]⟩:ByteArray))=true then
   some (v33++(⟨#[32,124]⟩:ByteArray))
  else
   none
 else
  some v33

def Tg (a1:Z2) (a2:List Int) (a3:List ByteArray) (v12:Int) (l21:List Int) (v42:ByteArray) (v43:Int):Option ((ByteArray×Int)⊕(ByteArray)):=
 if(decide (v43<((List.length l21):Int)))=true then
  if(Ys v42 (⟨#[32]⟩:ByteArray))=true then
   if(lin l21 v43)=true then
    (l21[(Int.toNat v43)]?).bind fun x47=>
    (Z1m a1 x47).bind fun r49=>
    if(Ys (v42++(⟨#[32]⟩:ByteArray)) r49)=true then
     some (Sum.inl ((v42++(⟨#[32]⟩:ByteArray))++r49,Z4 (v43+1)))
    else
     none
   else
    none
  else
   none
 else
  some (Sum.inr v42)

def Uh (a1:Z2) (a2:List Int) (a3:List ByteArray) (v11:ByteArray) (v12:Int):Option ((ByteArray×Int)⊕(ByteArray)):=
 if(decide (v12<(a3.length:Int)))=true then
  (nth a3 v12).bind fun x14=>
  if(Ys v11 x14)=true then
   if(Ys (v11++x14) (⟨#[58]⟩:ByteArray))=true then
    (Z1k a1 a2 v12).bind fun r18=>match r18 with
    |(l20,l21)=>
     (Z8 (fun s:ByteArray×Int=>match s with|(v22,v23)=>Tf a1 a2 a3 v12 l20 l21 v22 v23) ((v11++x14)++(⟨#[58]⟩:ByteArray),0)).bind fun r35=>match r35 with
     |v33=>
      (Z3C a1 a2 a3 v12 l21 v33).bind fun r41=>match r41 with
      |v39=>
       (Z8 (fun s:ByteArray×Int=>match s with|(v42,v43)=>Tg a1 a2 a3 v12 l21 v42 v43) (v39,0)).bind fun r55=>match r55 with
       |v53=>
        if(Ys v53 (⟨#[10]⟩:ByteArray))=true then
         some (Sum.inl (v53++(⟨#[10]⟩:ByteArray),Z4 (v12+1)))
        else
         none
   else
    none
  else
   none
 else
  some (Sum.inr v11)

def Z3D (a1:Z2) (a2:List Int) (a3:List ByteArray):Option (ByteArray×Int):=
 (Qv a1 a2).bind fun r4=>
 if(!r4)=true then
  some ((⟨#[]⟩:ByteArray),2)
 else
  if(decide ((a3.length:Int) >10))=true then
   some ((⟨#[]⟩:ByteArray),2)
  else
   (Z3z a3).bind fun r8=>
   if(!r8)=true then
    some ((⟨#[]⟩:ByteArray),2)
   else
    (Z8 (fun s:ByteArray×Int=>match s with|(v11,v12)=>Uh a1 a2 a3 v11 v12) ((⟨#[]⟩:ByteArray),0)).bind fun r60=>match r60 with
    |v58=>
     some (v58,0)

def Z1n (a1:List (List Z6)) (l2:List (List ZJ)) (v3:Int) (x5:List Z6) (l7:List ZJ) (v8:Int):Option (((List ZJ)×Int)⊕((List ZJ))):=
 if(decide (v8<(x5.length:Int)))=true then
  (nth x5 v8).bind fun x10=>
  if(ZZ 24 (l7++ [(⟨x10.ports,x10.from_,x10.to⟩:ZJ)]))=true then
   some (Sum.inl (l7++ [(⟨x10.ports,x10.from_,x10.to⟩:ZJ)],Z4 (v8+1)))
  else
   none
 else
  some (Sum.inr l7)

def Z1o (a1:List (List Z6)) (l2:List (List ZJ)) (v3:Int):Option (((List (List ZJ))×Int)⊕((List (List ZJ)))):=
 if(decide (v3<(a1.length:Int)))=true then
  (nth a1 v3).bind fun x5=>
  (Z8 (fun s:(List ZJ)×Int=>match s with|(l7,v8)=>Z1n a1 l2 v3 x5 l7 v8) ([],0)).bind fun r21=>match r21 with
  |l19=>
   if(ZZ 24 (l2++ [l19]))=true then
    some (Sum.inl (l2++ [l19],Z4 (v3+1)))
   else
    none
 else
  some (Sum.inr l2)

def Z3E (a1:List (List Z6)):Option (((List (List ZJ)))):=
 (Z8 (fun s:(List (List ZJ))×Int=>match s with|(l2,v3)=>Z1o a1 l2 v3) ([],0)).bind fun r27=>match r27 with
 |l25=>
  some l25

def QM (a1:List (List ZJ)) (a2:List (List ZJ)) (v4:Int) (x11:List ZJ) (v13:Int):Option ((Int)⊕(Unit⊕Unit)):=
 if(decide (v13<(x11.length:Int)))=true then
  (nth a1 v4).bind fun x15=>
  (nth x15 v13).bind fun x17=>
  (nth a2 v4).bind fun x19=>
  (nth x19 v13).bind fun x21=>
  if(!(Z7j x17 x21))=true then
   some (Sum.inr (Sum.inl ()))
  else
   some (Sum.inl (Z4 (v13+1)))
 else
  some (Sum.inr (Sum.inr ()))

def QN (a1:List (List ZJ)) (a2:List (List ZJ)) (v4:Int):Option ((Int)⊕(Unit⊕Unit)):=
 if(decide (v4<(a1.length:Int)))=true then
  (nth a1 v4).bind fun x6=>
  (nth a2 v4).bind fun x8=>
  if((x6.length:Int) !=(x8.length:Int))=true then
   some (Sum.inr (Sum.inl ()))
  else
   (nth a1 v4).bind fun x11=>
   (Z8 (QM a1 a2 v4 x11) 0).bind fun r25=>match r25 with
   |Sum.inl ()=>
    some (Sum.inr (Sum.inl ()))
   |Sum.inr ()=>
    some (Sum.inl (Z4 (v4+1)))
 else
  some (Sum.inr (Sum.inr ()))

def Z3F (a1:List (List ZJ)) (a2:List (List ZJ)):Option (Bool):=
 if((a1.length:Int) !=(a2.length:Int))=true then
  some false
 else
  (Z8 (QN a1 a2) 0).bind fun r27=>match r27 with
  |Sum.inl ()=>
   some false
  |Sum.inr ()=>
   some true

def QO (a1:Z2) (a2:List Int) (a3:Int) (a4:List ByteArray) (v18:Int):Option ((Int)⊕(Bool⊕Unit)):=
 if(decide (v18<(a1.devices.length:Int)))=true then
  (nth a1.devices v18).bind fun x20=>
  if(decide ((x20.name.size:Int) >300))=true then
   (Ud).bind fun r23=>
   some (Sum.inr (Sum.inl r23))
  else
   some (Sum.inl (Z4 (v18+1)))
 else
  some (Sum.inr (Sum.inr ()))

def Z5u (a1:Z2) (a2:List Int) (a3:Int) (a4:List ByteArray):Option (Bool):=
 (Z2i a1).bind fun r5=>
 if(r5)=true then
  (Ud).bind fun r8=>
  some r8
 else
  if(decide ((a2.length:Int) >300))=true then
   (Ud).bind fun r11=>
   some r11
  else
   (Z3b a4).bind fun r13=>
   if(r13)=true then
    (Ud).bind fun r16=>
    some r16
   else
    (Z8 (QO a1 a2 a3 a4) 0).bind fun r28=>match r28 with
    |Sum.inl v26=>
     some v26
    |Sum.inr ()=>
     (Z10 a1 a2 a3).bind fun r29=>match r29 with
     |(l31,n32,v33)=>
      (Z3x a1 a2 a3).bind fun r34=>match r34 with
      |(l36,v37)=>
       (Z14 a1 a2 a4).bind fun r38=>
       (Z3D a1 a2 a4).bind fun r40=>
       (Z3E l31).bind fun r42=>match r42 with
       |l44=>
        (Z3F l44 l36).bind fun r45=>
        if(r45)=true then
         if(v33==v37)=true then
          if(Z2h r38.1 r40.1)=true then
           if(r38.2==r40.2)=true then
            (Ud).bind fun r51=>
            some r51
           else
            some false
          else
           some false
         else
          some false
        else
         some false

end Go.Eng
