/- Part of the proof of NamesOwn: printed mirrors of the functions, or their contracts. No conditions. -/
import Derived.Test.YtcclngfmkodgjaaEng14
set_option linter.unusedVariables false
set_option maxRecDepth 100000
namespace Go.Eng
open Go
structure Api_Device where
 row : Int
 priority : Int
 name : ByteArray
 mac : Int
 vtep : Int
 deriving DecidableEq, Inhabited

def Api_Device.Ok (x : Api_Device) : Prop := (okI .i64) x.row ∧ (okI .i64) x.priority ∧ okS x.name ∧ (okI .u64) x.mac ∧ (okI .u32) x.vtep ∧ True

structure Api_Port where
 row : Int
 dev : Int
 native : Int
 cost : Int
 link : Int
 name : ByteArray
 tagged : List Int
 deriving DecidableEq, Inhabited

def Api_Port.Ok (x : Api_Port) : Prop := (okI .i64) x.row ∧ (okI .i64) x.dev ∧ (okI .i64) x.native ∧ (okI .i64) x.cost ∧ (okI .i64) x.link ∧ okS x.name ∧ (okL (okI .i64)) x.tagged ∧ True

structure Api_Link where
 row : Int
 a : Int
 b : Int
 deriving DecidableEq, Inhabited

def Api_Link.Ok (x : Api_Link) : Prop := (okI .i64) x.row ∧ (okI .i64) x.a ∧ (okI .i64) x.b ∧ True

structure Api_Domain where
 dev : Int
 vlan : Int
 vni : Int
 irb : Int
 row : Int
 peers : List Int
 deriving DecidableEq, Inhabited

def Api_Domain.Ok (x : Api_Domain) : Prop := (okI .i64) x.dev ∧ (okI .i64) x.vlan ∧ (okI .i64) x.vni ∧ (okI .i64) x.irb ∧ (okI .i64) x.row ∧ (okL (okI .i64)) x.peers ∧ True

structure Api_Static where
 row : Int
 domain : Int
 port : Int
 mac : Int
 deriving DecidableEq, Inhabited

def Api_Static.Ok (x : Api_Static) : Prop := (okI .i64) x.row ∧ (okI .i64) x.domain ∧ (okI .i64) x.port ∧ (okI .u64) x.mac ∧ True

structure Api_Flood where
 row : Int
 dev : Int
 vni : Int
 addrs : List Int
 deriving DecidableEq, Inhabited

def Api_Flood.Ok (x : Api_Flood) : Prop := (okI .i64) x.row ∧ (okI .i64) x.dev ∧ (okI .i64) x.vni ∧ (okL (okI .u32)) x.addrs ∧ True

structure Api_Vrf where
 row : Int
 dev : Int
 name : ByteArray
 imports : List Int
 exports : List Int
 deriving DecidableEq, Inhabited

def Api_Vrf.Ok (x : Api_Vrf) : Prop := (okI .i64) x.row ∧ (okI .i64) x.dev ∧ okS x.name ∧ (okL (okI .i64)) x.imports ∧ (okL (okI .i64)) x.exports ∧ True

structure Api_Prefix where
 addr : Int
 bits : Int
 deriving DecidableEq, Inhabited

def Api_Prefix.Ok (x : Api_Prefix) : Prop := (okI .u32) x.addr ∧ (okI .i64) x.bits ∧ True

structure Api_Irb where
 row : Int
 domain : Int
 vrf : Int
 net : Api_Prefix
 deriving DecidableEq, Inhabited

def Api_Irb.Ok (x : Api_Irb) : Prop := (okI .i64) x.row ∧ (okI .i64) x.domain ∧ (okI .i64) x.vrf ∧ Api_Prefix.Ok x.net ∧ True

structure Api_Net where
 devices : List Api_Device
 ports : List Api_Port
 links : List Api_Link
 domains : List Api_Domain
 statics : List Api_Static
 floods : List Api_Flood
 vrfs : List Api_Vrf
 irbs : List Api_Irb
 deriving DecidableEq, Inhabited

def Api_Net.Ok (x : Api_Net) : Prop := (okL Api_Device.Ok) x.devices ∧ (okL Api_Port.Ok) x.ports ∧ (okL Api_Link.Ok) x.links ∧ (okL Api_Domain.Ok) x.domains ∧ (okL Api_Static.Ok) x.statics ∧ (okL Api_Flood.Ok) x.floods ∧ (okL Api_Vrf.Ok) x.vrfs ∧ (okL Api_Irb.Ok) x.irbs ∧ True

structure Names_judge where
 n : Api_Net
 deriving DecidableEq, Inhabited

def Names_judge.Ok (x : Names_judge) : Prop := Api_Net.Ok x.n ∧ True

def eq_Api_Device (x y : Api_Device) : Bool := (x.row == y.row && (x.priority == y.priority && (seqB x.name y.name && (x.mac == y.mac && (x.vtep == y.vtep && true)))))

def eq_Api_Link (x y : Api_Link) : Bool := (x.row == y.row && (x.a == y.a && (x.b == y.b && true)))

def eq_Api_Static (x y : Api_Static) : Bool := (x.row == y.row && (x.domain == y.domain && (x.port == y.port && (x.mac == y.mac && true))))

def eq_Api_Prefix (x y : Api_Prefix) : Bool := (x.addr == y.addr && (x.bits == y.bits && true))

def eq_Api_Irb (x y : Api_Irb) : Bool := (x.row == y.row && (x.domain == y.domain && (x.vrf == y.vrf && (eq_Api_Prefix x.net y.net && true))))

def names_judge_few (a1 : Names_judge) : Option (Bool) :=
 if (decide ((a1.n.devices.length : Int) ≤ 8)) = true then
  if (decide ((a1.n.ports.length : Int) ≤ 40)) = true then
   if (decide ((a1.n.links.length : Int) ≤ 20)) = true then
    if (decide ((a1.n.domains.length : Int) ≤ 48)) = true then
     if (decide ((a1.n.statics.length : Int) ≤ 64)) = true then
      if (decide ((a1.n.floods.length : Int) ≤ 48)) = true then
       if (decide ((a1.n.vrfs.length : Int) ≤ 16)) = true then
        some (decide ((a1.n.irbs.length : Int) ≤ 48))
       else
        some false
      else
       some false
     else
      some false
    else
     some false
   else
    some false
  else
   some false
 else
  some false

def names_place_Device (a1 : List Api_Device) (a2 : Int) : Option (Bool) :=
 if (decide (a2 ≥ 0)) = true then
  some (decide (a2 < (a1.length : Int)))
 else
  some false

def names_judge_domain_1 (a1 : Api_Domain) (a2 : Int) (a3 : Int) : Option (Bool) :=
 if (a1.dev == a2) = true then
  some (a1.vlan == a3)
 else
  some false

def slices_IndexFunc_Domain_judge_domain_1_L1 (a1 : List Api_Domain) (a2 : Int) (a3 : Int) (v4 : Int) : Option ((Int) ⊕ (Int ⊕ Unit)) :=
 if (decide (v4 < (a1.length : Int))) = true then
  (nth a1 v4).bind fun x6 =>
  (names_judge_domain_1 x6 a2 a3).bind fun r8 =>
  if (r8) = true then
   some (Sum.inr (Sum.inl v4))
  else
   some (Sum.inl (wr_i64 (v4 + 1)))
 else
  some (Sum.inr (Sum.inr ()))

def slices_IndexFunc_Domain_judge_domain_1 (a1 : List Api_Domain) (a2 : Int) (a3 : Int) : Option (Int) :=
 (loopM (slices_IndexFunc_Domain_judge_domain_1_L1 a1 a2 a3) 0).bind fun r14 => match r14 with
 | Sum.inl v12 =>
  some v12
 | Sum.inr () =>
  some (-1)

def names_judge_domain (a1 : Names_judge) (a2 : Int) (a3 : Int) : Option (Int) :=
 (slices_IndexFunc_Domain_judge_domain_1 a1.n.domains a2 a3).bind fun r4 =>
 some r4

def names_place_Irb (a1 : List Api_Irb) (a2 : Int) : Option (Bool) :=
 if (decide (a2 ≥ 0)) = true then
  some (decide (a2 < (a1.length : Int)))
 else
  some false

def names_judge_bare (a1 : Names_judge) (a2 : Int) (a3 : Api_Domain) : Option (Bool) :=
 (names_place_Device a1.n.devices a3.dev).bind fun r4 =>
 if (r4) = true then
  if (decide (a3.vlan ≥ 1)) = true then
   if (decide (a3.vlan ≤ 4094)) = true then
    if (decide (a3.vni ≥ 0)) = true then
     if (decide (a3.vni ≤ 16777215)) = true then
      if (a3.irb == (-1)) = true then
       (names_judge_domain a1 a3.dev a3.vlan).bind fun r12 =>
       some (r12 == a2)
      else
       (names_place_Irb a1.n.irbs a3.irb).bind fun r14 =>
       if (r14) = true then
        (nth a1.n.irbs a3.irb).bind fun x17 =>
        if (x17.domain == a2) = true then
         (names_judge_domain a1 a3.dev a3.vlan).bind fun r20 =>
         some (r20 == a2)
        else
         some false
       else
        some false
     else
      some false
    else
     some false
   else
    some false
  else
   some false
 else
  some false

def names_all_Domain_judge_bare_L1 (a1 : List Api_Domain) (a2 : Names_judge) (v3 : Int) : Option ((Int) ⊕ (Unit ⊕ Unit)) :=
 if (decide (v3 < (a1.length : Int))) = true then
  (nth a1 v3).bind fun x5 =>
  (names_judge_bare a2 v3 x5).bind fun r7 =>
  if (!r7) = true then
   some (Sum.inr (Sum.inl ()))
  else
   some (Sum.inl (wr_i64 (v3 + 1)))
 else
  some (Sum.inr (Sum.inr ()))

def names_all_Domain_judge_bare (a1 : List Api_Domain) (a2 : Names_judge) : Option (Bool) :=
 (loopM (names_all_Domain_judge_bare_L1 a1 a2) 0).bind fun r11 => match r11 with
 | Sum.inl () =>
  some false
 | Sum.inr () =>
  some true

def names_place_Domain (a1 : List Api_Domain) (a2 : Int) : Option (Bool) :=
 if (decide (a2 ≥ 0)) = true then
  some (decide (a2 < (a1.length : Int)))
 else
  some false

def names_judge_vtep (a1 : Names_judge) (a2 : Api_Domain) : Option (Bool) :=
 (nth a1.n.devices a2.dev).bind fun x3 =>
 some (x3.vtep != 0)

def slices_Index_int_L1 (a1 : List Int) (a2 : Int) (v3 : Int) : Option ((Int) ⊕ (Int ⊕ Unit)) :=
 if (decide (v3 < (a1.length : Int))) = true then
  (nth a1 v3).bind fun x5 =>
  if (a2 == x5) = true then
   some (Sum.inr (Sum.inl v3))
  else
   some (Sum.inl (wr_i64 (v3 + 1)))
 else
  some (Sum.inr (Sum.inr ()))

def slices_Index_int (a1 : List Int) (a2 : Int) : Option (Int) :=
 (loopM (slices_Index_int_L1 a1 a2) 0).bind fun r11 => match r11 with
 | Sum.inl v9 =>
  some v9
 | Sum.inr () =>
  some (-1)

def slices_Contains_int (a1 : List Int) (a2 : Int) : Option (Bool) :=
 (slices_Index_int a1 a2).bind fun r3 =>
 some (decide (r3 ≥ 0))

def names_judge_peer (a1 : Names_judge) (a2 : Int) (a3 : Api_Domain) (a4 : Int) : Option (Bool) :=
 (names_place_Domain a1.n.domains a4).bind fun r5 =>
 if (!r5) = true then
  some false
 else
  if (a4 == a2) = true then
   some false
  else
   (nth a1.n.domains a4).bind fun x9 =>
   (names_place_Device a1.n.devices x9.dev).bind fun r11 =>
   if (r11) = true then
    if (x9.dev != a3.dev) = true then
     if (x9.vni == a3.vni) = true then
      if (a3.vni != 0) = true then
       (names_judge_vtep a1 x9).bind fun r17 =>
       if (r17) = true then
        (names_judge_vtep a1 a3).bind fun r20 =>
        if (r20) = true then
         (slices_Contains_int x9.peers a2).bind fun r23 =>
         some r23
        else
         some false
       else
        some false
      else
       some false
     else
      some false
    else
     some false
   else
    some false

def names_judge_peers_1 (a1 : Int) (a2 : Int) (a3 : Names_judge) (a4 : Int) (a5 : Api_Domain) : Option (Bool) :=
 (names_judge_peer a3 a4 a5 a2).bind fun r6 =>
 if (r6) = true then
  (slices_Index_int a5.peers a2).bind fun r9 =>
  some (r9 == a1)
 else
  some false

def names_all_int_judge_peers_1_L1 (a1 : List Int) (a2 : Names_judge) (a3 : Int) (a4 : Api_Domain) (v5 : Int) : Option ((Int) ⊕ (Unit ⊕ Unit)) :=
 if (decide (v5 < (a1.length : Int))) = true then
  (nth a1 v5).bind fun x7 =>
  (names_judge_peers_1 v5 x7 a2 a3 a4).bind fun r9 =>
  if (!r9) = true then
   some (Sum.inr (Sum.inl ()))
  else
   some (Sum.inl (wr_i64 (v5 + 1)))
 else
  some (Sum.inr (Sum.inr ()))

def names_all_int_judge_peers_1 (a1 : List Int) (a2 : Names_judge) (a3 : Int) (a4 : Api_Domain) : Option (Bool) :=
 (loopM (names_all_int_judge_peers_1_L1 a1 a2 a3 a4) 0).bind fun r13 => match r13 with
 | Sum.inl () =>
  some false
 | Sum.inr () =>
  some true

def names_judge_peers (a1 : Names_judge) (a2 : Int) (a3 : Api_Domain) : Option (Bool) :=
 (names_all_int_judge_peers_1 a3.peers a1 a2 a3).bind fun r4 =>
 some r4

def names_all_Domain_judge_peers_L1 (a1 : List Api_Domain) (a2 : Names_judge) (v3 : Int) : Option ((Int) ⊕ (Unit ⊕ Unit)) :=
 if (decide (v3 < (a1.length : Int))) = true then
  (nth a1 v3).bind fun x5 =>
  (names_judge_peers a2 v3 x5).bind fun r7 =>
  if (!r7) = true then
   some (Sum.inr (Sum.inl ()))
  else
   some (Sum.inl (wr_i64 (v3 + 1)))
 else
  some (Sum.inr (Sum.inr ()))

def names_all_Domain_judge_peers (a1 : List Api_Domain) (a2 : Names_judge) : Option (Bool) :=
 (loopM (names_all_Domain_judge_peers_L1 a1 a2) 0).bind fun r11 => match r11 with
 | Sum.inl () =>
  some false
 | Sum.inr () =>
  some true

def num_Rising_L1 (a1 : List Int) (a2 : Int) (a3 : Int) (v4 : Int) : Option ((Int) ⊕ (Unit ⊕ Unit)) :=
 if (decide (v4 < (a1.length : Int))) = true then
  (nth a1 v4).bind fun x6 =>
  if (decide (x6 < a2)) = true then
   some (Sum.inr (Sum.inl ()))
  else
   if (decide (x6 > a3)) = true then
    some (Sum.inr (Sum.inl ()))
   else
    if (decide (v4 > 0)) = true then
     (nth a1 (wr_i64 (v4 - 1))).bind fun x11 =>
     if (decide (x11 ≥ x6)) = true then
      some (Sum.inr (Sum.inl ()))
     else
      some (Sum.inl (wr_i64 (v4 + 1)))
    else
     some (Sum.inl (wr_i64 (v4 + 1)))
 else
  some (Sum.inr (Sum.inr ()))

def num_Rising (a1 : List Int) (a2 : Int) (a3 : Int) : Option (Bool) :=
 (loopM (num_Rising_L1 a1 a2 a3) 0).bind fun r15 => match r15 with
 | Sum.inl () =>
  some false
 | Sum.inr () =>
  if (decide ((a1.length : Int) > 0)) = true then
   some (decide ((a1.length : Int) ≤ 16))
  else
   some false

def names_rising (a1 : List Int) (a2 : Int) : Option (Bool) :=
 if ((a1.length : Int) == 0) = true then
  some true
 else
  (num_Rising a1 1 a2).bind fun r4 =>
  some r4

def names_place_Link (a1 : List Api_Link) (a2 : Int) : Option (Bool) :=
 if (decide (a2 ≥ 0)) = true then
  some (decide (a2 < (a1.length : Int)))
 else
  some false

def names_judge_port_J1 (a1 : Names_judge) (a2 : Int) (a3 : Api_Port) : Option (Unit ⊕ Unit) :=
 (names_place_Device a1.n.devices a3.dev).bind fun r4 =>
 if (!r4) = true then
  some (Sum.inl ())
 else
  if (decide (a3.native < 0)) = true then
   some (Sum.inl ())
  else
   if (decide (a3.native > 4094)) = true then
    some (Sum.inl ())
   else
    (names_rising a3.tagged 4094).bind fun r9 =>
    if (!r9) = true then
     some (Sum.inl ())
    else
     (slices_Contains_int a3.tagged a3.native).bind fun r12 =>
     if (r12) = true then
      some (Sum.inl ())
     else
      if (a3.native == 0) = true then
       if ((a3.tagged.length : Int) == 0) = true then
        some (Sum.inl ())
       else
        some (Sum.inr ())
      else
       some (Sum.inr ())

def names_judge_port_L2 (a1 : Names_judge) (a2 : Int) (a3 : Api_Port) (v19 : Int) : Option ((Int) ⊕ (Unit ⊕ Unit)) :=
 if (decide (v19 < (a3.tagged.length : Int))) = true then
  (nth a3.tagged v19).bind fun x21 =>
  (names_judge_domain a1 a3.dev x21).bind fun r23 =>
  if (decide (r23 < 0)) = true then
   some (Sum.inr (Sum.inl ()))
  else
   some (Sum.inl (wr_i64 (v19 + 1)))
 else
  some (Sum.inr (Sum.inr ()))

def names_judge_port_J3 (a1 : Names_judge) (a2 : Int) (a3 : Api_Port) : Option (Unit ⊕ Unit) :=
 if (decide (a3.native > 0)) = true then
  (names_judge_domain a1 a3.dev a3.native).bind fun r29 =>
  if (decide (r29 < 0)) = true then
   some (Sum.inl ())
  else
   some (Sum.inr ())
 else
  some (Sum.inr ())

def names_judge_port (a1 : Names_judge) (a2 : Int) (a3 : Api_Port) : Option (Bool) :=
 (names_judge_port_J1 a1 a2 a3).bind fun r18 => match r18 with
 | Sum.inl () =>
  some false
 | Sum.inr () =>
  (loopM (names_judge_port_L2 a1 a2 a3) 0).bind fun r27 => match r27 with
  | Sum.inl () =>
   some false
  | Sum.inr () =>
   (names_judge_port_J3 a1 a2 a3).bind fun r33 => match r33 with
   | Sum.inl () =>
    some false
   | Sum.inr () =>
    if (a3.link == (-1)) = true then
     some true
    else
     (names_place_Link a1.n.links a3.link).bind fun r35 =>
     if (r35) = true then
      (nth a1.n.links a3.link).bind fun x38 =>
      if (x38.a == a2) = true then
       some true
      else
       (nth a1.n.links a3.link).bind fun x41 =>
       some (x41.b == a2)
     else
      some false

def names_all_Port_judge_port_L1 (a1 : List Api_Port) (a2 : Names_judge) (v3 : Int) : Option ((Int) ⊕ (Unit ⊕ Unit)) :=
 if (decide (v3 < (a1.length : Int))) = true then
  (nth a1 v3).bind fun x5 =>
  (names_judge_port a2 v3 x5).bind fun r7 =>
  if (!r7) = true then
   some (Sum.inr (Sum.inl ()))
  else
   some (Sum.inl (wr_i64 (v3 + 1)))
 else
  some (Sum.inr (Sum.inr ()))

def names_all_Port_judge_port (a1 : List Api_Port) (a2 : Names_judge) : Option (Bool) :=
 (loopM (names_all_Port_judge_port_L1 a1 a2) 0).bind fun r11 => match r11 with
 | Sum.inl () =>
  some false
 | Sum.inr () =>
  some true

def names_place_Port (a1 : List Api_Port) (a2 : Int) : Option (Bool) :=
 if (decide (a2 ≥ 0)) = true then
  some (decide (a2 < (a1.length : Int)))
 else
  some false

def names_judge_link (a1 : Names_judge) (a2 : Int) (a3 : Api_Link) : Option (Bool) :=
 (names_place_Port a1.n.ports a3.a).bind fun r4 =>
 if (!r4) = true then
  some false
 else
  (names_place_Port a1.n.ports a3.b).bind fun r7 =>
  if (!r7) = true then
   some false
  else
   (nth a1.n.ports a3.a).bind fun x10 =>
   (nth a1.n.ports a3.b).bind fun x12 =>
   if (x10.dev != x12.dev) = true then
    if (x10.link == a2) = true then
     some (x12.link == a2)
    else
     some false
   else
    some false

def names_all_Link_judge_link_L1 (a1 : List Api_Link) (a2 : Names_judge) (v3 : Int) : Option ((Int) ⊕ (Unit ⊕ Unit)) :=
 if (decide (v3 < (a1.length : Int))) = true then
  (nth a1 v3).bind fun x5 =>
  (names_judge_link a2 v3 x5).bind fun r7 =>
  if (!r7) = true then
   some (Sum.inr (Sum.inl ()))
  else
   some (Sum.inl (wr_i64 (v3 + 1)))
 else
  some (Sum.inr (Sum.inr ()))

def names_all_Link_judge_link (a1 : List Api_Link) (a2 : Names_judge) : Option (Bool) :=
 (loopM (names_all_Link_judge_link_L1 a1 a2) 0).bind fun r11 => match r11 with
 | Sum.inl () =>
  some false
 | Sum.inr () =>
  some true

def names_Member (a1 : Api_Port) (a2 : Int) : Option (Bool) :=
 if (a2 != 0) = true then
  if (a2 == a1.native) = true then
   some true
  else
   (slices_Contains_int a1.tagged a2).bind fun r5 =>
   some r5
 else
  some false

def names_judge_static (a1 : Names_judge) (a2 : Int) (a3 : Api_Static) : Option (Bool) :=
 (names_place_Domain a1.n.domains a3.domain).bind fun r4 =>
 if (!r4) = true then
  some false
 else
  (names_place_Port a1.n.ports a3.port).bind fun r7 =>
  if (!r7) = true then
   some false
  else
   (nth a1.n.ports a3.port).bind fun x10 =>
   (nth a1.n.domains a3.domain).bind fun x12 =>
   if (x10.dev == x12.dev) = true then
    (names_Member x10 x12.vlan).bind fun r15 =>
    some r15
   else
    some false

def names_all_Static_judge_static_L1 (a1 : List Api_Static) (a2 : Names_judge) (v3 : Int) : Option ((Int) ⊕ (Unit ⊕ Unit)) :=
 if (decide (v3 < (a1.length : Int))) = true then
  (nth a1 v3).bind fun x5 =>
  (names_judge_static a2 v3 x5).bind fun r7 =>
  if (!r7) = true then
   some (Sum.inr (Sum.inl ()))
  else
   some (Sum.inl (wr_i64 (v3 + 1)))
 else
  some (Sum.inr (Sum.inr ()))

def names_all_Static_judge_static (a1 : List Api_Static) (a2 : Names_judge) : Option (Bool) :=
 (loopM (names_all_Static_judge_static_L1 a1 a2) 0).bind fun r11 => match r11 with
 | Sum.inl () =>
  some false
 | Sum.inr () =>
  some true

def names_Right_1 (a1 : Int) (a2 : Api_Flood) (a3 : Api_Net) : Option (Bool) :=
 (names_place_Device a3.devices a2.dev).bind fun r4 =>
 if (r4) = true then
  some (decide ((a2.addrs.length : Int) ≤ 16))
 else
  some false

def names_all_Flood_Right_1_L1 (a1 : List Api_Flood) (a2 : Api_Net) (v3 : Int) : Option ((Int) ⊕ (Unit ⊕ Unit)) :=
 if (decide (v3 < (a1.length : Int))) = true then
  (nth a1 v3).bind fun x5 =>
  (names_Right_1 v3 x5 a2).bind fun r7 =>
  if (!r7) = true then
   some (Sum.inr (Sum.inl ()))
  else
   some (Sum.inl (wr_i64 (v3 + 1)))
 else
  some (Sum.inr (Sum.inr ()))

def names_all_Flood_Right_1 (a1 : List Api_Flood) (a2 : Api_Net) : Option (Bool) :=
 (loopM (names_all_Flood_Right_1_L1 a1 a2) 0).bind fun r11 => match r11 with
 | Sum.inl () =>
  some false
 | Sum.inr () =>
  some true

def names_Right_2 (a1 : Int) (a2 : Api_Vrf) (a3 : Api_Net) : Option (Bool) :=
 (names_place_Device a3.devices a2.dev).bind fun r4 =>
 if (r4) = true then
  (names_rising a2.imports 65535).bind fun r7 =>
  if (r7) = true then
   (names_rising a2.exports 65535).bind fun r10 =>
   some r10
  else
   some false
 else
  some false

def names_all_Vrf_Right_2_L1 (a1 : List Api_Vrf) (a2 : Api_Net) (v3 : Int) : Option ((Int) ⊕ (Unit ⊕ Unit)) :=
 if (decide (v3 < (a1.length : Int))) = true then
  (nth a1 v3).bind fun x5 =>
  (names_Right_2 v3 x5 a2).bind fun r7 =>
  if (!r7) = true then
   some (Sum.inr (Sum.inl ()))
  else
   some (Sum.inl (wr_i64 (v3 + 1)))
 else
  some (Sum.inr (Sum.inr ()))

def names_all_Vrf_Right_2 (a1 : List Api_Vrf) (a2 : Api_Net) : Option (Bool) :=
 (loopM (names_all_Vrf_Right_2_L1 a1 a2) 0).bind fun r11 => match r11 with
 | Sum.inl () =>
  some false
 | Sum.inr () =>
  some true

def names_place_Vrf (a1 : List Api_Vrf) (a2 : Int) : Option (Bool) :=
 if (decide (a2 ≥ 0)) = true then
  some (decide (a2 < (a1.length : Int)))
 else
  some false

def names_judge_irb (a1 : Names_judge) (a2 : Int) (a3 : Api_Irb) : Option (Bool) :=
 (names_place_Domain a1.n.domains a3.domain).bind fun r4 =>
 if (r4) = true then
  (names_place_Vrf a1.n.vrfs a3.vrf).bind fun r7 =>
  if (r7) = true then
   (nth a1.n.domains a3.domain).bind fun x10 =>
   (nth a1.n.vrfs a3.vrf).bind fun x12 =>
   if (x10.dev == x12.dev) = true then
    (nth a1.n.domains a3.domain).bind fun x15 =>
    if (x15.irb == a2) = true then
     if (decide (a3.net.bits ≥ 1)) = true then
      some (decide (a3.net.bits ≤ 30))
     else
      some false
    else
     some false
   else
    some false
  else
   some false
 else
  some false

def names_all_Irb_judge_irb_L1 (a1 : List Api_Irb) (a2 : Names_judge) (v3 : Int) : Option ((Int) ⊕ (Unit ⊕ Unit)) :=
 if (decide (v3 < (a1.length : Int))) = true then
  (nth a1 v3).bind fun x5 =>
  (names_judge_irb a2 v3 x5).bind fun r7 =>
  if (!r7) = true then
   some (Sum.inr (Sum.inl ()))
  else
   some (Sum.inl (wr_i64 (v3 + 1)))
 else
  some (Sum.inr (Sum.inr ()))

def names_all_Irb_judge_irb (a1 : List Api_Irb) (a2 : Names_judge) : Option (Bool) :=
 (loopM (names_all_Irb_judge_irb_L1 a1 a2) 0).bind fun r11 => match r11 with
 | Sum.inl () =>
  some false
 | Sum.inr () =>
  some true

def names_Right (a1 : Api_Net) : Option (Bool) :=
 (names_judge_few (⟨a1⟩ : Names_judge)).bind fun r2 =>
 if (r2) = true then
  (names_all_Domain_judge_bare a1.domains (⟨a1⟩ : Names_judge)).bind fun r5 =>
  if (r5) = true then
   (names_all_Domain_judge_peers a1.domains (⟨a1⟩ : Names_judge)).bind fun r8 =>
   if (r8) = true then
    (names_all_Port_judge_port a1.ports (⟨a1⟩ : Names_judge)).bind fun r11 =>
    if (r11) = true then
     (names_all_Link_judge_link a1.links (⟨a1⟩ : Names_judge)).bind fun r14 =>
     if (r14) = true then
      (names_all_Static_judge_static a1.statics (⟨a1⟩ : Names_judge)).bind fun r17 =>
      if (r17) = true then
       (names_all_Flood_Right_1 a1.floods a1).bind fun r20 =>
       if (r20) = true then
        (names_all_Vrf_Right_2 a1.vrfs a1).bind fun r23 =>
        if (r23) = true then
         (names_all_Irb_judge_irb a1.irbs (⟨a1⟩ : Names_judge)).bind fun r26 =>
         some r26
        else
         some false
       else
        some false
      else
       some false
     else
      some false
    else
     some false
   else
    some false
  else
   some false
 else
  some false

def names_Members_L1 (a1 : Api_Net) (a2 : Int) (l9 : List Int) (v10 : Int) : Option (((List Int) × Int) ⊕ ((List Int))) :=
 if (decide (v10 < (a1.ports.length : Int))) = true then
  (nth a1.ports v10).bind fun x12 =>
  (nth a1.domains a2).bind fun x14 =>
  if (x12.dev == x14.dev) = true then
   (nth a1.domains a2).bind fun x17 =>
   (names_Member x12 x17.vlan).bind fun r19 =>
   if (r19) = true then
    if (roomy 8 (l9 ++ [v10])) = true then
     some (Sum.inl (l9 ++ [v10], wr_i64 (v10 + 1)))
    else
     none
   else
    some (Sum.inl (l9, wr_i64 (v10 + 1)))
  else
   some (Sum.inl (l9, wr_i64 (v10 + 1)))
 else
  some (Sum.inr l9)

def names_Members (a1 : Api_Net) (a2 : Int) : Option (((List Int))) :=
 (names_Right a1).bind fun r3 =>
 if (!r3) = true then
  some []
 else
  (names_place_Domain a1.domains a2).bind fun r6 =>
  if (!r6) = true then
   some []
  else
   (loopM (fun s : (List Int) × Int => match s with | (l9, v10) => names_Members_L1 a1 a2 l9 v10) ([], 0)).bind fun r27 => match r27 with
   | l25 =>
    some l25

def names_Device_1 (a1 : Api_Device) (a2 : ByteArray) : Option (Bool) :=
 some (seqB a1.name a2)

def slices_IndexFunc_Device_Device_1_L1 (a1 : List Api_Device) (a2 : ByteArray) (v3 : Int) : Option ((Int) ⊕ (Int ⊕ Unit)) :=
 if (decide (v3 < (a1.length : Int))) = true then
  (nth a1 v3).bind fun x5 =>
  (names_Device_1 x5 a2).bind fun r7 =>
  if (r7) = true then
   some (Sum.inr (Sum.inl v3))
  else
   some (Sum.inl (wr_i64 (v3 + 1)))
 else
  some (Sum.inr (Sum.inr ()))

def slices_IndexFunc_Device_Device_1 (a1 : List Api_Device) (a2 : ByteArray) : Option (Int) :=
 (loopM (slices_IndexFunc_Device_Device_1_L1 a1 a2) 0).bind fun r13 => match r13 with
 | Sum.inl v11 =>
  some v11
 | Sum.inr () =>
  some (-1)

def names_find_Device_Device_1 (a1 : Api_Net) (a2 : List Api_Device) (a3 : ByteArray) : Option (Int) :=
 (names_Right a1).bind fun r4 =>
 if (!r4) = true then
  some (-1)
 else
  (slices_IndexFunc_Device_Device_1 a2 a3).bind fun r7 =>
  some r7

def names_Device (a1 : Api_Net) (a2 : ByteArray) : Option (Int) :=
 (names_find_Device_Device_1 a1 a1.devices a2).bind fun r3 =>
 some r3

def names_Port_1 (a1 : Api_Port) (a2 : Int) (a3 : ByteArray) : Option (Bool) :=
 if (a1.dev == a2) = true then
  some (seqB a1.name a3)
 else
  some false

def slices_IndexFunc_Port_Port_1_L1 (a1 : List Api_Port) (a2 : Int) (a3 : ByteArray) (v4 : Int) : Option ((Int) ⊕ (Int ⊕ Unit)) :=
 if (decide (v4 < (a1.length : Int))) = true then
  (nth a1 v4).bind fun x6 =>
  (names_Port_1 x6 a2 a3).bind fun r8 =>
  if (r8) = true then
   some (Sum.inr (Sum.inl v4))
  else
   some (Sum.inl (wr_i64 (v4 + 1)))
 else
  some (Sum.inr (Sum.inr ()))

def slices_IndexFunc_Port_Port_1 (a1 : List Api_Port) (a2 : Int) (a3 : ByteArray) : Option (Int) :=
 (loopM (slices_IndexFunc_Port_Port_1_L1 a1 a2 a3) 0).bind fun r14 => match r14 with
 | Sum.inl v12 =>
  some v12
 | Sum.inr () =>
  some (-1)

def names_find_Port_Port_1 (a1 : Api_Net) (a2 : List Api_Port) (a3 : Int) (a4 : ByteArray) : Option (Int) :=
 (names_Right a1).bind fun r5 =>
 if (!r5) = true then
  some (-1)
 else
  (slices_IndexFunc_Port_Port_1 a2 a3 a4).bind fun r8 =>
  some r8

def names_Port (a1 : Api_Net) (a2 : Int) (a3 : ByteArray) : Option (Int) :=
 (names_find_Port_Port_1 a1 a1.ports a2 a3).bind fun r4 =>
 some r4

def names_Domain_1 (a1 : Api_Domain) (a2 : Int) (a3 : Int) : Option (Bool) :=
 if (a1.dev == a2) = true then
  some (a1.vlan == a3)
 else
  some false

def slices_IndexFunc_Domain_Domain_1_L1 (a1 : List Api_Domain) (a2 : Int) (a3 : Int) (v4 : Int) : Option ((Int) ⊕ (Int ⊕ Unit)) :=
 if (decide (v4 < (a1.length : Int))) = true then
  (nth a1 v4).bind fun x6 =>
  (names_Domain_1 x6 a2 a3).bind fun r8 =>
  if (r8) = true then
   some (Sum.inr (Sum.inl v4))
  else
   some (Sum.inl (wr_i64 (v4 + 1)))
 else
  some (Sum.inr (Sum.inr ()))

def slices_IndexFunc_Domain_Domain_1 (a1 : List Api_Domain) (a2 : Int) (a3 : Int) : Option (Int) :=
 (loopM (slices_IndexFunc_Domain_Domain_1_L1 a1 a2 a3) 0).bind fun r14 => match r14 with
 | Sum.inl v12 =>
  some v12
 | Sum.inr () =>
  some (-1)

def names_find_Domain_Domain_1 (a1 : Api_Net) (a2 : List Api_Domain) (a3 : Int) (a4 : Int) : Option (Int) :=
 (names_Right a1).bind fun r5 =>
 if (!r5) = true then
  some (-1)
 else
  (slices_IndexFunc_Domain_Domain_1 a2 a3 a4).bind fun r8 =>
  some r8

def names_Domain (a1 : Api_Net) (a2 : Int) (a3 : Int) : Option (Int) :=
 (names_find_Domain_Domain_1 a1 a1.domains a2 a3).bind fun r4 =>
 some r4

def palinglaw15_works : Option (Bool) :=
 (names_Members (⟨[(⟨0, 0, (⟨#[97]⟩ : ByteArray), 0, 0⟩ : Api_Device)], [(⟨0, 0, 10, 0, (-1), (⟨#[112]⟩ : ByteArray), []⟩ : Api_Port)], [], [(⟨0, 10, 0, (-1), 0, []⟩ : Api_Domain)], [], [], [], []⟩ : Api_Net) 0).bind fun r1 => match r1 with
 | l3 =>
  (names_Right (⟨[(⟨0, 0, (⟨#[97]⟩ : ByteArray), 0, 0⟩ : Api_Device)], [(⟨0, 0, 10, 0, (-1), (⟨#[112]⟩ : ByteArray), []⟩ : Api_Port)], [], [(⟨0, 10, 0, (-1), 0, []⟩ : Api_Domain)], [], [], [], []⟩ : Api_Net)).bind fun r4 =>
  if (r4) = true then
   (names_Right (⟨[], [], [], [], [], [], [], []⟩ : Api_Net)).bind fun r7 =>
   if (r7) = true then
    (names_Device (⟨[(⟨0, 0, (⟨#[97]⟩ : ByteArray), 0, 0⟩ : Api_Device)], [(⟨0, 0, 10, 0, (-1), (⟨#[112]⟩ : ByteArray), []⟩ : Api_Port)], [], [(⟨0, 10, 0, (-1), 0, []⟩ : Api_Domain)], [], [], [], []⟩ : Api_Net) (⟨#[97]⟩ : ByteArray)).bind fun r10 =>
    if (r10 == 0) = true then
     (names_Port (⟨[(⟨0, 0, (⟨#[97]⟩ : ByteArray), 0, 0⟩ : Api_Device)], [(⟨0, 0, 10, 0, (-1), (⟨#[112]⟩ : ByteArray), []⟩ : Api_Port)], [], [(⟨0, 10, 0, (-1), 0, []⟩ : Api_Domain)], [], [], [], []⟩ : Api_Net) 0 (⟨#[112]⟩ : ByteArray)).bind fun r13 =>
     if (r13 == 0) = true then
      (names_Domain (⟨[(⟨0, 0, (⟨#[97]⟩ : ByteArray), 0, 0⟩ : Api_Device)], [(⟨0, 0, 10, 0, (-1), (⟨#[112]⟩ : ByteArray), []⟩ : Api_Port)], [], [(⟨0, 10, 0, (-1), 0, []⟩ : Api_Domain)], [], [], [], []⟩ : Api_Net) 0 10).bind fun r16 =>
      if (r16 == 0) = true then
       (names_Domain (⟨[(⟨0, 0, (⟨#[97]⟩ : ByteArray), 0, 0⟩ : Api_Device)], [(⟨0, 0, 10, 0, (-1), (⟨#[112]⟩ : ByteArray), []⟩ : Api_Port)], [], [(⟨0, 10, 0, (-1), 0, []⟩ : Api_Domain)], [], [], [], []⟩ : Api_Net) 0 11).bind fun r19 =>
       if (r19 == (-1)) = true then
        if (((List.length l3) : Int) == 1) = true then
         if (lin l3 0) = true then
          (l3[(Int.toNat 0)]?).bind fun x24 =>
          some (x24 == 0)
         else
          none
        else
         some false
       else
        some false
      else
       some false
     else
      some false
    else
     some false
   else
    some false
  else
   some false

def palinglaw15_Great_L1 (a1 : Api_Net) (v10 : Int) : Option ((Int) ⊕ (Unit ⊕ Unit)) :=
 if (decide (v10 < (a1.ports.length : Int))) = true then
  (nth a1.ports v10).bind fun x12 =>
  if (decide ((x12.tagged.length : Int) > 100)) = true then
   some (Sum.inr (Sum.inl ()))
  else
   some (Sum.inl (wr_i64 (v10 + 1)))
 else
  some (Sum.inr (Sum.inr ()))

def palinglaw15_Great_L2 (a1 : Api_Net) (v17 : Int) : Option ((Int) ⊕ (Unit ⊕ Unit)) :=
 if (decide (v17 < (a1.domains.length : Int))) = true then
  (nth a1.domains v17).bind fun x19 =>
  if (decide ((x19.peers.length : Int) > 100)) = true then
   some (Sum.inr (Sum.inl ()))
  else
   some (Sum.inl (wr_i64 (v17 + 1)))
 else
  some (Sum.inr (Sum.inr ()))

def palinglaw15_Great_L3 (a1 : Api_Net) (v24 : Int) : Option ((Int) ⊕ (Unit ⊕ Unit)) :=
 if (decide (v24 < (a1.floods.length : Int))) = true then
  (nth a1.floods v24).bind fun x26 =>
  if (decide ((x26.addrs.length : Int) > 100)) = true then
   some (Sum.inr (Sum.inl ()))
  else
   some (Sum.inl (wr_i64 (v24 + 1)))
 else
  some (Sum.inr (Sum.inr ()))

def palinglaw15_Great_L4 (a1 : Api_Net) (v31 : Int) : Option ((Int) ⊕ (Unit ⊕ Unit)) :=
 if (decide (v31 < (a1.vrfs.length : Int))) = true then
  (nth a1.vrfs v31).bind fun x33 =>
  if (decide ((x33.imports.length : Int) > 100)) = true then
   some (Sum.inr (Sum.inl ()))
  else
   (nth a1.vrfs v31).bind fun x36 =>
   if (decide ((x36.exports.length : Int) > 100)) = true then
    some (Sum.inr (Sum.inl ()))
   else
    some (Sum.inl (wr_i64 (v31 + 1)))
 else
  some (Sum.inr (Sum.inr ()))

def palinglaw15_Great (a1 : Api_Net) : Option (Bool) :=
 if (decide ((a1.devices.length : Int) > 200)) = true then
  some true
 else
  if (decide ((a1.ports.length : Int) > 200)) = true then
   some true
  else
   if (decide ((a1.links.length : Int) > 200)) = true then
    some true
   else
    if (decide ((a1.domains.length : Int) > 200)) = true then
     some true
    else
     if (decide ((a1.statics.length : Int) > 200)) = true then
      some true
     else
      if (decide ((a1.floods.length : Int) > 200)) = true then
       some true
      else
       if (decide ((a1.vrfs.length : Int) > 200)) = true then
        some true
       else
        if (decide ((a1.irbs.length : Int) > 200)) = true then
         some true
        else
         (loopM (palinglaw15_Great_L1 a1) 0).bind fun r16 => match r16 with
         | Sum.inl () =>
          some true
         | Sum.inr () =>
          (loopM (palinglaw15_Great_L2 a1) 0).bind fun r23 => match r23 with
          | Sum.inl () =>
           some true
          | Sum.inr () =>
           (loopM (palinglaw15_Great_L3 a1) 0).bind fun r30 => match r30 with
           | Sum.inl () =>
            some true
           | Sum.inr () =>
            (loopM (palinglaw15_Great_L4 a1) 0).bind fun r40 => match r40 with
            | Sum.inl () =>
             some true
            | Sum.inr () =>
             some false

def slices_Clone_Device (a1 : List Api_Device) : Option (List Api_Device) :=
 if roomy 48 a1 = true then some a1 else none

def slices_Clone_Port (a1 : List Api_Port) : Option (List Api_Port) :=
 if roomy 80 a1 = true then some a1 else none

def slices_Clone_Link (a1 : List Api_Link) : Option (List Api_Link) :=
 if roomy 24 a1 = true then some a1 else none

def slices_Clone_Domain (a1 : List Api_Domain) : Option (List Api_Domain) :=
 if roomy 64 a1 = true then some a1 else none

def slices_Clone_Static (a1 : List Api_Static) : Option (List Api_Static) :=
 if roomy 32 a1 = true then some a1 else none

def slices_Clone_Flood (a1 : List Api_Flood) : Option (List Api_Flood) :=
 if roomy 48 a1 = true then some a1 else none

def slices_Clone_Vrf (a1 : List Api_Vrf) : Option (List Api_Vrf) :=
 if roomy 80 a1 = true then some a1 else none

def slices_Clone_Irb (a1 : List Api_Irb) : Option (List Api_Irb) :=
 if roomy 40 a1 = true then some a1 else none

def slices_Clone_int (a1 : List Int) : Option (List Int) :=
 if roomy 8 a1 = true then some a1 else none

def slices_Clone_uint32 (a1 : List Int) : Option (List Int) :=
 if roomy 4 a1 = true then some a1 else none

def names_Copy_L1 (l4 : List Api_Device) (l7 : List Api_Port) (l10 : List Api_Link) (l13 : List Api_Domain) (l16 : List Api_Static) (l19 : List Api_Flood) (l22 : List Api_Vrf) (l25 : List Api_Irb) (l26 : List Api_Port) (v27 : Int) : Option (((List Api_Port) × Int) ⊕ ((List Api_Port))) :=
 if (decide (v27 < ((List.length l7) : Int))) = true then
  if (lin l26 v27) = true then
   (l26[(Int.toNat v27)]?).bind fun x30 =>
   (slices_Clone_int x30.tagged).bind fun r32 => match r32 with
   | l34 =>
    (l26[(Int.toNat v27)]?).bind fun x35 =>
    some (Sum.inl (List.set l26 (Int.toNat v27) (⟨x35.row, x35.dev, x35.native, x35.cost, x35.link, x35.name, l34⟩ : Api_Port), wr_i64 (v27 + 1)))
  else
   none
 else
  some (Sum.inr l26)

def names_Copy_L2 (l4 : List Api_Device) (l7 : List Api_Port) (l10 : List Api_Link) (l13 : List Api_Domain) (l16 : List Api_Static) (l19 : List Api_Flood) (l22 : List Api_Vrf) (l25 : List Api_Irb) (l39 : List Api_Port) (l42 : List Api_Domain) (v43 : Int) : Option (((List Api_Domain) × Int) ⊕ ((List Api_Domain))) :=
 if (decide (v43 < ((List.length l13) : Int))) = true then
  if (lin l42 v43) = true then
   (l42[(Int.toNat v43)]?).bind fun x46 =>
   (slices_Clone_int x46.peers).bind fun r48 => match r48 with
   | l50 =>
    (l42[(Int.toNat v43)]?).bind fun x51 =>
    some (Sum.inl (List.set l42 (Int.toNat v43) (⟨x51.dev, x51.vlan, x51.vni, x51.irb, x51.row, l50⟩ : Api_Domain), wr_i64 (v43 + 1)))
  else
   none
 else
  some (Sum.inr l42)

def names_Copy_L3 (l4 : List Api_Device) (l7 : List Api_Port) (l10 : List Api_Link) (l13 : List Api_Domain) (l16 : List Api_Static) (l19 : List Api_Flood) (l22 : List Api_Vrf) (l25 : List Api_Irb) (l39 : List Api_Port) (l55 : List Api_Domain) (l58 : List Api_Flood) (v59 : Int) : Option (((List Api_Flood) × Int) ⊕ ((List Api_Flood))) :=
 if (decide (v59 < ((List.length l19) : Int))) = true then
  if (lin l58 v59) = true then
   (l58[(Int.toNat v59)]?).bind fun x62 =>
   (slices_Clone_uint32 x62.addrs).bind fun r64 => match r64 with
   | l66 =>
    (l58[(Int.toNat v59)]?).bind fun x67 =>
    some (Sum.inl (List.set l58 (Int.toNat v59) (⟨x67.row, x67.dev, x67.vni, l66⟩ : Api_Flood), wr_i64 (v59 + 1)))
  else
   none
 else
  some (Sum.inr l58)

def names_Copy_L4 (l4 : List Api_Device) (l7 : List Api_Port) (l10 : List Api_Link) (l13 : List Api_Domain) (l16 : List Api_Static) (l19 : List Api_Flood) (l22 : List Api_Vrf) (l25 : List Api_Irb) (l39 : List Api_Port) (l55 : List Api_Domain) (l71 : List Api_Flood) (l74 : List Api_Vrf) (v75 : Int) : Option (((List Api_Vrf) × Int) ⊕ ((List Api_Vrf))) :=
 if (decide (v75 < ((List.length l22) : Int))) = true then
  if (lin l74 v75) = true then
   (l74[(Int.toNat v75)]?).bind fun x78 =>
   (slices_Clone_int x78.imports).bind fun r80 => match r80 with
   | l82 =>
    (l74[(Int.toNat v75)]?).bind fun x83 =>
    (slices_Clone_int x83.exports).bind fun r85 => match r85 with
    | l87 =>
     (l74[(Int.toNat v75)]?).bind fun x88 =>
     ((List.set l74 (Int.toNat v75) (⟨x88.row, x88.dev, x88.name, l82, x88.exports⟩ : Api_Vrf))[(Int.toNat v75)]?).bind fun x90 =>
     some (Sum.inl (List.set (List.set l74 (Int.toNat v75) (⟨x88.row, x88.dev, x88.name, l82, x88.exports⟩ : Api_Vrf)) (Int.toNat v75) (⟨x90.row, x90.dev, x90.name, x90.imports, l87⟩ : Api_Vrf), wr_i64 (v75 + 1)))
  else
   none
 else
  some (Sum.inr l74)

def names_Copy (a1 : Api_Net) : Option (((List Api_Device) × (List Api_Port) × (List Api_Link) × (List Api_Domain) × (List Api_Static) × (List Api_Flood) × (List Api_Vrf) × (List Api_Irb) × Nat × Nat × Nat × Nat)) :=
 (slices_Clone_Device a1.devices).bind fun r2 => match r2 with
 | l4 =>
  (slices_Clone_Port a1.ports).bind fun r5 => match r5 with
  | l7 =>
   (slices_Clone_Link a1.links).bind fun r8 => match r8 with
   | l10 =>
    (slices_Clone_Domain a1.domains).bind fun r11 => match r11 with
    | l13 =>
     (slices_Clone_Static a1.statics).bind fun r14 => match r14 with
     | l16 =>
      (slices_Clone_Flood a1.floods).bind fun r17 => match r17 with
      | l19 =>
       (slices_Clone_Vrf a1.vrfs).bind fun r20 => match r20 with
       | l22 =>
        (slices_Clone_Irb a1.irbs).bind fun r23 => match r23 with
        | l25 =>
         (loopM (fun s : (List Api_Port) × Int => match s with | (l26, v27) => names_Copy_L1 l4 l7 l10 l13 l16 l19 l22 l25 l26 v27) (l7, 0)).bind fun r41 => match r41 with
         | l39 =>
          (loopM (fun s : (List Api_Domain) × Int => match s with | (l42, v43) => names_Copy_L2 l4 l7 l10 l13 l16 l19 l22 l25 l39 l42 v43) (l13, 0)).bind fun r57 => match r57 with
          | l55 =>
           (loopM (fun s : (List Api_Flood) × Int => match s with | (l58, v59) => names_Copy_L3 l4 l7 l10 l13 l16 l19 l22 l25 l39 l55 l58 v59) (l19, 0)).bind fun r73 => match r73 with
           | l71 =>
            (loopM (fun s : (List Api_Vrf) × Int => match s with | (l74, v75) => names_Copy_L4 l4 l7 l10 l13 l16 l19 l22 l25 l39 l55 l71 l74 v75) (l22, 0)).bind fun r96 => match r96 with
            | l94 =>
             some (l4, l39, l10, l55, l16, l71, l94, l25, (List.length l7), (List.length l13), (List.length l19), (List.length l22))

def names_Copy_dp_L1 (l4 : List Api_Device) (l7 : List Api_Port) (l10 : List Api_Link) (l13 : List Api_Domain) (l16 : List Api_Static) (l19 : List Api_Flood) (l22 : List Api_Vrf) (l25 : List Api_Irb) (l26 : List Api_Port) (p27 : List Bool) (v28 : Int) : Option (((List Api_Port) × (List Bool) × Int) ⊕ (((List Api_Port) × (List Bool)))) :=
 if (decide (v28 < ((List.length l7) : Int))) = true then
  (l26[(Int.toNat v28)]?).bind fun x30 =>
  if (pmis p27 (Int.toNat v28) false) = true then
   if (lin l26 v28) = true then
    (slices_Clone_int x30.tagged).bind fun r34 => match r34 with
    | l36 =>
     some (Sum.inl (List.set l26 (Int.toNat v28) (⟨x30.row, x30.dev, x30.native, x30.cost, x30.link, x30.name, l36⟩ : Api_Port), (List.set p27 (Int.toNat v28) true), wr_i64 (v28 + 1)))
   else
    none
  else
   none
 else
  some (Sum.inr (l26, p27))

def names_Copy_dp_L2 (l4 : List Api_Device) (l7 : List Api_Port) (l10 : List Api_Link) (l13 : List Api_Domain) (l16 : List Api_Static) (l19 : List Api_Flood) (l22 : List Api_Vrf) (l25 : List Api_Irb) (l41 : List Api_Port) (p42 : List Bool) (l45 : List Api_Domain) (p46 : List Bool) (v47 : Int) : Option (((List Api_Domain) × (List Bool) × Int) ⊕ (((List Api_Domain) × (List Bool)))) :=
 if (decide (v47 < ((List.length l13) : Int))) = true then
  (l45[(Int.toNat v47)]?).bind fun x49 =>
  if (pmis p46 (Int.toNat v47) false) = true then
   if (lin l45 v47) = true then
    (slices_Clone_int x49.peers).bind fun r53 => match r53 with
    | l55 =>
     some (Sum.inl (List.set l45 (Int.toNat v47) (⟨x49.dev, x49.vlan, x49.vni, x49.irb, x49.row, l55⟩ : Api_Domain), (List.set p46 (Int.toNat v47) true), wr_i64 (v47 + 1)))
   else
    none
  else
   none
 else
  some (Sum.inr (l45, p46))

def names_Copy_dp_L3 (l4 : List Api_Device) (l7 : List Api_Port) (l10 : List Api_Link) (l13 : List Api_Domain) (l16 : List Api_Static) (l19 : List Api_Flood) (l22 : List Api_Vrf) (l25 : List Api_Irb) (l41 : List Api_Port) (p42 : List Bool) (l60 : List Api_Domain) (p61 : List Bool) (l64 : List Api_Flood) (p65 : List Bool) (v66 : Int) : Option (((List Api_Flood) × (List Bool) × Int) ⊕ (((List Api_Flood) × (List Bool)))) :=
 if (decide (v66 < ((List.length l19) : Int))) = true then
  (l64[(Int.toNat v66)]?).bind fun x68 =>
  if (pmis p65 (Int.toNat v66) false) = true then
   if (lin l64 v66) = true then
    (slices_Clone_uint32 x68.addrs).bind fun r72 => match r72 with
    | l74 =>
     some (Sum.inl (List.set l64 (Int.toNat v66) (⟨x68.row, x68.dev, x68.vni, l74⟩ : Api_Flood), (List.set p65 (Int.toNat v66) true), wr_i64 (v66 + 1)))
   else
    none
  else
   none
 else
  some (Sum.inr (l64, p65))

def names_Copy_dp_L4 (l4 : List Api_Device) (l7 : List Api_Port) (l10 : List Api_Link) (l13 : List Api_Domain) (l16 : List Api_Static) (l19 : List Api_Flood) (l22 : List Api_Vrf) (l25 : List Api_Irb) (l41 : List Api_Port) (p42 : List Bool) (l60 : List Api_Domain) (p61 : List Bool) (l79 : List Api_Flood) (p80 : List Bool) (l83 : List Api_Vrf) (p84 : List Bool) (v85 : Int) : Option (((List Api_Vrf) × (List Bool) × Int) ⊕ (((List Api_Vrf) × (List Bool)))) :=
 if (decide (v85 < ((List.length l22) : Int))) = true then
  if (lin l83 v85) = true then
   (l83[(Int.toNat v85)]?).bind fun x88 =>
   if (pmis p84 (Int.toNat v85) false) = true then
    (slices_Clone_int x88.imports).bind fun r91 => match r91 with
    | l93 =>
     (slices_Clone_int x88.exports).bind fun r94 => match r94 with
     | l96 =>
      some (Sum.inl (List.set l83 (Int.toNat v85) (⟨x88.row, x88.dev, x88.name, l93, l96⟩ : Api_Vrf), (List.set p84 (Int.toNat v85) true), wr_i64 (v85 + 1)))
   else
    none
  else
   none
 else
  some (Sum.inr (l83, p84))

def names_Copy_dp (a1 : Api_Net) : Option (((List Api_Device) × (List Api_Port) × (List Api_Link) × (List Api_Domain) × (List Api_Static) × (List Api_Flood) × (List Api_Vrf) × (List Api_Irb) × (List Bool) × Nat × (List Bool) × Nat × (List Bool) × Nat × (List Bool) × Nat)) :=
 (slices_Clone_Device a1.devices).bind fun r2 => match r2 with
 | l4 =>
  (slices_Clone_Port a1.ports).bind fun r5 => match r5 with
  | l7 =>
   (slices_Clone_Link a1.links).bind fun r8 => match r8 with
   | l10 =>
    (slices_Clone_Domain a1.domains).bind fun r11 => match r11 with
    | l13 =>
     (slices_Clone_Static a1.statics).bind fun r14 => match r14 with
     | l16 =>
      (slices_Clone_Flood a1.floods).bind fun r17 => match r17 with
      | l19 =>
       (slices_Clone_Vrf a1.vrfs).bind fun r20 => match r20 with
       | l22 =>
        (slices_Clone_Irb a1.irbs).bind fun r23 => match r23 with
        | l25 =>
         (loopM (fun s : (List Api_Port) × (List Bool) × Int => match s with | (l26, p27, v28) => names_Copy_dp_L1 l4 l7 l10 l13 l16 l19 l22 l25 l26 p27 v28) (l7, (List.replicate (List.length l7) false), 0)).bind fun r44 => match r44 with
         | (l41, p42) =>
          (loopM (fun s : (List Api_Domain) × (List Bool) × Int => match s with | (l45, p46, v47) => names_Copy_dp_L2 l4 l7 l10 l13 l16 l19 l22 l25 l41 p42 l45 p46 v47) (l13, (List.replicate (List.length l13) false), 0)).bind fun r63 => match r63 with
          | (l60, p61) =>
           (loopM (fun s : (List Api_Flood) × (List Bool) × Int => match s with | (l64, p65, v66) => names_Copy_dp_L3 l4 l7 l10 l13 l16 l19 l22 l25 l41 p42 l60 p61 l64 p65 v66) (l19, (List.replicate (List.length l19) false), 0)).bind fun r82 => match r82 with
           | (l79, p80) =>
            (loopM (fun s : (List Api_Vrf) × (List Bool) × Int => match s with | (l83, p84, v85) => names_Copy_dp_L4 l4 l7 l10 l13 l16 l19 l22 l25 l41 p42 l60 p61 l79 p80 l83 p84 v85) (l22, (List.replicate (List.length l22) false), 0)).bind fun r104 => match r104 with
            | (l101, p102) =>
             some (l4, l41, l10, l60, l16, l79, l101, l25, p42, (List.length l7), p61, (List.length l13), p80, (List.length l19), p102, (List.length l22))

def slices_Equal_Device_L1 (a1 : List Api_Device) (a2 : List Api_Device) (v4 : Int) : Option ((Int) ⊕ (Unit ⊕ Unit)) :=
 if (decide (v4 < (a1.length : Int))) = true then
  (nth a1 v4).bind fun x6 =>
  (nth a2 v4).bind fun x8 =>
  if (!(eq_Api_Device x6 x8)) = true then
   some (Sum.inr (Sum.inl ()))
  else
   some (Sum.inl (wr_i64 (v4 + 1)))
 else
  some (Sum.inr (Sum.inr ()))

def slices_Equal_Device (a1 : List Api_Device) (a2 : List Api_Device) : Option (Bool) :=
 if ((a1.length : Int) != (a2.length : Int)) = true then
  some false
 else
  (loopM (slices_Equal_Device_L1 a1 a2) 0).bind fun r12 => match r12 with
  | Sum.inl () =>
   some false
  | Sum.inr () =>
   some true

def slices_Equal_Link_L1 (a1 : List Api_Link) (a2 : List Api_Link) (v4 : Int) : Option ((Int) ⊕ (Unit ⊕ Unit)) :=
 if (decide (v4 < (a1.length : Int))) = true then
  (nth a1 v4).bind fun x6 =>
  (nth a2 v4).bind fun x8 =>
  if (!(eq_Api_Link x6 x8)) = true then
   some (Sum.inr (Sum.inl ()))
  else
   some (Sum.inl (wr_i64 (v4 + 1)))
 else
  some (Sum.inr (Sum.inr ()))

def slices_Equal_Link (a1 : List Api_Link) (a2 : List Api_Link) : Option (Bool) :=
 if ((a1.length : Int) != (a2.length : Int)) = true then
  some false
 else
  (loopM (slices_Equal_Link_L1 a1 a2) 0).bind fun r12 => match r12 with
  | Sum.inl () =>
   some false
  | Sum.inr () =>
   some true

def slices_Equal_Static_L1 (a1 : List Api_Static) (a2 : List Api_Static) (v4 : Int) : Option ((Int) ⊕ (Unit ⊕ Unit)) :=
 if (decide (v4 < (a1.length : Int))) = true then
  (nth a1 v4).bind fun x6 =>
  (nth a2 v4).bind fun x8 =>
  if (!(eq_Api_Static x6 x8)) = true then
   some (Sum.inr (Sum.inl ()))
  else
   some (Sum.inl (wr_i64 (v4 + 1)))
 else
  some (Sum.inr (Sum.inr ()))

def slices_Equal_Static (a1 : List Api_Static) (a2 : List Api_Static) : Option (Bool) :=
 if ((a1.length : Int) != (a2.length : Int)) = true then
  some false
 else
  (loopM (slices_Equal_Static_L1 a1 a2) 0).bind fun r12 => match r12 with
  | Sum.inl () =>
   some false
  | Sum.inr () =>
   some true

def slices_Equal_Irb_L1 (a1 : List Api_Irb) (a2 : List Api_Irb) (v4 : Int) : Option ((Int) ⊕ (Unit ⊕ Unit)) :=
 if (decide (v4 < (a1.length : Int))) = true then
  (nth a1 v4).bind fun x6 =>
  (nth a2 v4).bind fun x8 =>
  if (!(eq_Api_Irb x6 x8)) = true then
   some (Sum.inr (Sum.inl ()))
  else
   some (Sum.inl (wr_i64 (v4 + 1)))
 else
  some (Sum.inr (Sum.inr ()))

def slices_Equal_Irb (a1 : List Api_Irb) (a2 : List Api_Irb) : Option (Bool) :=
 if ((a1.length : Int) != (a2.length : Int)) = true then
  some false
 else
  (loopM (slices_Equal_Irb_L1 a1 a2) 0).bind fun r12 => match r12 with
  | Sum.inl () =>
   some false
  | Sum.inr () =>
   some true

def slices_Equal_int_L1 (a1 : List Int) (a2 : List Int) (v4 : Int) : Option ((Int) ⊕ (Unit ⊕ Unit)) :=
 if (decide (v4 < (a1.length : Int))) = true then
  (nth a1 v4).bind fun x6 =>
  (nth a2 v4).bind fun x8 =>
  if (x6 != x8) = true then
   some (Sum.inr (Sum.inl ()))
  else
   some (Sum.inl (wr_i64 (v4 + 1)))
 else
  some (Sum.inr (Sum.inr ()))

def slices_Equal_int (a1 : List Int) (a2 : List Int) : Option (Bool) :=
 if ((a1.length : Int) != (a2.length : Int)) = true then
  some false
 else
  (loopM (slices_Equal_int_L1 a1 a2) 0).bind fun r12 => match r12 with
  | Sum.inl () =>
   some false
  | Sum.inr () =>
   some true

def names_Same_1 (a1 : Api_Port) (a2 : Api_Port) : Option (Bool) :=
 if (a1.row == a2.row) = true then
  if (a1.dev == a2.dev) = true then
   if (a1.native == a2.native) = true then
    if (a1.cost == a2.cost) = true then
     if (a1.link == a2.link) = true then
      if (seqB a1.name a2.name) = true then
       (slices_Equal_int a1.tagged a2.tagged).bind fun r9 =>
       some r9
      else
       some false
     else
      some false
    else
     some false
   else
    some false
  else
   some false
 else
  some false

def slices_EqualFunc_Port_Same_1_L1 (a1 : List Api_Port) (a2 : List Api_Port) (v4 : Int) : Option ((Int) ⊕ (Unit ⊕ Unit)) :=
 if (decide (v4 < (a1.length : Int))) = true then
  (nth a1 v4).bind fun x6 =>
  (nth a2 v4).bind fun x8 =>
  (names_Same_1 x6 x8).bind fun r10 =>
  if (!r10) = true then
   some (Sum.inr (Sum.inl ()))
  else
   some (Sum.inl (wr_i64 (v4 + 1)))
 else
  some (Sum.inr (Sum.inr ()))

def slices_EqualFunc_Port_Same_1 (a1 : List Api_Port) (a2 : List Api_Port) : Option (Bool) :=
 if ((a1.length : Int) != (a2.length : Int)) = true then
  some false
 else
  (loopM (slices_EqualFunc_Port_Same_1_L1 a1 a2) 0).bind fun r14 => match r14 with
  | Sum.inl () =>
   some false
  | Sum.inr () =>
   some true

def names_Same_2 (a1 : Api_Domain) (a2 : Api_Domain) : Option (Bool) :=
 if (a1.dev == a2.dev) = true then
  if (a1.vlan == a2.vlan) = true then
   if (a1.vni == a2.vni) = true then
    if (a1.irb == a2.irb) = true then
     if (a1.row == a2.row) = true then
      (slices_Equal_int a1.peers a2.peers).bind fun r8 =>
      some r8
     else
      some false
    else
     some false
   else
    some false
  else
   some false
 else
  some false

def slices_EqualFunc_Domain_Same_2_L1 (a1 : List Api_Domain) (a2 : List Api_Domain) (v4 : Int) : Option ((Int) ⊕ (Unit ⊕ Unit)) :=
 if (decide (v4 < (a1.length : Int))) = true then
  (nth a1 v4).bind fun x6 =>
  (nth a2 v4).bind fun x8 =>
  (names_Same_2 x6 x8).bind fun r10 =>
  if (!r10) = true then
   some (Sum.inr (Sum.inl ()))
  else
   some (Sum.inl (wr_i64 (v4 + 1)))
 else
  some (Sum.inr (Sum.inr ()))

def slices_EqualFunc_Domain_Same_2 (a1 : List Api_Domain) (a2 : List Api_Domain) : Option (Bool) :=
 if ((a1.length : Int) != (a2.length : Int)) = true then
  some false
 else
  (loopM (slices_EqualFunc_Domain_Same_2_L1 a1 a2) 0).bind fun r14 => match r14 with
  | Sum.inl () =>
   some false
  | Sum.inr () =>
   some true

def slices_Equal_uint32_L1 (a1 : List Int) (a2 : List Int) (v4 : Int) : Option ((Int) ⊕ (Unit ⊕ Unit)) :=
 if (decide (v4 < (a1.length : Int))) = true then
  (nth a1 v4).bind fun x6 =>
  (nth a2 v4).bind fun x8 =>
  if (x6 != x8) = true then
   some (Sum.inr (Sum.inl ()))
  else
   some (Sum.inl (wr_i64 (v4 + 1)))
 else
  some (Sum.inr (Sum.inr ()))

def slices_Equal_uint32 (a1 : List Int) (a2 : List Int) : Option (Bool) :=
 if ((a1.length : Int) != (a2.length : Int)) = true then
  some false
 else
  (loopM (slices_Equal_uint32_L1 a1 a2) 0).bind fun r12 => match r12 with
  | Sum.inl () =>
   some false
  | Sum.inr () =>
   some true

def names_Same_3 (a1 : Api_Flood) (a2 : Api_Flood) : Option (Bool) :=
 if (a1.row == a2.row) = true then
  if (a1.dev == a2.dev) = true then
   if (a1.vni == a2.vni) = true then
    (slices_Equal_uint32 a1.addrs a2.addrs).bind fun r6 =>
    some r6
   else
    some false
  else
   some false
 else
  some false

def slices_EqualFunc_Flood_Same_3_L1 (a1 : List Api_Flood) (a2 : List Api_Flood) (v4 : Int) : Option ((Int) ⊕ (Unit ⊕ Unit)) :=
 if (decide (v4 < (a1.length : Int))) = true then
  (nth a1 v4).bind fun x6 =>
  (nth a2 v4).bind fun x8 =>
  (names_Same_3 x6 x8).bind fun r10 =>
  if (!r10) = true then
   some (Sum.inr (Sum.inl ()))
  else
   some (Sum.inl (wr_i64 (v4 + 1)))
 else
  some (Sum.inr (Sum.inr ()))

def slices_EqualFunc_Flood_Same_3 (a1 : List Api_Flood) (a2 : List Api_Flood) : Option (Bool) :=
 if ((a1.length : Int) != (a2.length : Int)) = true then
  some false
 else
  (loopM (slices_EqualFunc_Flood_Same_3_L1 a1 a2) 0).bind fun r14 => match r14 with
  | Sum.inl () =>
   some false
  | Sum.inr () =>
   some true

def names_Same_4 (a1 : Api_Vrf) (a2 : Api_Vrf) : Option (Bool) :=
 if (a1.row == a2.row) = true then
  if (a1.dev == a2.dev) = true then
   if (seqB a1.name a2.name) = true then
    (slices_Equal_int a1.imports a2.imports).bind fun r6 =>
    if (r6) = true then
     (slices_Equal_int a1.exports a2.exports).bind fun r9 =>
     some r9
    else
     some false
   else
    some false
  else
   some false
 else
  some false

def slices_EqualFunc_Vrf_Same_4_L1 (a1 : List Api_Vrf) (a2 : List Api_Vrf) (v4 : Int) : Option ((Int) ⊕ (Unit ⊕ Unit)) :=
 if (decide (v4 < (a1.length : Int))) = true then
  (nth a1 v4).bind fun x6 =>
  (nth a2 v4).bind fun x8 =>
  (names_Same_4 x6 x8).bind fun r10 =>
  if (!r10) = true then
   some (Sum.inr (Sum.inl ()))
  else
   some (Sum.inl (wr_i64 (v4 + 1)))
 else
  some (Sum.inr (Sum.inr ()))

def slices_EqualFunc_Vrf_Same_4 (a1 : List Api_Vrf) (a2 : List Api_Vrf) : Option (Bool) :=
 if ((a1.length : Int) != (a2.length : Int)) = true then
  some false
 else
  (loopM (slices_EqualFunc_Vrf_Same_4_L1 a1 a2) 0).bind fun r14 => match r14 with
  | Sum.inl () =>
   some false
  | Sum.inr () =>
   some true

def names_Same (a1 : Api_Net) (a2 : Api_Net) : Option (Bool) :=
 (slices_Equal_Device a1.devices a2.devices).bind fun r3 =>
 if (r3) = true then
  (slices_Equal_Link a1.links a2.links).bind fun r6 =>
  if (r6) = true then
   (slices_Equal_Static a1.statics a2.statics).bind fun r9 =>
   if (r9) = true then
    (slices_Equal_Irb a1.irbs a2.irbs).bind fun r12 =>
    if (r12) = true then
     (slices_EqualFunc_Port_Same_1 a1.ports a2.ports).bind fun r15 =>
     if (r15) = true then
      (slices_EqualFunc_Domain_Same_2 a1.domains a2.domains).bind fun r18 =>
      if (r18) = true then
       (slices_EqualFunc_Flood_Same_3 a1.floods a2.floods).bind fun r21 =>
       if (r21) = true then
        (slices_EqualFunc_Vrf_Same_4 a1.vrfs a2.vrfs).bind fun r24 =>
        some r24
       else
        some false
      else
       some false
     else
      some false
    else
     some false
   else
    some false
  else
   some false
 else
  some false

def palinglaw15_NamesOwn_L1 (a1 : Api_Net) (l10 : List Api_Device) (l11 : List Api_Port) (l12 : List Api_Link) (l13 : List Api_Domain) (l14 : List Api_Static) (l15 : List Api_Flood) (l16 : List Api_Vrf) (l17 : List Api_Irb) (n18 : Nat) (n19 : Nat) (n20 : Nat) (n21 : Nat) (l24 : List Api_Device) (l25 : List Api_Port) (l26 : List Api_Link) (l27 : List Api_Domain) (l28 : List Api_Static) (l29 : List Api_Flood) (l30 : List Api_Vrf) (l31 : List Api_Irb) (p32 : List Bool) (n33 : Nat) (p34 : List Bool) (n35 : Nat) (p36 : List Bool) (n37 : Nat) (p38 : List Bool) (n39 : Nat) (l40 : List Api_Device) (v41 : Int) : Option (((List Api_Device) × Int) ⊕ ((List Api_Device))) :=
 if (decide (v41 < ((List.length l24) : Int))) = true then
  if (lin l40 v41) = true then
   (l40[(Int.toNat v41)]?).bind fun x44 =>
   (l40[(Int.toNat v41)]?).bind fun x46 =>
   some (Sum.inl (List.set l40 (Int.toNat v41) (⟨x46.row, wr_i64 (x44.priority + 1), x46.name, x46.mac, x46.vtep⟩ : Api_Device), wr_i64 (v41 + 1)))
  else
   none
 else
  some (Sum.inr l40)

def palinglaw15_NamesOwn_L3 (a1 : Api_Net) (l10 : List Api_Device) (l11 : List Api_Port) (l12 : List Api_Link) (l13 : List Api_Domain) (l14 : List Api_Static) (l15 : List Api_Flood) (l16 : List Api_Vrf) (l17 : List Api_Irb) (n18 : Nat) (n19 : Nat) (n20 : Nat) (n21 : Nat) (l24 : List Api_Device) (l26 : List Api_Link) (l27 : List Api_Domain) (l28 : List Api_Static) (l29 : List Api_Flood) (l30 : List Api_Vrf) (l31 : List Api_Irb) (n33 : Nat) (p34 : List Bool) (n35 : Nat) (p36 : List Bool) (n37 : Nat) (p38 : List Bool) (n39 : Nat) (l52 : List Api_Device) (l55 : List Api_Port) (p56 : List Bool) (v57 : Int) (x59 : Api_Port) (l63 : List Int) (v64 : Int) : Option (((List Int) × Int) ⊕ ((List Int))) :=
 if (decide (v64 < ((List.length x59.tagged) : Int))) = true then
  if (lin l55 v57) = true then
   if (lin l63 v64) = true then
    (l63[(Int.toNat v64)]?).bind fun x68 =>
    (l63[(Int.toNat v64)]?).bind fun x70 =>
    some (Sum.inl (List.set l63 (Int.toNat v64) (wr_i64 (x68 + 1) : Int), wr_i64 (v64 + 1)))
   else
    none
  else
   none
 else
  some (Sum.inr l63)

def palinglaw15_NamesOwn_L2 (a1 : Api_Net) (l10 : List Api_Device) (l11 : List Api_Port) (l12 : List Api_Link) (l13 : List Api_Domain) (l14 : List Api_Static) (l15 : List Api_Flood) (l16 : List Api_Vrf) (l17 : List Api_Irb) (n18 : Nat) (n19 : Nat) (n20 : Nat) (n21 : Nat) (l24 : List Api_Device) (l26 : List Api_Link) (l27 : List Api_Domain) (l28 : List Api_Static) (l29 : List Api_Flood) (l30 : List Api_Vrf) (l31 : List Api_Irb) (n33 : Nat) (p34 : List Bool) (n35 : Nat) (p36 : List Bool) (n37 : Nat) (p38 : List Bool) (n39 : Nat) (l52 : List Api_Device) (l55 : List Api_Port) (p56 : List Bool) (v57 : Int) : Option (((List Api_Port) × (List Bool) × Int) ⊕ (((List Api_Port) × (List Bool)))) :=
 if (decide (v57 < (n33 : Int))) = true then
  (l55[(Int.toNat v57)]?).bind fun x59 =>
  if (pmis p56 (Int.toNat v57) true) = true then
   if (lin l55 v57) = true then
    (loopM (fun s : (List Int) × Int => match s with | (l63, v64) => palinglaw15_NamesOwn_L3 a1 l10 l11 l12 l13 l14 l15 l16 l17 n18 n19 n20 n21 l24 l26 l27 l28 l29 l30 l31 n33 p34 n35 p36 n37 p38 n39 l52 l55 p56 v57 x59 l63 v64) (x59.tagged, 0)).bind fun r80 => match r80 with
    | l78 =>
     some (Sum.inl (List.set l55 (Int.toNat v57) (⟨x59.row, x59.dev, wr_i64 (x59.native + 1), x59.cost, x59.link, x59.name, l78⟩ : Api_Port), (List.set p56 (Int.toNat v57) true), wr_i64 (v57 + 1)))
   else
    none
  else
   none
 else
  some (Sum.inr (l55, p56))

def palinglaw15_NamesOwn_L5 (a1 : Api_Net) (l10 : List Api_Device) (l11 : List Api_Port) (l12 : List Api_Link) (l13 : List Api_Domain) (l14 : List Api_Static) (l15 : List Api_Flood) (l16 : List Api_Vrf) (l17 : List Api_Irb) (n18 : Nat) (n19 : Nat) (n20 : Nat) (n21 : Nat) (l24 : List Api_Device) (l26 : List Api_Link) (l28 : List Api_Static) (l29 : List Api_Flood) (l30 : List Api_Vrf) (l31 : List Api_Irb) (n33 : Nat) (n35 : Nat) (p36 : List Bool) (n37 : Nat) (p38 : List Bool) (n39 : Nat) (l52 : List Api_Device) (l89 : List Api_Port) (p90 : List Bool) (l93 : List Api_Domain) (p94 : List Bool) (v95 : Int) (x97 : Api_Domain) (l101 : List Int) (v102 : Int) : Option (((List Int) × Int) ⊕ ((List Int))) :=
 if (decide (v102 < ((List.length x97.peers) : Int))) = true then
  if (lin l93 v95) = true then
   if (lin l101 v102) = true then
    (l101[(Int.toNat v102)]?).bind fun x106 =>
    (l101[(Int.toNat v102)]?).bind fun x108 =>
    some (Sum.inl (List.set l101 (Int.toNat v102) (wr_i64 (x106 + 1) : Int), wr_i64 (v102 + 1)))
   else
    none
  else
   none
 else
  some (Sum.inr l101)

def palinglaw15_NamesOwn_L4 (a1 : Api_Net) (l10 : List Api_Device) (l11 : List Api_Port) (l12 : List Api_Link) (l13 : List Api_Domain) (l14 : List Api_Static) (l15 : List Api_Flood) (l16 : List Api_Vrf) (l17 : List Api_Irb) (n18 : Nat) (n19 : Nat) (n20 : Nat) (n21 : Nat) (l24 : List Api_Device) (l26 : List Api_Link) (l28 : List Api_Static) (l29 : List Api_Flood) (l30 : List Api_Vrf) (l31 : List Api_Irb) (n33 : Nat) (n35 : Nat) (p36 : List Bool) (n37 : Nat) (p38 : List Bool) (n39 : Nat) (l52 : List Api_Device) (l89 : List Api_Port) (p90 : List Bool) (l93 : List Api_Domain) (p94 : List Bool) (v95 : Int) : Option (((List Api_Domain) × (List Bool) × Int) ⊕ (((List Api_Domain) × (List Bool)))) :=
 if (decide (v95 < (n35 : Int))) = true then
  (l93[(Int.toNat v95)]?).bind fun x97 =>
  if (pmis p94 (Int.toNat v95) true) = true then
   if (lin l93 v95) = true then
    (loopM (fun s : (List Int) × Int => match s with | (l101, v102) => palinglaw15_NamesOwn_L5 a1 l10 l11 l12 l13 l14 l15 l16 l17 n18 n19 n20 n21 l24 l26 l28 l29 l30 l31 n33 n35 p36 n37 p38 n39 l52 l89 p90 l93 p94 v95 x97 l101 v102) (x97.peers, 0)).bind fun r118 => match r118 with
    | l116 =>
     some (Sum.inl (List.set l93 (Int.toNat v95) (⟨x97.dev, wr_i64 (x97.vlan + 1), x97.vni, x97.irb, x97.row, l116⟩ : Api_Domain), (List.set p94 (Int.toNat v95) true), wr_i64 (v95 + 1)))
   else
    none
  else
   none
 else
  some (Sum.inr (l93, p94))

def palinglaw15_NamesOwn_L7 (a1 : Api_Net) (l10 : List Api_Device) (l11 : List Api_Port) (l12 : List Api_Link) (l13 : List Api_Domain) (l14 : List Api_Static) (l15 : List Api_Flood) (l16 : List Api_Vrf) (l17 : List Api_Irb) (n18 : Nat) (n19 : Nat) (n20 : Nat) (n21 : Nat) (l24 : List Api_Device) (l26 : List Api_Link) (l28 : List Api_Static) (l29 : List Api_Flood) (l31 : List Api_Irb) (n33 : Nat) (n35 : Nat) (p36 : List Bool) (n37 : Nat) (n39 : Nat) (l52 : List Api_Device) (l89 : List Api_Port) (p90 : List Bool) (l127 : List Api_Domain) (p128 : List Bool) (l131 : List Api_Vrf) (p132 : List Bool) (v133 : Int) (x135 : Api_Vrf) (l139 : List Int) (v140 : Int) : Option (((List Int) × Int) ⊕ ((List Int))) :=
 if (decide (v140 < ((List.length x135.imports) : Int))) = true then
  if (lin l131 v133) = true then
   if (lin l139 v140) = true then
    (l139[(Int.toNat v140)]?).bind fun x144 =>
    (l139[(Int.toNat v140)]?).bind fun x146 =>
    some (Sum.inl (List.set l139 (Int.toNat v140) (wr_i64 (x144 + 1) : Int), wr_i64 (v140 + 1)))
   else
    none
  else
   none
 else
  some (Sum.inr l139)

def palinglaw15_NamesOwn_L6 (a1 : Api_Net) (l10 : List Api_Device) (l11 : List Api_Port) (l12 : List Api_Link) (l13 : List Api_Domain) (l14 : List Api_Static) (l15 : List Api_Flood) (l16 : List Api_Vrf) (l17 : List Api_Irb) (n18 : Nat) (n19 : Nat) (n20 : Nat) (n21 : Nat) (l24 : List Api_Device) (l26 : List Api_Link) (l28 : List Api_Static) (l29 : List Api_Flood) (l31 : List Api_Irb) (n33 : Nat) (n35 : Nat) (p36 : List Bool) (n37 : Nat) (n39 : Nat) (l52 : List Api_Device) (l89 : List Api_Port) (p90 : List Bool) (l127 : List Api_Domain) (p128 : List Bool) (l131 : List Api_Vrf) (p132 : List Bool) (v133 : Int) : Option (((List Api_Vrf) × (List Bool) × Int) ⊕ (Unit)) :=
 if (decide (v133 < (n39 : Int))) = true then
  (l131[(Int.toNat v133)]?).bind fun x135 =>
  if (pmis p132 (Int.toNat v133) true) = true then
   if (lin l131 v133) = true then
    (loopM (fun s : (List Int) × Int => match s with | (l139, v140) => palinglaw15_NamesOwn_L7 a1 l10 l11 l12 l13 l14 l15 l16 l17 n18 n19 n20 n21 l24 l26 l28 l29 l31 n33 n35 p36 n37 n39 l52 l89 p90 l127 p128 l131 p132 v133 x135 l139 v140) (x135.imports, 0)).bind fun r156 => match r156 with
    | l154 =>
     some (Sum.inl (List.set l131 (Int.toNat v133) (⟨x135.row, wr_i64 (x135.dev + 1), x135.name, l154, x135.exports⟩ : Api_Vrf), (List.set p132 (Int.toNat v133) true), wr_i64 (v133 + 1)))
   else
    none
  else
   none
 else
  some (Sum.inr ())

def palinglaw15_NamesOwn (a1 : Api_Net) : Option (Bool) :=
 (palinglaw15_works).bind fun r2 =>
 if (!r2) = true then
  some false
 else
  (palinglaw15_Great a1).bind fun r5 =>
  if (r5) = true then
   some true
  else
   (names_Copy a1).bind fun r8 => match r8 with
   | (l10, l11, l12, l13, l14, l15, l16, l17, n18, n19, n20, n21) =>
    (names_Copy_dp (⟨l10, l11, l12, l13, l14, l15, l16, l17⟩ : Api_Net)).bind fun r22 => match r22 with
    | (l24, l25, l26, l27, l28, l29, l30, l31, p32, n33, p34, n35, p36, n37, p38, n39) =>
     (loopM (fun s : (List Api_Device) × Int => match s with | (l40, v41) => palinglaw15_NamesOwn_L1 a1 l10 l11 l12 l13 l14 l15 l16 l17 n18 n19 n20 n21 l24 l25 l26 l27 l28 l29 l30 l31 p32 n33 p34 n35 p36 n37 p38 n39 l40 v41) (l24, 0)).bind fun r54 => match r54 with
     | l52 =>
      (loopM (fun s : (List Api_Port) × (List Bool) × Int => match s with | (l55, p56, v57) => palinglaw15_NamesOwn_L2 a1 l10 l11 l12 l13 l14 l15 l16 l17 n18 n19 n20 n21 l24 l26 l27 l28 l29 l30 l31 n33 p34 n35 p36 n37 p38 n39 l52 l55 p56 v57) (l25, p32, 0)).bind fun r92 => match r92 with
      | (l89, p90) =>
       (loopM (fun s : (List Api_Domain) × (List Bool) × Int => match s with | (l93, p94, v95) => palinglaw15_NamesOwn_L4 a1 l10 l11 l12 l13 l14 l15 l16 l17 n18 n19 n20 n21 l24 l26 l28 l29 l30 l31 n33 n35 p36 n37 p38 n39 l52 l89 p90 l93 p94 v95) (l27, p34, 0)).bind fun r130 => match r130 with
       | (l127, p128) =>
        (loopM (fun s : (List Api_Vrf) × (List Bool) × Int => match s with | (l131, p132, v133) => palinglaw15_NamesOwn_L6 a1 l10 l11 l12 l13 l14 l15 l16 l17 n18 n19 n20 n21 l24 l26 l28 l29 l31 n33 n35 p36 n37 n39 l52 l89 p90 l127 p128 l131 p132 v133) (l30, p38, 0)).bind fun r158 => match r158 with
        | () =>
         (names_Same (⟨l10, l11, l12, l13, l14, l15, l16, l17⟩ : Api_Net) a1).bind fun r159 =>
         some r159

end Go.Eng
