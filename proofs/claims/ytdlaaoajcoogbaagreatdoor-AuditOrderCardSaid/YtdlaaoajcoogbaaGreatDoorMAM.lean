/- Part of the proof of AuditOrder: printed mirrors of the functions, or their contracts. No conditions. -/
import Derived.Test.YtdlaaoajcoogbaaGreatDoorEng14
set_option linter.unusedVariables false
set_option maxRecDepth 100000
namespace Go.Eng
open Go
structure Api_Device where
 row : Int
 priority : Int
 name : ByteArray
 mac : Int
 vtep : Int
 deriving DecidableEq, Inhabited

def Api_Device.Ok (x : Api_Device) : Prop := (okI .i64) x.row ∧ (okI .i64) x.priority ∧ okS x.name ∧ (okI .u64) x.mac ∧ (okI .u32) x.vtep ∧ True

structure Api_Port where
 row : Int
 dev : Int
 native : Int
 cost : Int
 link : Int
 name : ByteArray
 tagged : List Int
 deriving DecidableEq, Inhabited

def Api_Port.Ok (x : Api_Port) : Prop := (okI .i64) x.row ∧ (okI .i64) x.dev ∧ (okI .i64) x.native ∧ (okI .i64) x.cost ∧ (okI .i64) x.link ∧ okS x.name ∧ (okL (okI .i64)) x.tagged ∧ True

structure Api_Link where
 row : Int
 a : Int
 b : Int
 deriving DecidableEq, Inhabited

def Api_Link.Ok (x : Api_Link) : Prop := (okI .i64) x.row ∧ (okI .i64) x.a ∧ (okI .i64) x.b ∧ True

structure Api_Domain where
 dev : Int
 vlan : Int
 vni : Int
 irb : Int
 row : Int
 peers : List Int
 deriving DecidableEq, Inhabited

def Api_Domain.Ok (x : Api_Domain) : Prop := (okI .i64) x.dev ∧ (okI .i64) x.vlan ∧ (okI .i64) x.vni ∧ (okI .i64) x.irb ∧ (okI .i64) x.row ∧ (okL (okI .i64)) x.peers ∧ True

structure Api_Static where
 row : Int
 domain : Int
 port : Int
 mac : Int
 deriving DecidableEq, Inhabited

def Api_Static.Ok (x : Api_Static) : Prop := (okI .i64) x.row ∧ (okI .i64) x.domain ∧ (okI .i64) x.port ∧ (okI .u64) x.mac ∧ True

structure Api_Flood where
 row : Int
 dev : Int
 vni : Int
 addrs : List Int
 deriving DecidableEq, Inhabited

def Api_Flood.Ok (x : Api_Flood) : Prop := (okI .i64) x.row ∧ (okI .i64) x.dev ∧ (okI .i64) x.vni ∧ (okL (okI .u32)) x.addrs ∧ True

structure Api_Vrf where
 row : Int
 dev : Int
 name : ByteArray
 imports : List Int
 exports : List Int
 deriving DecidableEq, Inhabited

def Api_Vrf.Ok (x : Api_Vrf) : Prop := (okI .i64) x.row ∧ (okI .i64) x.dev ∧ okS x.name ∧ (okL (okI .i64)) x.imports ∧ (okL (okI .i64)) x.exports ∧ True

structure Api_Prefix where
 addr : Int
 bits : Int
 deriving DecidableEq, Inhabited

def Api_Prefix.Ok (x : Api_Prefix) : Prop := (okI .u32) x.addr ∧ (okI .i64) x.bits ∧ True

structure Api_Irb where
 row : Int
 domain : Int
 vrf : Int
 net : Api_Prefix
 deriving DecidableEq, Inhabited

def Api_Irb.Ok (x : Api_Irb) : Prop := (okI .i64) x.row ∧ (okI .i64) x.domain ∧ (okI .i64) x.vrf ∧ Api_Prefix.Ok x.net ∧ True

structure Api_Net where
 devices : List Api_Device
 ports : List Api_Port
 links : List Api_Link
 domains : List Api_Domain
 statics : List Api_Static
 floods : List Api_Flood
 vrfs : List Api_Vrf
 irbs : List Api_Irb
 deriving DecidableEq, Inhabited

def Api_Net.Ok (x : Api_Net) : Prop := (okL Api_Device.Ok) x.devices ∧ (okL Api_Port.Ok) x.ports ∧ (okL Api_Link.Ok) x.links ∧ (okL Api_Domain.Ok) x.domains ∧ (okL Api_Static.Ok) x.statics ∧ (okL Api_Flood.Ok) x.floods ∧ (okL Api_Vrf.Ok) x.vrfs ∧ (okL Api_Irb.Ok) x.irbs ∧ True

structure Names_judge where
 n : Api_Net
 deriving DecidableEq, Inhabited

def Names_judge.Ok (x : Names_judge) : Prop := Api_Net.Ok x.n ∧ True

structure Audit_Note where
 kind : Int
 row : Int
 a : Int
 b : Int
 deriving DecidableEq, Inhabited

def Audit_Note.Ok (x : Audit_Note) : Prop := (okI .i64) x.kind ∧ (okI .i64) x.row ∧ (okI .i64) x.a ∧ (okI .i64) x.b ∧ True

structure Audit_auditor where
 n : Api_Net
 list : List Audit_Note
 deriving DecidableEq, Inhabited

def Audit_auditor.Ok (x : Audit_auditor) : Prop := Api_Net.Ok x.n ∧ (okL Audit_Note.Ok) x.list ∧ True

structure Reach_Hop where
 kind : Int
 port : Int
 domain : Int
 addr : Int
 deriving DecidableEq, Inhabited

def Reach_Hop.Ok (x : Reach_Hop) : Prop := (okI .i64) x.kind ∧ (okI .i64) x.port ∧ (okI .i64) x.domain ∧ (okI .u32) x.addr ∧ True

structure Reach_search where
 steps : List Int
 last : List Reach_Hop
 ahead : List Int
 deriving DecidableEq, Inhabited

def Reach_search.Ok (x : Reach_search) : Prop := (okL (okI .i64)) x.steps ∧ (okL Reach_Hop.Ok) x.last ∧ (okL (okI .i64)) x.ahead ∧ True

structure Palingref47_Note where
 kind : Int
 row : Int
 a : Int
 b : Int
 deriving DecidableEq, Inhabited

def Palingref47_Note.Ok (x : Palingref47_Note) : Prop := (okI .i64) x.kind ∧ (okI .i64) x.row ∧ (okI .i64) x.a ∧ (okI .i64) x.b ∧ True

structure Palingref35_Hop where
 kind : Int
 port : Int
 domain : Int
 addr : Int
 deriving DecidableEq, Inhabited

def Palingref35_Hop.Ok (x : Palingref35_Hop) : Prop := (okI .i64) x.kind ∧ (okI .i64) x.port ∧ (okI .i64) x.domain ∧ (okI .u32) x.addr ∧ True

def eq_Audit_Note (x y : Audit_Note) : Bool := (x.kind == y.kind && (x.row == y.row && (x.a == y.a && (x.b == y.b && true))))

def eq_Palingref47_Note (x y : Palingref47_Note) : Bool := (x.kind == y.kind && (x.row == y.row && (x.a == y.a && (x.b == y.b && true))))

def names_judge_few (a1 : Names_judge) : Option (Bool) :=
 if (decide ((a1.n.devices.length : Int) ≤ 8)) = true then
  if (decide ((a1.n.ports.length : Int) ≤ 40)) = true then
   if (decide ((a1.n.links.length : Int) ≤ 20)) = true then
    if (decide ((a1.n.domains.length : Int) ≤ 48)) = true then
     if (decide ((a1.n.statics.length : Int) ≤ 64)) = true then
      if (decide ((a1.n.floods.length : Int) ≤ 48)) = true then
       if (decide ((a1.n.vrfs.length : Int) ≤ 16)) = true then
        some (decide ((a1.n.irbs.length : Int) ≤ 48))
       else
        some false
      else
       some false
     else
      some false
    else
     some false
   else
    some false
  else
   some false
 else
  some false

def names_place_Device (a1 : List Api_Device) (a2 : Int) : Option (Bool) :=
 if (decide (a2 ≥ 0)) = true then
  some (decide (a2 < (a1.length : Int)))
 else
  some false

def names_judge_domain_1 (a1 : Api_Domain) (a2 : Int) (a3 : Int) : Option (Bool) :=
 if (a1.dev == a2) = true then
  some (a1.vlan == a3)
 else
  some false

def slices_IndexFunc_Domain_judge_domain_1_L1 (a1 : List Api_Domain) (a2 : Int) (a3 : Int) (v4 : Int) : Option ((Int) ⊕ (Int ⊕ Unit)) :=
 if (decide (v4 < (a1.length : Int))) = true then
  (nth a1 v4).bind fun x6 =>
  (names_judge_domain_1 x6 a2 a3).bind fun r8 =>
  if (r8) = true then
   some (Sum.inr (Sum.inl v4))
  else
   some (Sum.inl (wr_i64 (v4 + 1)))
 else
  some (Sum.inr (Sum.inr ()))

def slices_IndexFunc_Domain_judge_domain_1 (a1 : List Api_Domain) (a2 : Int) (a3 : Int) : Option (Int) :=
 (loopM (slices_IndexFunc_Domain_judge_domain_1_L1 a1 a2 a3) 0).bind fun r14 => match r14 with
 | Sum.inl v12 =>
  some v12
 | Sum.inr () =>
  some (-1)

def names_judge_domain (a1 : Names_judge) (a2 : Int) (a3 : Int) : Option (Int) :=
 (slices_IndexFunc_Domain_judge_domain_1 a1.n.domains a2 a3).bind fun r4 =>
 some r4

def names_place_Irb (a1 : List Api_Irb) (a2 : Int) : Option (Bool) :=
 if (decide (a2 ≥ 0)) = true then
  some (decide (a2 < (a1.length : Int)))
 else
  some false

def names_judge_bare (a1 : Names_judge) (a2 : Int) (a3 : Api_Domain) : Option (Bool) :=
 (names_place_Device a1.n.devices a3.dev).bind fun r4 =>
 if (r4) = true then
  if (decide (a3.vlan ≥ 1)) = true then
   if (decide (a3.vlan ≤ 4094)) = true then
    if (decide (a3.vni ≥ 0)) = true then
     if (decide (a3.vni ≤ 16777215)) = true then
      if (a3.irb == (-1)) = true then
       (names_judge_domain a1 a3.dev a3.vlan).bind fun r12 =>
       some (r12 == a2)
      else
       (names_place_Irb a1.n.irbs a3.irb).bind fun r14 =>
       if (r14) = true then
        (nth a1.n.irbs a3.irb).bind fun x17 =>
        if (x17.domain == a2) = true then
         (names_judge_domain a1 a3.dev a3.vlan).bind fun r20 =>
         some (r20 == a2)
        else
         some false
       else
        some false
     else
      some false
    else
     some false
   else
    some false
  else
   some false
 else
  some false

def names_all_Domain_judge_bare_L1 (a1 : List Api_Domain) (a2 : Names_judge) (v3 : Int) : Option ((Int) ⊕ (Unit ⊕ Unit)) :=
 if (decide (v3 < (a1.length : Int))) = true then
  (nth a1 v3).bind fun x5 =>
  (names_judge_bare a2 v3 x5).bind fun r7 =>
  if (!r7) = true then
   some (Sum.inr (Sum.inl ()))
  else
   some (Sum.inl (wr_i64 (v3 + 1)))
 else
  some (Sum.inr (Sum.inr ()))

def names_all_Domain_judge_bare (a1 : List Api_Domain) (a2 : Names_judge) : Option (Bool) :=
 (loopM (names_all_Domain_judge_bare_L1 a1 a2) 0).bind fun r11 => match r11 with
 | Sum.inl () =>
  some false
 | Sum.inr () =>
  some true

def names_place_Domain (a1 : List Api_Domain) (a2 : Int) : Option (Bool) :=
 if (decide (a2 ≥ 0)) = true then
  some (decide (a2 < (a1.length : Int)))
 else
  some false

def names_judge_vtep (a1 : Names_judge) (a2 : Api_Domain) : Option (Bool) :=
 (nth a1.n.devices a2.dev).bind fun x3 =>
 some (x3.vtep != 0)

def slices_Index_int_L1 (a1 : List Int) (a2 : Int) (v3 : Int) : Option ((Int) ⊕ (Int ⊕ Unit)) :=
 if (decide (v3 < (a1.length : Int))) = true then
  (nth a1 v3).bind fun x5 =>
  if (a2 == x5) = true then
   some (Sum.inr (Sum.inl v3))
  else
   some (Sum.inl (wr_i64 (v3 + 1)))
 else
  some (Sum.inr (Sum.inr ()))

def slices_Index_int (a1 : List Int) (a2 : Int) : Option (Int) :=
 (loopM (slices_Index_int_L1 a1 a2) 0).bind fun r11 => match r11 with
 | Sum.inl v9 =>
  some v9
 | Sum.inr () =>
  some (-1)

def slices_Contains_int (a1 : List Int) (a2 : Int) : Option (Bool) :=
 (slices_Index_int a1 a2).bind fun r3 =>
 some (decide (r3 ≥ 0))

def names_judge_peer (a1 : Names_judge) (a2 : Int) (a3 : Api_Domain) (a4 : Int) : Option (Bool) :=
 (names_place_Domain a1.n.domains a4).bind fun r5 =>
 if (!r5) = true then
  some false
 else
  if (a4 == a2) = true then
   some false
  else
   (nth a1.n.domains a4).bind fun x9 =>
   (names_place_Device a1.n.devices x9.dev).bind fun r11 =>
   if (r11) = true then
    if (x9.dev != a3.dev) = true then
     if (x9.vni == a3.vni) = true then
      if (a3.vni != 0) = true then
       (names_judge_vtep a1 x9).bind fun r17 =>
       if (r17) = true then
        (names_judge_vtep a1 a3).bind fun r20 =>
        if (r20) = true then
         (slices_Contains_int x9.peers a2).bind fun r23 =>
         some r23
        else
         some false
       else
        some false
      else
       some false
     else
      some false
    else
     some false
   else
    some false

def names_judge_peers_1 (a1 : Int) (a2 : Int) (a3 : Names_judge) (a4 : Int) (a5 : Api_Domain) : Option (Bool) :=
 (names_judge_peer a3 a4 a5 a2).bind fun r6 =>
 if (r6) = true then
  (slices_Index_int a5.peers a2).bind fun r9 =>
  some (r9 == a1)
 else
  some false

def names_all_int_judge_peers_1_L1 (a1 : List Int) (a2 : Names_judge) (a3 : Int) (a4 : Api_Domain) (v5 : Int) : Option ((Int) ⊕ (Unit ⊕ Unit)) :=
 if (decide (v5 < (a1.length : Int))) = true then
  (nth a1 v5).bind fun x7 =>
  (names_judge_peers_1 v5 x7 a2 a3 a4).bind fun r9 =>
  if (!r9) = true then
   some (Sum.inr (Sum.inl ()))
  else
   some (Sum.inl (wr_i64 (v5 + 1)))
 else
  some (Sum.inr (Sum.inr ()))

def names_all_int_judge_peers_1 (a1 : List Int) (a2 : Names_judge) (a3 : Int) (a4 : Api_Domain) : Option (Bool) :=
 (loopM (names_all_int_judge_peers_1_L1 a1 a2 a3 a4) 0).bind fun r13 => match r13 with
 | Sum.inl () =>
  some false
 | Sum.inr () =>
  some true

def names_judge_peers (a1 : Names_judge) (a2 : Int) (a3 : Api_Domain) : Option (Bool) :=
 (names_all_int_judge_peers_1 a3.peers a1 a2 a3).bind fun r4 =>
 some r4

def names_all_Domain_judge_peers_L1 (a1 : List Api_Domain) (a2 : Names_judge) (v3 : Int) : Option ((Int) ⊕ (Unit ⊕ Unit)) :=
 if (decide (v3 < (a1.length : Int))) = true then
  (nth a1 v3).bind fun x5 =>
  (names_judge_peers a2 v3 x5).bind fun r7 =>
  if (!r7) = true then
   some (Sum.inr (Sum.inl ()))
  else
   some (Sum.inl (wr_i64 (v3 + 1)))
 else
  some (Sum.inr (Sum.inr ()))

def names_all_Domain_judge_peers (a1 : List Api_Domain) (a2 : Names_judge) : Option (Bool) :=
 (loopM (names_all_Domain_judge_peers_L1 a1 a2) 0).bind fun r11 => match r11 with
 | Sum.inl () =>
  some false
 | Sum.inr () =>
  some true

def num_Rising_L1 (a1 : List Int) (a2 : Int) (a3 : Int) (v4 : Int) : Option ((Int) ⊕ (Unit ⊕ Unit)) :=
 if (decide (v4 < (a1.length : Int))) = true then
  (nth a1 v4).bind fun x6 =>
  if (decide (x6 < a2)) = true then
   some (Sum.inr (Sum.inl ()))
  else
   if (decide (x6 > a3)) = true then
    some (Sum.inr (Sum.inl ()))
   else
    if (decide (v4 > 0)) = true then
     (nth a1 (wr_i64 (v4 - 1))).bind fun x11 =>
     if (decide (x11 ≥ x6)) = true then
      some (Sum.inr (Sum.inl ()))
     else
      some (Sum.inl (wr_i64 (v4 + 1)))
    else
     some (Sum.inl (wr_i64 (v4 + 1)))
 else
  some (Sum.inr (Sum.inr ()))

def num_Rising (a1 : List Int) (a2 : Int) (a3 : Int) : Option (Bool) :=
 (loopM (num_Rising_L1 a1 a2 a3) 0).bind fun r15 => match r15 with
 | Sum.inl () =>
  some false
 | Sum.inr () =>
  if (decide ((a1.length : Int) > 0)) = true then
   some (decide ((a1.length : Int) ≤ 16))
  else
   some false

def names_rising (a1 : List Int) (a2 : Int) : Option (Bool) :=
 if ((a1.length : Int) == 0) = true then
  some true
 else
  (num_Rising a1 1 a2).bind fun r4 =>
  some r4

def names_place_Link (a1 : List Api_Link) (a2 : Int) : Option (Bool) :=
 if (decide (a2 ≥ 0)) = true then
  some (decide (a2 < (a1.length : Int)))
 else
  some false

def names_judge_port_J1 (a1 : Names_judge) (a2 : Int) (a3 : Api_Port) : Option (Unit ⊕ Unit) :=
 (names_place_Device a1.n.devices a3.dev).bind fun r4 =>
 if (!r4) = true then
  some (Sum.inl ())
 else
  if (decide (a3.native < 0)) = true then
   some (Sum.inl ())
  else
   if (decide (a3.native > 4094)) = true then
    some (Sum.inl ())
   else
    (names_rising a3.tagged 4094).bind fun r9 =>
    if (!r9) = true then
     some (Sum.inl ())
    else
     (slices_Contains_int a3.tagged a3.native).bind fun r12 =>
     if (r12) = true then
      some (Sum.inl ())
     else
      if (a3.native == 0) = true then
       if ((a3.tagged.length : Int) == 0) = true then
        some (Sum.inl ())
       else
        some (Sum.inr ())
      else
       some (Sum.inr ())

def names_judge_port_L2 (a1 : Names_judge) (a2 : Int) (a3 : Api_Port) (v19 : Int) : Option ((Int) ⊕ (Unit ⊕ Unit)) :=
 if (decide (v19 < (a3.tagged.length : Int))) = true then
  (nth a3.tagged v19).bind fun x21 =>
  (names_judge_domain a1 a3.dev x21).bind fun r23 =>
  if (decide (r23 < 0)) = true then
   some (Sum.inr (Sum.inl ()))
  else
   some (Sum.inl (wr_i64 (v19 + 1)))
 else
  some (Sum.inr (Sum.inr ()))

def names_judge_port_J3 (a1 : Names_judge) (a2 : Int) (a3 : Api_Port) : Option (Unit ⊕ Unit) :=
 if (decide (a3.native > 0)) = true then
  (names_judge_domain a1 a3.dev a3.native).bind fun r29 =>
  if (decide (r29 < 0)) = true then
   some (Sum.inl ())
  else
   some (Sum.inr ())
 else
  some (Sum.inr ())

def names_judge_port (a1 : Names_judge) (a2 : Int) (a3 : Api_Port) : Option (Bool) :=
 (names_judge_port_J1 a1 a2 a3).bind fun r18 => match r18 with
 | Sum.inl () =>
  some false
 | Sum.inr () =>
  (loopM (names_judge_port_L2 a1 a2 a3) 0).bind fun r27 => match r27 with
  | Sum.inl () =>
   some false
  | Sum.inr () =>
   (names_judge_port_J3 a1 a2 a3).bind fun r33 => match r33 with
   | Sum.inl () =>
    some false
   | Sum.inr () =>
    if (a3.link == (-1)) = true then
     some true
    else
     (names_place_Link a1.n.links a3.link).bind fun r35 =>
     if (r35) = true then
      (nth a1.n.links a3.link).bind fun x38 =>
      if (x38.a == a2) = true then
       some true
      else
       (nth a1.n.links a3.link).bind fun x41 =>
       some (x41.b == a2)
     else
      some false

def names_all_Port_judge_port_L1 (a1 : List Api_Port) (a2 : Names_judge) (v3 : Int) : Option ((Int) ⊕ (Unit ⊕ Unit)) :=
 if (decide (v3 < (a1.length : Int))) = true then
  (nth a1 v3).bind fun x5 =>
  (names_judge_port a2 v3 x5).bind fun r7 =>
  if (!r7) = true then
   some (Sum.inr (Sum.inl ()))
  else
   some (Sum.inl (wr_i64 (v3 + 1)))
 else
  some (Sum.inr (Sum.inr ()))

def names_all_Port_judge_port (a1 : List Api_Port) (a2 : Names_judge) : Option (Bool) :=
 (loopM (names_all_Port_judge_port_L1 a1 a2) 0).bind fun r11 => match r11 with
 | Sum.inl () =>
  some false
 | Sum.inr () =>
  some true

def names_place_Port (a1 : List Api_Port) (a2 : Int) : Option (Bool) :=
 if (decide (a2 ≥ 0)) = true then
  some (decide (a2 < (a1.length : Int)))
 else
  some false

def names_judge_link (a1 : Names_judge) (a2 : Int) (a3 : Api_Link) : Option (Bool) :=
 (names_place_Port a1.n.ports a3.a).bind fun r4 =>
 if (!r4) = true then
  some false
 else
  (names_place_Port a1.n.ports a3.b).bind fun r7 =>
  if (!r7) = true then
   some false
  else
   (nth a1.n.ports a3.a).bind fun x10 =>
   (nth a1.n.ports a3.b).bind fun x12 =>
   if (x10.dev != x12.dev) = true then
    if (x10.link == a2) = true then
     some (x12.link == a2)
    else
     some false
   else
    some false

def names_all_Link_judge_link_L1 (a1 : List Api_Link) (a2 : Names_judge) (v3 : Int) : Option ((Int) ⊕ (Unit ⊕ Unit)) :=
 if (decide (v3 < (a1.length : Int))) = true then
  (nth a1 v3).bind fun x5 =>
  (names_judge_link a2 v3 x5).bind fun r7 =>
  if (!r7) = true then
   some (Sum.inr (Sum.inl ()))
  else
   some (Sum.inl (wr_i64 (v3 + 1)))
 else
  some (Sum.inr (Sum.inr ()))

def names_all_Link_judge_link (a1 : List Api_Link) (a2 : Names_judge) : Option (Bool) :=
 (loopM (names_all_Link_judge_link_L1 a1 a2) 0).bind fun r11 => match r11 with
 | Sum.inl () =>
  some false
 | Sum.inr () =>
  some true

def names_Member (a1 : Api_Port) (a2 : Int) : Option (Bool) :=
 if (a2 != 0) = true then
  if (a2 == a1.native) = true then
   some true
  else
   (slices_Contains_int a1.tagged a2).bind fun r5 =>
   some r5
 else
  some false

def names_judge_static (a1 : Names_judge) (a2 : Int) (a3 : Api_Static) : Option (Bool) :=
 (names_place_Domain a1.n.domains a3.domain).bind fun r4 =>
 if (!r4) = true then
  some false
 else
  (names_place_Port a1.n.ports a3.port).bind fun r7 =>
  if (!r7) = true then
   some false
  else
   (nth a1.n.ports a3.port).bind fun x10 =>
   (nth a1.n.domains a3.domain).bind fun x12 =>
   if (x10.dev == x12.dev) = true then
    (names_Member x10 x12.vlan).bind fun r15 =>
    some r15
   else
    some false

def names_all_Static_judge_static_L1 (a1 : List Api_Static) (a2 : Names_judge) (v3 : Int) : Option ((Int) ⊕ (Unit ⊕ Unit)) :=
 if (decide (v3 < (a1.length : Int))) = true then
  (nth a1 v3).bind fun x5 =>
  (names_judge_static a2 v3 x5).bind fun r7 =>
  if (!r7) = true then
   some (Sum.inr (Sum.inl ()))
  else
   some (Sum.inl (wr_i64 (v3 + 1)))
 else
  some (Sum.inr (Sum.inr ()))

def names_all_Static_judge_static (a1 : List Api_Static) (a2 : Names_judge) : Option (Bool) :=
 (loopM (names_all_Static_judge_static_L1 a1 a2) 0).bind fun r11 => match r11 with
 | Sum.inl () =>
  some false
 | Sum.inr () =>
  some true

def names_Right_1 (a1 : Int) (a2 : Api_Flood) (a3 : Api_Net) : Option (Bool) :=
 (names_place_Device a3.devices a2.dev).bind fun r4 =>
 if (r4) = true then
  some (decide ((a2.addrs.length : Int) ≤ 16))
 else
  some false

def names_all_Flood_Right_1_L1 (a1 : List Api_Flood) (a2 : Api_Net) (v3 : Int) : Option ((Int) ⊕ (Unit ⊕ Unit)) :=
 if (decide (v3 < (a1.length : Int))) = true then
  (nth a1 v3).bind fun x5 =>
  (names_Right_1 v3 x5 a2).bind fun r7 =>
  if (!r7) = true then
   some (Sum.inr (Sum.inl ()))
  else
   some (Sum.inl (wr_i64 (v3 + 1)))
 else
  some (Sum.inr (Sum.inr ()))

def names_all_Flood_Right_1 (a1 : List Api_Flood) (a2 : Api_Net) : Option (Bool) :=
 (loopM (names_all_Flood_Right_1_L1 a1 a2) 0).bind fun r11 => match r11 with
 | Sum.inl () =>
  some false
 | Sum.inr () =>
  some true

def names_Right_2 (a1 : Int) (a2 : Api_Vrf) (a3 : Api_Net) : Option (Bool) :=
 (names_place_Device a3.devices a2.dev).bind fun r4 =>
 if (r4) = true then
  (names_rising a2.imports 65535).bind fun r7 =>
  if (r7) = true then
   (names_rising a2.exports 65535).bind fun r10 =>
   some r10
  else
   some false
 else
  some false

def names_all_Vrf_Right_2_L1 (a1 : List Api_Vrf) (a2 : Api_Net) (v3 : Int) : Option ((Int) ⊕ (Unit ⊕ Unit)) :=
 if (decide (v3 < (a1.length : Int))) = true then
  (nth a1 v3).bind fun x5 =>
  (names_Right_2 v3 x5 a2).bind fun r7 =>
  if (!r7) = true then
   some (Sum.inr (Sum.inl ()))
  else
   some (Sum.inl (wr_i64 (v3 + 1)))
 else
  some (Sum.inr (Sum.inr ()))

def names_all_Vrf_Right_2 (a1 : List Api_Vrf) (a2 : Api_Net) : Option (Bool) :=
 (loopM (names_all_Vrf_Right_2_L1 a1 a2) 0).bind fun r11 => match r11 with
 | Sum.inl () =>
  some false
 | Sum.inr () =>
  some true

def names_place_Vrf (a1 : List Api_Vrf) (a2 : Int) : Option (Bool) :=
 if (decide (a2 ≥ 0)) = true then
  some (decide (a2 < (a1.length : Int)))
 else
  some false

def names_judge_irb (a1 : Names_judge) (a2 : Int) (a3 : Api_Irb) : Option (Bool) :=
 (names_place_Domain a1.n.domains a3.domain).bind fun r4 =>
 if (r4) = true then
  (names_place_Vrf a1.n.vrfs a3.vrf).bind fun r7 =>
  if (r7) = true then
   (nth a1.n.domains a3.domain).bind fun x10 =>
   (nth a1.n.vrfs a3.vrf).bind fun x12 =>
   if (x10.dev == x12.dev) = true then
    (nth a1.n.domains a3.domain).bind fun x15 =>
    if (x15.irb == a2) = true then
     if (decide (a3.net.bits ≥ 1)) = true then
      some (decide (a3.net.bits ≤ 30))
     else
      some false
    else
     some false
   else
    some false
  else
   some false
 else
  some false

def names_all_Irb_judge_irb_L1 (a1 : List Api_Irb) (a2 : Names_judge) (v3 : Int) : Option ((Int) ⊕ (Unit ⊕ Unit)) :=
 if (decide (v3 < (a1.length : Int))) = true then
  (nth a1 v3).bind fun x5 =>
  (names_judge_irb a2 v3 x5).bind fun r7 =>
  if (!r7) = true then
   some (Sum.inr (Sum.inl ()))
  else
   some (Sum.inl (wr_i64 (v3 + 1)))
 else
  some (Sum.inr (Sum.inr ()))

def names_all_Irb_judge_irb (a1 : List Api_Irb) (a2 : Names_judge) : Option (Bool) :=
 (loopM (names_all_Irb_judge_irb_L1 a1 a2) 0).bind fun r11 => match r11 with
 | Sum.inl () =>
  some false
 | Sum.inr () =>
  some true

def names_Right (a1 : Api_Net) : Option (Bool) :=
 (names_judge_few (⟨a1⟩ : Names_judge)).bind fun r2 =>
 if (r2) = true then
  (names_all_Domain_judge_bare a1.domains (⟨a1⟩ : Names_judge)).bind fun r5 =>
  if (r5) = true then
   (names_all_Domain_judge_peers a1.domains (⟨a1⟩ : Names_judge)).bind fun r8 =>
   if (r8) = true then
    (names_all_Port_judge_port a1.ports (⟨a1⟩ : Names_judge)).bind fun r11 =>
    if (r11) = true then
     (names_all_Link_judge_link a1.links (⟨a1⟩ : Names_judge)).bind fun r14 =>
     if (r14) = true then
      (names_all_Static_judge_static a1.statics (⟨a1⟩ : Names_judge)).bind fun r17 =>
      if (r17) = true then
       (names_all_Flood_Right_1 a1.floods a1).bind fun r20 =>
       if (r20) = true then
        (names_all_Vrf_Right_2 a1.vrfs a1).bind fun r23 =>
        if (r23) = true then
         (names_all_Irb_judge_irb a1.irbs (⟨a1⟩ : Names_judge)).bind fun r26 =>
         some r26
        else
         some false
       else
        some false
      else
       some false
     else
      some false
    else
     some false
   else
    some false
  else
   some false
 else
  some false

def audit_auditor_note_own (a1 : List Api_Device) (a2 : List Api_Port) (a3 : List Api_Link) (a4 : List Api_Domain) (a5 : List Api_Static) (a6 : List Api_Flood) (a7 : List Api_Vrf) (a8 : List Api_Irb) (a9 : List Audit_Note) (a10 : Int) (a11 : Int) (a12 : Int) (a13 : Int) : Option ((Unit)) :=
 if (roomy 32 (a9 ++ [(⟨a10, a11, a12, a13⟩ : Audit_Note)])) = true then
  some ()
 else
  none

def audit_vlans (a1 : Api_Port) : Option (((List Int))) :=
 if (a1.native != 0) = true then
  if (roomy 8 [a1.native]) = true then
   if (roomy 8 ([a1.native] ++ a1.tagged)) = true then
    some ([a1.native] ++ a1.tagged)
   else
    none
  else
   none
 else
  if (roomy 8 a1.tagged) = true then
   some a1.tagged
  else
   none

def links_Other (a1 : Api_Net) (a2 : Int) : Option (Int) :=
 if (decide (a2 < 0)) = true then
  some (-1)
 else
  if (decide (a2 ≥ (a1.ports.length : Int))) = true then
   some (-1)
  else
   (nth a1.ports a2).bind fun x5 =>
   if (decide (x5.link < 0)) = true then
    some (-1)
   else
    (names_Right a1).bind fun r8 =>
    if (!r8) = true then
     some (-1)
    else
     (nth a1.ports a2).bind fun x11 =>
     (nth a1.links x11.link).bind fun x13 =>
     if (x13.a == a2) = true then
      some x13.b
     else
      some x13.a

def links_Cross (a1 : Api_Net) (a2 : Int) (a3 : Int) : Option (Int × Int × Bool) :=
 (links_Other a1 a2).bind fun r4 =>
 if (decide (r4 < 0)) = true then
  some (0, 0, false)
 else
  (nth a1.ports a2).bind fun x7 =>
  (names_Member x7 a3).bind fun r9 =>
  if (!r9) = true then
   some (0, 0, false)
  else
   (nth a1.ports r4).bind fun x12 =>
   (nth a1.ports a2).bind fun x14 =>
   if (a3 == x14.native) = true then
    if (x12.native == 0) = true then
     some (0, 0, false)
    else
     some (r4, x12.native, true)
   else
    (slices_Contains_int x12.tagged a3).bind fun r18 =>
    if (r18) = true then
     if (a3 == 0) = true then
      some (0, 0, false)
     else
      some (r4, a3, true)
    else
     if (0 == 0) = true then
      some (0, 0, false)
     else
      some (r4, 0, true)

def audit_auditor_links_auditor_note_own_L1 (a1 : List Api_Device) (a2 : List Api_Port) (a3 : List Api_Link) (a4 : List Api_Domain) (a5 : List Api_Static) (a6 : List Api_Flood) (a7 : List Api_Vrf) (a8 : List Api_Irb) (l10 : List Audit_Note) (v11 : Int) : Option (((List Audit_Note) × Int) ⊕ ((List Audit_Note))) :=
 if (decide (v11 < (a3.length : Int))) = true then
  (nth a3 v11).bind fun x13 =>
  (nth a2 x13.a).bind fun x15 =>
  (nth a2 x13.b).bind fun x17 =>
  if (x15.native != 0) = true then
   if (x17.native != 0) = true then
    if (x15.native != x17.native) = true then
     (audit_auditor_note_own a1 a2 a3 a4 a5 a6 a7 a8 l10 1 x13.row v11 x15.native).bind fun r22 => match r22 with
     | () =>
      some (Sum.inl (l10 ++ [(⟨1, x13.row, v11, x15.native⟩ : Audit_Note)], wr_i64 (v11 + 1)))
    else
     some (Sum.inl (l10, wr_i64 (v11 + 1)))
   else
    some (Sum.inl (l10, wr_i64 (v11 + 1)))
  else
   some (Sum.inl (l10, wr_i64 (v11 + 1)))
 else
  some (Sum.inr l10)

def audit_auditor_links_auditor_note_own_L3 (a1 : List Api_Device) (a2 : List Api_Port) (a3 : List Api_Link) (a4 : List Api_Domain) (a5 : List Api_Static) (a6 : List Api_Flood) (a7 : List Api_Vrf) (a8 : List Api_Irb) (v30 : Int) (x32 : Api_Port) (l37 : List Int) (l38 : List Audit_Note) (v39 : Int) : Option (((List Audit_Note) × Int) ⊕ ((List Audit_Note))) :=
 if (decide (v39 < ((List.length l37) : Int))) = true then
  if (lin l37 v39) = true then
   (l37[(Int.toNat v39)]?).bind fun x42 =>
   (links_Cross (⟨a1, a2, a3, a4, a5, a6, a7, a8⟩ : Api_Net) v30 x42).bind fun r44 =>
   if (!r44.2.2) = true then
    (nth a3 x32.link).bind fun x47 =>
    (audit_auditor_note_own a1 a2 a3 a4 a5 a6 a7 a8 l38 2 x47.row v30 x42).bind fun r49 => match r49 with
    | () =>
     some (Sum.inl (l38 ++ [(⟨2, x47.row, v30, x42⟩ : Audit_Note)], wr_i64 (v39 + 1)))
   else
    some (Sum.inl (l38, wr_i64 (v39 + 1)))
  else
   none
 else
  some (Sum.inr l38)

def audit_auditor_links_auditor_note_own_L2 (a1 : List Api_Device) (a2 : List Api_Port) (a3 : List Api_Link) (a4 : List Api_Domain) (a5 : List Api_Static) (a6 : List Api_Flood) (a7 : List Api_Vrf) (a8 : List Api_Irb) (l29 : List Audit_Note) (v30 : Int) : Option (((List Audit_Note) × Int) ⊕ ((List Audit_Note))) :=
 if (decide (v30 < (a2.length : Int))) = true then
  (nth a2 v30).bind fun x32 =>
  if (decide (x32.link < 0)) = true then
   some (Sum.inl (l29, wr_i64 (v30 + 1)))
  else
   (audit_vlans x32).bind fun r35 => match r35 with
   | l37 =>
    (loopM (fun s : (List Audit_Note) × Int => match s with | (l38, v39) => audit_auditor_links_auditor_note_own_L3 a1 a2 a3 a4 a5 a6 a7 a8 v30 x32 l37 l38 v39) (l29, 0)).bind fun r58 => match r58 with
    | l56 =>
     some (Sum.inl (l56, wr_i64 (v30 + 1)))
 else
  some (Sum.inr l29)

def audit_auditor_links_auditor_note_own (a1 : List Api_Device) (a2 : List Api_Port) (a3 : List Api_Link) (a4 : List Api_Domain) (a5 : List Api_Static) (a6 : List Api_Flood) (a7 : List Api_Vrf) (a8 : List Api_Irb) (a9 : List Audit_Note) : Option (((List Audit_Note))) :=
 (loopM (fun s : (List Audit_Note) × Int => match s with | (l10, v11) => audit_auditor_links_auditor_note_own_L1 a1 a2 a3 a4 a5 a6 a7 a8 l10 v11) (a9, 0)).bind fun r28 => match r28 with
 | l26 =>
  (loopM (fun s : (List Audit_Note) × Int => match s with | (l29, v30) => audit_auditor_links_auditor_note_own_L2 a1 a2 a3 a4 a5 a6 a7 a8 l29 v30) (l26, 0)).bind fun r61 => match r61 with
  | l59 =>
   some l59

def reach_place (a1 : Api_Net) (a2 : Int) : Option (Bool) :=
 if (decide (a2 ≥ 0)) = true then
  if (decide (a2 < (a1.domains.length : Int))) = true then
   (names_Right a1).bind fun r5 =>
   some r5
  else
   some false
 else
  some false

def math_bits_Mul64 (a1 : Int) (a2 : Int) : Option (Int × Int) :=
 some (wr_u64 ((wr_u64 ((wr_u64 ((Int.fdiv a1 (2 ^ 32)) * (Int.fdiv a2 (2 ^ 32)))) + (Int.fdiv (wr_u64 ((wr_u64 ((Int.fdiv a1 (2 ^ 32)) * (bits_and .u64 a2 4294967295))) + (Int.fdiv (wr_u64 ((bits_and .u64 a1 4294967295) * (bits_and .u64 a2 4294967295))) (2 ^ 32)))) (2 ^ 32)))) + (Int.fdiv (wr_u64 ((bits_and .u64 (wr_u64 ((wr_u64 ((Int.fdiv a1 (2 ^ 32)) * (bits_and .u64 a2 4294967295))) + (Int.fdiv (wr_u64 ((bits_and .u64 a1 4294967295) * (bits_and .u64 a2 4294967295))) (2 ^ 32)))) 4294967295) + (wr_u64 ((bits_and .u64 a1 4294967295) * (Int.fdiv a2 (2 ^ 32)))))) (2 ^ 32))), wr_u64 (a1 * a2))

def math_bits_Mul (a1 : Int) (a2 : Int) : Option (Int × Int) :=
 (math_bits_Mul64 a1 a2).bind fun r3 =>
 some (r3.1, r3.2)

def slices_Repeat_int_L1 (r4 : Int × Int) (l9 : List Int) (v10 : Int) : Option (((List Int) × Int) ⊕ ((List Int))) :=
 if (decide (v10 < ((Int.toNat (wr_i64 r4.2)) : Int))) = true then
  if (slok (List.length l9) v10 ((List.length l9) : Int)) = true then
   if (slok (List.length l9) 0 v10) = true then
    some (Sum.inl (List.take (Int.toNat v10) l9 ++ (List.take (min (List.length (List.drop (Int.toNat 0) (List.take (Int.toNat v10) l9))) ((Int.toNat ((List.length l9) : Int)) - (Int.toNat v10))) (List.drop (Int.toNat 0) (List.take (Int.toNat v10) l9)) ++ List.drop ((Int.toNat v10) + (min (List.length (List.drop (Int.toNat 0) (List.take (Int.toNat v10) l9))) ((Int.toNat ((List.length l9) : Int)) - (Int.toNat v10)))) l9), wr_i64 (v10 + (((min (List.length (List.drop (Int.toNat 0) (List.take (Int.toNat v10) l9))) ((Int.toNat ((List.length l9) : Int)) - (Int.toNat v10))) : Nat) : Int))))
   else
    none
  else
   none
 else
  some (Sum.inr l9)

def slices_Repeat_int (a1 : List Int) (a2 : Int) : Option (((List Int) × Nat)) :=
 if (decide (a2 < 0)) = true then
  none
 else
  (math_bits_Mul (wr_u64 (a1.length : Int)) (wr_u64 a2)).bind fun r4 =>
  if (decide (r4.1 > 0)) = true then
   none
  else
   if (decide (r4.2 > 9223372036854775807)) = true then
    none
   else
    if (mkok 8 (wr_i64 r4.2) (wr_i64 r4.2)) = true then
     (loopM (fun s : (List Int) × Int => match s with | (l9, v10) => slices_Repeat_int_L1 r4 l9 v10) (List.take 0 (List.replicate (Int.toNat (wr_i64 r4.2)) (0 : Int)) ++ (List.take (min (List.length a1) ((List.length (List.replicate (Int.toNat (wr_i64 r4.2)) (0 : Int))) - 0)) a1 ++ List.drop (0 + (min (List.length a1) ((List.length (List.replicate (Int.toNat (wr_i64 r4.2)) (0 : Int))) - 0))) (List.replicate (Int.toNat (wr_i64 r4.2)) (0 : Int))), (((min (List.length a1) ((List.length (List.replicate (Int.toNat (wr_i64 r4.2)) (0 : Int))) - 0)) : Nat) : Int))).bind fun r18 => match r18 with
     | l16 =>
      some (l16, (Int.toNat (wr_i64 r4.2)))
    else
     none

def names_Members_L1 (a1 : Api_Net) (a2 : Int) (l9 : List Int) (v10 : Int) : Option (((List Int) × Int) ⊕ ((List Int))) :=
 if (decide (v10 < (a1.ports.length : Int))) = true then
  (nth a1.ports v10).bind fun x12 =>
  (nth a1.domains a2).bind fun x14 =>
  if (x12.dev == x14.dev) = true then
   (nth a1.domains a2).bind fun x17 =>
   (names_Member x12 x17.vlan).bind fun r19 =>
   if (r19) = true then
    if (roomy 8 (l9 ++ [v10])) = true then
     some (Sum.inl (l9 ++ [v10], wr_i64 (v10 + 1)))
    else
     none
   else
    some (Sum.inl (l9, wr_i64 (v10 + 1)))
  else
   some (Sum.inl (l9, wr_i64 (v10 + 1)))
 else
  some (Sum.inr l9)

def names_Members (a1 : Api_Net) (a2 : Int) : Option (((List Int))) :=
 (names_Right a1).bind fun r3 =>
 if (!r3) = true then
  some []
 else
  (names_place_Domain a1.domains a2).bind fun r6 =>
  if (!r6) = true then
   some []
  else
   (loopM (fun s : (List Int) × Int => match s with | (l9, v10) => names_Members_L1 a1 a2 l9 v10) ([], 0)).bind fun r27 => match r27 with
   | l25 =>
    some l25

def names_Domain_1 (a1 : Api_Domain) (a2 : Int) (a3 : Int) : Option (Bool) :=
 if (a1.dev == a2) = true then
  some (a1.vlan == a3)
 else
  some false

def slices_IndexFunc_Domain_Domain_1_L1 (a1 : List Api_Domain) (a2 : Int) (a3 : Int) (v4 : Int) : Option ((Int) ⊕ (Int ⊕ Unit)) :=
 if (decide (v4 < (a1.length : Int))) = true then
  (nth a1 v4).bind fun x6 =>
  (names_Domain_1 x6 a2 a3).bind fun r8 =>
  if (r8) = true then
   some (Sum.inr (Sum.inl v4))
  else
   some (Sum.inl (wr_i64 (v4 + 1)))
 else
  some (Sum.inr (Sum.inr ()))

def slices_IndexFunc_Domain_Domain_1 (a1 : List Api_Domain) (a2 : Int) (a3 : Int) : Option (Int) :=
 (loopM (slices_IndexFunc_Domain_Domain_1_L1 a1 a2 a3) 0).bind fun r14 => match r14 with
 | Sum.inl v12 =>
  some v12
 | Sum.inr () =>
  some (-1)

def names_find_Domain_Domain_1 (a1 : Api_Net) (a2 : List Api_Domain) (a3 : Int) (a4 : Int) : Option (Int) :=
 (names_Right a1).bind fun r5 =>
 if (!r5) = true then
  some (-1)
 else
  (slices_IndexFunc_Domain_Domain_1 a2 a3 a4).bind fun r8 =>
  some r8

def names_Domain (a1 : Api_Net) (a2 : Int) (a3 : Int) : Option (Int) :=
 (names_find_Domain_Domain_1 a1 a1.domains a2 a3).bind fun r4 =>
 some r4

def links_Domain (a1 : Api_Net) (a2 : Int) (a3 : Int) : Option (Int × Bool) :=
 (links_Cross a1 a2 a3).bind fun r4 =>
 if (!r4.2.2) = true then
  some (0, false)
 else
  (nth a1.ports r4.1).bind fun x7 =>
  (names_Domain a1 x7.dev r4.2.1).bind fun r9 =>
  some (r9, true)

def reach_Hops_L1 (a1 : Api_Net) (a2 : Int) (l8 : List Int) (l9 : List Reach_Hop) (v10 : Int) : Option (((List Reach_Hop) × Int) ⊕ ((List Reach_Hop))) :=
 if (decide (v10 < ((List.length l8) : Int))) = true then
  if (lin l8 v10) = true then
   (l8[(Int.toNat v10)]?).bind fun x13 =>
   (nth a1.domains a2).bind fun x15 =>
   (links_Domain a1 x13 x15.vlan).bind fun r17 =>
   if (r17.2) = true then
    if (roomy 32 (l9 ++ [(⟨1, x13, r17.1, 0⟩ : Reach_Hop)])) = true then
     some (Sum.inl (l9 ++ [(⟨1, x13, r17.1, 0⟩ : Reach_Hop)], wr_i64 (v10 + 1)))
    else
     none
   else
    some (Sum.inl (l9, wr_i64 (v10 + 1)))
  else
   none
 else
  some (Sum.inr l9)

def reach_Hops_L2 (x28 : Api_Domain) (l30 : List Reach_Hop) (v31 : Int) : Option (((List Reach_Hop) × Int) ⊕ ((List Reach_Hop))) :=
 if (decide (v31 < (x28.peers.length : Int))) = true then
  (nth x28.peers v31).bind fun x33 =>
  if (roomy 32 (l30 ++ [(⟨2, 0, x33, 0⟩ : Reach_Hop)])) = true then
   some (Sum.inl (l30 ++ [(⟨2, 0, x33, 0⟩ : Reach_Hop)], wr_i64 (v31 + 1)))
  else
   none
 else
  some (Sum.inr l30)

def reach_Hops (a1 : Api_Net) (a2 : Int) : Option (((List Reach_Hop))) :=
 (reach_place a1 a2).bind fun r3 =>
 if (!r3) = true then
  some []
 else
  (names_Members a1 a2).bind fun r6 => match r6 with
  | l8 =>
   (loopM (fun s : (List Reach_Hop) × Int => match s with | (l9, v10) => reach_Hops_L1 a1 a2 l8 l9 v10) ([], 0)).bind fun r27 => match r27 with
   | l25 =>
    (nth a1.domains a2).bind fun x28 =>
    (loopM (fun s : (List Reach_Hop) × Int => match s with | (l30, v31) => reach_Hops_L2 x28 l30 v31) (l25, 0)).bind fun r40 => match r40 with
    | l38 =>
     some l38

def reach_find_J3 (a1 : Api_Net) (a2 : Int) (a3 : Int) (n7 : Nat) (v20 : Int) (x23 : Int) (l27 : List Reach_Hop) (l28 : List Int) (l29 : List Reach_Hop) (l30 : List Int) (l31 : List Int) (v32 : Int) (x35 : Reach_Hop) : Option (Unit ⊕ Unit) :=
 if (lin l28 a3) = true then
  (l28[(Int.toNat a3)]?).bind fun x38 =>
  if (decide (x38 ≥ 0)) = true then
   if (a3 != a2) = true then
    some (Sum.inl ())
   else
    some (Sum.inr ())
  else
   some (Sum.inr ())
 else
  none

def reach_find_L2 (a1 : Api_Net) (a2 : Int) (a3 : Int) (n7 : Nat) (v20 : Int) (x23 : Int) (l27 : List Reach_Hop) (l28 : List Int) (l29 : List Reach_Hop) (l30 : List Int) (l31 : List Int) (v32 : Int) : Option (((List Int) × (List Reach_Hop) × (List Int) × (List Int) × Int) ⊕ (((List Int) × (List Reach_Hop) × (List Int)) ⊕ ((List Int) × (List Reach_Hop) × (List Int) × (List Int)))) :=
 if (decide (v32 < ((List.length l27) : Int))) = true then
  if (lin l27 v32) = true then
   (l27[(Int.toNat v32)]?).bind fun x35 =>
   (reach_find_J3 a1 a2 a3 n7 v20 x23 l27 l28 l29 l30 l31 v32 x35).bind fun r43 => match r43 with
   | Sum.inl () =>
    some (Sum.inr (Sum.inl (l28, l29, l30)))
   | Sum.inr () =>
    if (lin l28 x35.domain) = true then
     (l28[(Int.toNat x35.domain)]?).bind fun x45 =>
     if (decide (x45 < 0)) = true then
      if (lin l28 x23) = true then
       (l28[(Int.toNat x23)]?).bind fun x49 =>
       (l28[(Int.toNat x35.domain)]?).bind fun x51 =>
       if (lin l29 x35.domain) = true then
        (l29[(Int.toNat x35.domain)]?).bind fun x54 =>
        if (lin l30 x35.domain) = true then
         (l30[(Int.toNat x35.domain)]?).bind fun x57 =>
         if (roomy 8 (l31 ++ [x35.domain])) = true then
          some (Sum.inl (List.set l28 (Int.toNat x35.domain) (wr_i64 (x49 + 1) : Int), List.set l29 (Int.toNat x35.domain) x35, List.set l30 (Int.toNat x35.domain) x23, l31 ++ [x35.domain], wr_i64 (v32 + 1)))
         else
          none
        else
         none
       else
        none
      else
       none
     else
      some (Sum.inl (l28, l29, l30, l31, wr_i64 (v32 + 1)))
    else
     none
  else
   none
 else
  some (Sum.inr (Sum.inr (l28, l29, l30, l31)))

def reach_find_L1 (a1 : Api_Net) (a2 : Int) (a3 : Int) (n7 : Nat) (l16 : List Int) (l17 : List Reach_Hop) (l18 : List Int) (l19 : List Int) (v20 : Int) : Option (((List Int) × (List Reach_Hop) × (List Int) × (List Int) × Int) ⊕ (((List Int) × (List Reach_Hop) × (List Int)))) :=
 if (decide (v20 < ((List.length l19) : Int))) = true then
  if (lin l19 v20) = true then
   (l19[(Int.toNat v20)]?).bind fun x23 =>
   (reach_Hops a1 x23).bind fun r25 => match r25 with
   | l27 =>
    (loopM (fun s : (List Int) × (List Reach_Hop) × (List Int) × (List Int) × Int => match s with | (l28, l29, l30, l31, v32) => reach_find_L2 a1 a2 a3 n7 v20 x23 l27 l28 l29 l30 l31 v32) (l16, l17, l18, l19, 0)).bind fun r102 => match r102 with
    | Sum.inl (l66, l67, l68) =>
     some (Sum.inr (l66, l67, l68))
    | Sum.inr (l97, l98, l99, l100) =>
     some (Sum.inl (l97, l98, l99, l100, wr_i64 (v20 + 1)))
  else
   none
 else
  some (Sum.inr (l16, l17, l18))

def reach_find (a1 : Api_Net) (a2 : Int) (a3 : Int) : Option (((List Int) × (List Reach_Hop) × (List Int) × Nat)) :=
 (slices_Repeat_int [((-1) : Int)] (a1.domains.length : Int)).bind fun r4 => match r4 with
 | (l6, n7) =>
  if (mkok 32 (a1.domains.length : Int) (a1.domains.length : Int)) = true then
   if (mkok 8 (a1.domains.length : Int) (a1.domains.length : Int)) = true then
    if (lin l6 a2) = true then
     (l6[(Int.toNat a2)]?).bind fun x11 =>
     if (lin (List.replicate (Int.toNat (a1.domains.length : Int)) (⟨0, 0, 0, 0⟩ : Reach_Hop)) a2) = true then
      ((List.replicate (Int.toNat (a1.domains.length : Int)) (⟨0, 0, 0, 0⟩ : Reach_Hop))[(Int.toNat a2)]?).bind fun x14 =>
      (loopM (fun s : (List Int) × (List Reach_Hop) × (List Int) × (List Int) × Int => match s with | (l16, l17, l18, l19, v20) => reach_find_L1 a1 a2 a3 n7 l16 l17 l18 l19 v20) (List.set l6 (Int.toNat a2) (0 : Int), List.set (List.replicate (Int.toNat (a1.domains.length : Int)) (⟨0, 0, 0, 0⟩ : Reach_Hop)) (Int.toNat a2) (⟨0, 0, a2, 0⟩ : Reach_Hop), List.replicate (Int.toNat (a1.domains.length : Int)) (0 : Int), [a2], 0)).bind fun r113 => match r113 with
      | (l109, l110, l111) =>
       some (l109, l110, l111, n7)
     else
      none
    else
     none
   else
    none
  else
   none

def reach_Steps (a1 : Api_Net) (a2 : Int) : Option (((List Int) × Nat)) :=
 (reach_place a1 a2).bind fun r3 =>
 if (!r3) = true then
  some ([], 0)
 else
  (reach_find a1 a2 a2).bind fun r6 => match r6 with
  | (l8, l9, l10, n11) =>
   some (l8, n11)

def domains_Hosts_1 (a1 : Int) (a2 : Api_Net) : Option (Bool) :=
 (nth a2.ports a1).bind fun x3 =>
 some (decide (x3.link ≥ 0))

def slices_IndexFunc_int_Hosts_1_L1 (a1 : List Int) (a2 : Api_Net) (v3 : Int) : Option ((Int) ⊕ (Int ⊕ Unit)) :=
 if (decide (v3 < (a1.length : Int))) = true then
  (nth a1 v3).bind fun x5 =>
  (domains_Hosts_1 x5 a2).bind fun r7 =>
  if (r7) = true then
   some (Sum.inr (Sum.inl v3))
  else
   some (Sum.inl (wr_i64 (v3 + 1)))
 else
  some (Sum.inr (Sum.inr ()))

def slices_IndexFunc_int_Hosts_1 (a1 : List Int) (a2 : Api_Net) : Option (Int) :=
 (loopM (slices_IndexFunc_int_Hosts_1_L1 a1 a2) 0).bind fun r13 => match r13 with
 | Sum.inl v11 =>
  some v11
 | Sum.inr () =>
  some (-1)

def slices_DeleteFunc_int_Hosts_1_own_L1 (a1 : List Int) (a2 : Api_Net) (l6 : List Int) (v7 : Int) (v8 : Int) : Option (((List Int) × Int × Int) ⊕ (((List Int) × Int))) :=
 if (decide (v8 < ((List.length a1) : Int))) = true then
  if (lin l6 v8) = true then
   (l6[(Int.toNat v8)]?).bind fun x11 =>
   (domains_Hosts_1 x11 a2).bind fun r13 =>
   if (!r13) = true then
    if (lin l6 v7) = true then
     (l6[(Int.toNat v7)]?).bind fun x17 =>
     some (Sum.inl (List.set l6 (Int.toNat v7) x11, wr_i64 (v7 + 1), wr_i64 (v8 + 1)))
    else
     none
   else
    some (Sum.inl (l6, v7, wr_i64 (v8 + 1)))
  else
   none
 else
  some (Sum.inr (l6, v7))

def slices_DeleteFunc_int_Hosts_1_own (a1 : List Int) (a2 : Api_Net) : Option (((List Int) × (List Int))) :=
 (slices_IndexFunc_int_Hosts_1 a1 a2).bind fun r3 =>
 if (r3 == (-1)) = true then
  some (a1, a1)
 else
  (loopM (fun s : (List Int) × Int × Int => match s with | (l6, v7, v8) => slices_DeleteFunc_int_Hosts_1_own_L1 a1 a2 l6 v7 v8) (a1, r3, wr_i64 (r3 + 1))).bind fun r26 => match r26 with
  | (l23, v24) =>
   if (slok (List.length l23) v24 ((List.length l23) : Int)) = true then
    if (slok (List.length (List.take (Int.toNat v24) l23 ++ (List.replicate ((Int.toNat ((List.length l23) : Int)) - (Int.toNat v24)) (0 : Int) ++ List.drop (Int.toNat ((List.length l23) : Int)) l23))) 0 v24) = true then
     some (List.take (Int.toNat v24) l23 ++ (List.replicate ((Int.toNat ((List.length l23) : Int)) - (Int.toNat v24)) (0 : Int) ++ List.drop (Int.toNat ((List.length l23) : Int)) l23), List.drop (Int.toNat 0) (List.take (Int.toNat v24) (List.take (Int.toNat v24) l23 ++ (List.replicate ((Int.toNat ((List.length l23) : Int)) - (Int.toNat v24)) (0 : Int) ++ List.drop (Int.toNat ((List.length l23) : Int)) l23))))
    else
     none
   else
    none

def domains_Hosts (a1 : Api_Net) (a2 : Int) : Option ((List Int)) :=
 (names_Members a1 a2).bind fun r3 => match r3 with
 | l5 =>
  (slices_DeleteFunc_int_Hosts_1_own l5 a1).bind fun r6 => match r6 with
  | (l8, l9) =>
   some l9

def audit_auditor_silent_L1 (a1 : Audit_auditor) (l5 : List Int) (n6 : Nat) (v7 : Int) : Option ((Int) ⊕ (Unit ⊕ Unit)) :=
 if (decide (v7 < (n6 : Int))) = true then
  if (lin l5 v7) = true then
   (l5[(Int.toNat v7)]?).bind fun x10 =>
   if (decide (x10 ≥ 0)) = true then
    (domains_Hosts a1.n v7).bind fun r13 =>
    if (decide ((r13.length : Int) > 0)) = true then
     some (Sum.inr (Sum.inl ()))
    else
     some (Sum.inl (wr_i64 (v7 + 1)))
   else
    some (Sum.inl (wr_i64 (v7 + 1)))
  else
   none
 else
  some (Sum.inr (Sum.inr ()))

def audit_auditor_silent (a1 : Audit_auditor) (a2 : Int) : Option (Bool) :=
 (reach_Steps a1.n a2).bind fun r3 => match r3 with
 | (l5, n6) =>
  (loopM (audit_auditor_silent_L1 a1 l5 n6) 0).bind fun r17 => match r17 with
  | Sum.inl () =>
   some false
  | Sum.inr () =>
   some true

def audit_auditor_domains_auditor_note_own_L1 (a1 : List Api_Device) (a2 : List Api_Port) (a3 : List Api_Link) (a4 : List Api_Domain) (a5 : List Api_Static) (a6 : List Api_Flood) (a7 : List Api_Vrf) (a8 : List Api_Irb) (l10 : List Audit_Note) (v11 : Int) : Option (((List Audit_Note) × Int) ⊕ ((List Audit_Note))) :=
 if (decide (v11 < (a4.length : Int))) = true then
  (nth a4 v11).bind fun x13 =>
  if (x13.vni != 0) = true then
   if ((x13.peers.length : Int) == 0) = true then
    (audit_auditor_note_own a1 a2 a3 a4 a5 a6 a7 a8 l10 3 x13.row v11 x13.vni).bind fun r17 => match r17 with
    | () =>
     some (Sum.inl (l10 ++ [(⟨3, x13.row, v11, x13.vni⟩ : Audit_Note)], wr_i64 (v11 + 1)))
   else
    some (Sum.inl (l10, wr_i64 (v11 + 1)))
  else
   some (Sum.inl (l10, wr_i64 (v11 + 1)))
 else
  some (Sum.inr l10)

def audit_auditor_domains_auditor_note_own_L2 (a1 : List Api_Device) (a2 : List Api_Port) (a3 : List Api_Link) (a4 : List Api_Domain) (a5 : List Api_Static) (a6 : List Api_Flood) (a7 : List Api_Vrf) (a8 : List Api_Irb) (l24 : List Audit_Note) (v25 : Int) : Option (((List Audit_Note) × Int) ⊕ ((List Audit_Note))) :=
 if (decide (v25 < (a4.length : Int))) = true then
  (nth a4 v25).bind fun x27 =>
  (audit_auditor_silent (⟨(⟨a1, a2, a3, a4, a5, a6, a7, a8⟩ : Api_Net), l24⟩ : Audit_auditor) v25).bind fun r29 =>
  if (r29) = true then
   (audit_auditor_note_own a1 a2 a3 a4 a5 a6 a7 a8 l24 4 0 v25 x27.vlan).bind fun r32 => match r32 with
   | () =>
    some (Sum.inl (l24 ++ [(⟨4, 0, v25, x27.vlan⟩ : Audit_Note)], wr_i64 (v25 + 1)))
  else
   some (Sum.inl (l24, wr_i64 (v25 + 1)))
 else
  some (Sum.inr l24)

def audit_auditor_domains_auditor_note_own (a1 : List Api_Device) (a2 : List Api_Port) (a3 : List Api_Link) (a4 : List Api_Domain) (a5 : List Api_Static) (a6 : List Api_Flood) (a7 : List Api_Vrf) (a8 : List Api_Irb) (a9 : List Audit_Note) : Option (((List Audit_Note))) :=
 (loopM (fun s : (List Audit_Note) × Int => match s with | (l10, v11) => audit_auditor_domains_auditor_note_own_L1 a1 a2 a3 a4 a5 a6 a7 a8 l10 v11) (a9, 0)).bind fun r23 => match r23 with
 | l21 =>
  (loopM (fun s : (List Audit_Note) × Int => match s with | (l24, v25) => audit_auditor_domains_auditor_note_own_L2 a1 a2 a3 a4 a5 a6 a7 a8 l24 v25) (l21, 0)).bind fun r36 => match r36 with
  | l34 =>
   some l34

def audit_auditor_used_L1 (a1 : Audit_auditor) (a2 : Int) (v3 : Int) : Option ((Int) ⊕ (Unit ⊕ Unit)) :=
 if (decide (v3 < (a1.n.irbs.length : Int))) = true then
  (nth a1.n.irbs v3).bind fun x5 =>
  if (x5.vrf == a2) = true then
   some (Sum.inr (Sum.inl ()))
  else
   some (Sum.inl (wr_i64 (v3 + 1)))
 else
  some (Sum.inr (Sum.inr ()))

def audit_auditor_used (a1 : Audit_auditor) (a2 : Int) : Option (Bool) :=
 (loopM (audit_auditor_used_L1 a1 a2) 0).bind fun r9 => match r9 with
 | Sum.inl () =>
  some true
 | Sum.inr () =>
  some false

def audit_auditor_records_auditor_note_own_L1 (a1 : List Api_Device) (a2 : List Api_Port) (a3 : List Api_Link) (a4 : List Api_Domain) (a5 : List Api_Static) (a6 : List Api_Flood) (a7 : List Api_Vrf) (a8 : List Api_Irb) (l10 : List Audit_Note) (v11 : Int) : Option (((List Audit_Note) × Int) ⊕ ((List Audit_Note))) :=
 if (decide (v11 < (a7.length : Int))) = true then
  (nth a7 v11).bind fun x13 =>
  (audit_auditor_used (⟨(⟨a1, a2, a3, a4, a5, a6, a7, a8⟩ : Api_Net), l10⟩ : Audit_auditor) v11).bind fun r15 =>
  if (!r15) = true then
   (audit_auditor_note_own a1 a2 a3 a4 a5 a6 a7 a8 l10 5 x13.row v11 x13.dev).bind fun r18 => match r18 with
   | () =>
    some (Sum.inl (l10 ++ [(⟨5, x13.row, v11, x13.dev⟩ : Audit_Note)], wr_i64 (v11 + 1)))
  else
   some (Sum.inl (l10, wr_i64 (v11 + 1)))
 else
  some (Sum.inr l10)

def audit_auditor_records_auditor_note_own_L2 (a1 : List Api_Device) (a2 : List Api_Port) (a3 : List Api_Link) (a4 : List Api_Domain) (a5 : List Api_Static) (a6 : List Api_Flood) (a7 : List Api_Vrf) (a8 : List Api_Irb) (l25 : List Audit_Note) (v26 : Int) : Option (((List Audit_Note) × Int) ⊕ ((List Audit_Note))) :=
 if (decide (v26 < (a5.length : Int))) = true then
  (nth a5 v26).bind fun x28 =>
  (nth a2 x28.port).bind fun x30 =>
  if (decide (x30.link ≥ 0)) = true then
   (audit_auditor_note_own a1 a2 a3 a4 a5 a6 a7 a8 l25 6 x28.row v26 x28.port).bind fun r33 => match r33 with
   | () =>
    some (Sum.inl (l25 ++ [(⟨6, x28.row, v26, x28.port⟩ : Audit_Note)], wr_i64 (v26 + 1)))
  else
   some (Sum.inl (l25, wr_i64 (v26 + 1)))
 else
  some (Sum.inr l25)

def audit_auditor_records_auditor_note_own_L4 (a1 : List Api_Device) (a2 : List Api_Port) (a3 : List Api_Link) (a4 : List Api_Domain) (a5 : List Api_Static) (a6 : List Api_Flood) (a7 : List Api_Vrf) (a8 : List Api_Irb) (l40 : List Audit_Note) (v41 : Int) (x43 : Api_Device) (v45 : Bool) (v46 : Int) : Option ((Bool × Int) ⊕ (Bool)) :=
 if (decide (v46 < (a2.length : Int))) = true then
  (nth a2 v46).bind fun x48 =>
  if (v45) = true then
   some (Sum.inl (x48.dev != v41, wr_i64 (v46 + 1)))
  else
   some (Sum.inl (false, wr_i64 (v46 + 1)))
 else
  some (Sum.inr v45)

def audit_auditor_records_auditor_note_own_L3 (a1 : List Api_Device) (a2 : List Api_Port) (a3 : List Api_Link) (a4 : List Api_Domain) (a5 : List Api_Static) (a6 : List Api_Flood) (a7 : List Api_Vrf) (a8 : List Api_Irb) (l40 : List Audit_Note) (v41 : Int) : Option (((List Audit_Note) × Int) ⊕ ((List Audit_Note))) :=
 if (decide (v41 < (a1.length : Int))) = true then
  (nth a1 v41).bind fun x43 =>
  (loopM (fun s : Bool × Int => match s with | (v45, v46) => audit_auditor_records_auditor_note_own_L4 a1 a2 a3 a4 a5 a6 a7 a8 l40 v41 x43 v45 v46) (true, 0)).bind fun r54 => match r54 with
  | v52 =>
   if (v52) = true then
    (audit_auditor_note_own a1 a2 a3 a4 a5 a6 a7 a8 l40 7 x43.row v41 0).bind fun r56 => match r56 with
    | () =>
     some (Sum.inl (l40 ++ [(⟨7, x43.row, v41, 0⟩ : Audit_Note)], wr_i64 (v41 + 1)))
   else
    some (Sum.inl (l40, wr_i64 (v41 + 1)))
 else
  some (Sum.inr l40)

def audit_auditor_records_auditor_note_own (a1 : List Api_Device) (a2 : List Api_Port) (a3 : List Api_Link) (a4 : List Api_Domain) (a5 : List Api_Static) (a6 : List Api_Flood) (a7 : List Api_Vrf) (a8 : List Api_Irb) (a9 : List Audit_Note) : Option (((List Audit_Note))) :=
 (loopM (fun s : (List Audit_Note) × Int => match s with | (l10, v11) => audit_auditor_records_auditor_note_own_L1 a1 a2 a3 a4 a5 a6 a7 a8 l10 v11) (a9, 0)).bind fun r24 => match r24 with
 | l22 =>
  (loopM (fun s : (List Audit_Note) × Int => match s with | (l25, v26) => audit_auditor_records_auditor_note_own_L2 a1 a2 a3 a4 a5 a6 a7 a8 l25 v26) (l22, 0)).bind fun r39 => match r39 with
  | l37 =>
   (loopM (fun s : (List Audit_Note) × Int => match s with | (l40, v41) => audit_auditor_records_auditor_note_own_L3 a1 a2 a3 a4 a5 a6 a7 a8 l40 v41) (l37, 0)).bind fun r60 => match r60 with
   | l58 =>
    some l58

def addr_Right (a1 : Api_Prefix) : Option (Bool) :=
 if (decide (a1.bits ≥ 0)) = true then
  some (decide (a1.bits ≤ 32))
 else
  some false

def addr_rest (a1 : Api_Prefix) : Option (Int) :=
 if (decide (0 ≤ (wr_i64 (32 - a1.bits)))) = true then
  some (wr_u32 ((wr_u32 (1 * 2 ^ (min (Int.toNat (wr_i64 (32 - a1.bits))) 32))) - 1))
 else
  none

def addr_First (a1 : Api_Prefix) : Option (Int) :=
 (addr_Right a1).bind fun r2 =>
 if (!r2) = true then
  some 0
 else
  (addr_rest a1).bind fun r5 =>
  some (bits_andNot .u32 a1.addr r5)

def addr_Last (a1 : Api_Prefix) : Option (Int) :=
 (addr_Right a1).bind fun r2 =>
 if (!r2) = true then
  some 0
 else
  (addr_rest a1).bind fun r5 =>
  some (bits_or .u32 a1.addr r5)

def route_device (a1 : Api_Net) (a2 : Int) : Option (Int) :=
 (nth a1.irbs a2).bind fun x3 =>
 (nth a1.domains x3.domain).bind fun x5 =>
 some x5.dev

def addr_Has (a1 : Api_Prefix) (a2 : Int) : Option (Bool) :=
 (addr_Right a1).bind fun r3 =>
 if (r3) = true then
  (addr_rest a1).bind fun r6 =>
  some ((bits_andNot .u32 (bits_xor .u32 a1.addr a2) r6) == 0)
 else
  some false

def vrfs_Leaks_1 (a1 : Int) (a2 : Api_Vrf) : Option (Bool) :=
 (slices_Contains_int a2.imports a1).bind fun r3 =>
 some r3

def slices_IndexFunc_int_Leaks_1_L1 (a1 : List Int) (a2 : Api_Vrf) (v3 : Int) : Option ((Int) ⊕ (Int ⊕ Unit)) :=
 if (decide (v3 < (a1.length : Int))) = true then
  (nth a1 v3).bind fun x5 =>
  (vrfs_Leaks_1 x5 a2).bind fun r7 =>
  if (r7) = true then
   some (Sum.inr (Sum.inl v3))
  else
   some (Sum.inl (wr_i64 (v3 + 1)))
 else
  some (Sum.inr (Sum.inr ()))

def slices_IndexFunc_int_Leaks_1 (a1 : List Int) (a2 : Api_Vrf) : Option (Int) :=
 (loopM (slices_IndexFunc_int_Leaks_1_L1 a1 a2) 0).bind fun r13 => match r13 with
 | Sum.inl v11 =>
  some v11
 | Sum.inr () =>
  some (-1)

def slices_ContainsFunc_int_Leaks_1 (a1 : List Int) (a2 : Api_Vrf) : Option (Bool) :=
 (slices_IndexFunc_int_Leaks_1 a1 a2).bind fun r3 =>
 some (decide (r3 ≥ 0))

def vrfs_Leaks (a1 : Api_Net) (a2 : Int) (a3 : Int) : Option (Bool) :=
 if (decide (a2 < 0)) = true then
  some false
 else
  if (decide (a3 < 0)) = true then
   some false
  else
   if (decide (a2 ≥ (a1.vrfs.length : Int))) = true then
    some false
   else
    if (decide (a3 ≥ (a1.vrfs.length : Int))) = true then
     some false
    else
     (names_Right a1).bind fun r8 =>
     if (!r8) = true then
      some false
     else
      (nth a1.vrfs a2).bind fun x11 =>
      (nth a1.vrfs a3).bind fun x13 =>
      if (a2 == a3) = true then
       some true
      else
       if (x11.dev == x13.dev) = true then
        (slices_ContainsFunc_int_Leaks_1 x11.exports x13).bind fun r17 =>
        some r17
       else
        some false

def route_sees (a1 : Api_Net) (a2 : Int) (a3 : Int) : Option (Bool) :=
 (route_device a1 a2).bind fun r4 =>
 (route_device a1 a3).bind fun r6 =>
 if (r4 == r6) = true then
  (nth a1.irbs a3).bind fun x9 =>
  (nth a1.irbs a2).bind fun x11 =>
  (vrfs_Leaks a1 x9.vrf x11.vrf).bind fun r13 =>
  some r13
 else
  some false

def route_lookup_1 (a1 : Int) (a2 : Api_Net) (a3 : Int) : Option (Int) :=
 (nth a2.irbs a1).bind fun x4 =>
 (nth a2.irbs a3).bind fun x6 =>
 if (x4.vrf == x6.vrf) = true then
  some 1
 else
  some 0

def route_lookup_2 (a1 : Int) (a2 : Int) (a3 : Api_Net) (a4 : Api_Net) (a5 : Int) : Option (Int) :=
 (nth a3.irbs a1).bind fun x6 =>
 (nth a3.irbs a2).bind fun x8 =>
 if (x6.net.bits != x8.net.bits) = true then
  some (wr_i64 (x6.net.bits - x8.net.bits))
 else
  (route_lookup_1 a1 a4 a5).bind fun r11 =>
  (route_lookup_1 a2 a4 a5).bind fun r13 =>
  some (wr_i64 (r11 - r13))

def slices_MaxFunc_int_lookup_2_L1 (a1 : List Int) (a2 : Api_Net) (a3 : Api_Net) (a4 : Int) (v8 : Int) (v9 : Int) : Option ((Int × Int) ⊕ (Int)) :=
 if (decide (v9 < (a1.length : Int))) = true then
  (nth a1 v9).bind fun x11 =>
  (route_lookup_2 x11 v8 a2 a3 a4).bind fun r13 =>
  if (decide (r13 > 0)) = true then
   (nth a1 v9).bind fun x16 =>
   some (Sum.inl (x16, wr_i64 (v9 + 1)))
  else
   some (Sum.inl (v8, wr_i64 (v9 + 1)))
 else
  some (Sum.inr v8)

def slices_MaxFunc_int_lookup_2 (a1 : List Int) (a2 : Api_Net) (a3 : Api_Net) (a4 : Int) : Option (Int) :=
 if (decide ((a1.length : Int) < 1)) = true then
  none
 else
  (nth a1 0).bind fun x6 =>
  (loopM (fun s : Int × Int => match s with | (v8, v9) => slices_MaxFunc_int_lookup_2_L1 a1 a2 a3 a4 v8 v9) (x6, 1)).bind fun r21 => match r21 with
  | v19 =>
   some v19

def route_lookup_J2 (a1 : Api_Net) (a2 : Int) (a3 : Int) (l4 : List Int) (v5 : Int) (x7 : Api_Irb) : Option (Unit ⊕ Unit) :=
 (route_device a1 v5).bind fun r9 =>
 (route_device a1 a2).bind fun r11 =>
 if (r9 == r11) = true then
  if (x7.net.addr == a3) = true then
   some (Sum.inl ())
  else
   some (Sum.inr ())
 else
  some (Sum.inr ())

def route_lookup_L1 (a1 : Api_Net) (a2 : Int) (a3 : Int) (l4 : List Int) (v5 : Int) : Option (((List Int) × Int) ⊕ (Unit ⊕ (List Int))) :=
 if (decide (v5 < (a1.irbs.length : Int))) = true then
  (nth a1.irbs v5).bind fun x7 =>
  (route_lookup_J2 a1 a2 a3 l4 v5 x7).bind fun r16 => match r16 with
  | Sum.inl () =>
   some (Sum.inr (Sum.inl ()))
  | Sum.inr () =>
   (addr_Has x7.net a3).bind fun r17 =>
   if (r17) = true then
    (route_sees a1 a2 v5).bind fun r20 =>
    if (r20) = true then
     if (roomy 8 (l4 ++ [v5])) = true then
      some (Sum.inl (l4 ++ [v5], wr_i64 (v5 + 1)))
     else
      none
    else
     some (Sum.inl (l4, wr_i64 (v5 + 1)))
   else
    some (Sum.inl (l4, wr_i64 (v5 + 1)))
 else
  some (Sum.inr (Sum.inr l4))

def route_lookup (a1 : Api_Net) (a2 : Int) (a3 : Int) : Option (Int × Bool) :=
 (loopM (fun s : (List Int) × Int => match s with | (l4, v5) => route_lookup_L1 a1 a2 a3 l4 v5) ([], 0)).bind fun r31 => match r31 with
 | Sum.inl () =>
  some (0, false)
 | Sum.inr l29 =>
  if (((List.length l29) : Int) == 0) = true then
   some (0, false)
  else
   (slices_MaxFunc_int_lookup_2 l29 a1 a1 a2).bind fun r33 =>
   some (r33, true)

def route_Lookup (a1 : Api_Net) (a2 : Int) (a3 : Int) : Option (Int × Bool) :=
 if (decide (a2 < 0)) = true then
  some (0, false)
 else
  if (decide (a2 ≥ (a1.irbs.length : Int))) = true then
   some (0, false)
  else
   (names_Right a1).bind fun r6 =>
   if (!r6) = true then
    some (0, false)
   else
    (route_lookup a1 a2 a3).bind fun r9 =>
    some (r9.1, r9.2)

def choose_Address_1 (a1 : Api_Irb) (a2 : Int) : Option (Bool) :=
 some (a1.net.addr == a2)

def slices_IndexFunc_Irb_Address_1_L1 (a1 : List Api_Irb) (a2 : Int) (v3 : Int) : Option ((Int) ⊕ (Int ⊕ Unit)) :=
 if (decide (v3 < (a1.length : Int))) = true then
  (nth a1 v3).bind fun x5 =>
  (choose_Address_1 x5 a2).bind fun r7 =>
  if (r7) = true then
   some (Sum.inr (Sum.inl v3))
  else
   some (Sum.inl (wr_i64 (v3 + 1)))
 else
  some (Sum.inr (Sum.inr ()))

def slices_IndexFunc_Irb_Address_1 (a1 : List Api_Irb) (a2 : Int) : Option (Int) :=
 (loopM (slices_IndexFunc_Irb_Address_1_L1 a1 a2) 0).bind fun r13 => match r13 with
 | Sum.inl v11 =>
  some v11
 | Sum.inr () =>
  some (-1)

def slices_ContainsFunc_Irb_Address_1 (a1 : List Api_Irb) (a2 : Int) : Option (Bool) :=
 (slices_IndexFunc_Irb_Address_1 a1 a2).bind fun r3 =>
 some (decide (r3 ≥ 0))

def choose_past_1 (a1 : Api_Irb) (a2 : Int) : Option (Bool) :=
 some (a1.net.addr == a2)

def slices_IndexFunc_Irb_past_1_L1 (a1 : List Api_Irb) (a2 : Int) (v3 : Int) : Option ((Int) ⊕ (Int ⊕ Unit)) :=
 if (decide (v3 < (a1.length : Int))) = true then
  (nth a1 v3).bind fun x5 =>
  (choose_past_1 x5 a2).bind fun r7 =>
  if (r7) = true then
   some (Sum.inr (Sum.inl v3))
  else
   some (Sum.inl (wr_i64 (v3 + 1)))
 else
  some (Sum.inr (Sum.inr ()))

def slices_IndexFunc_Irb_past_1 (a1 : List Api_Irb) (a2 : Int) : Option (Int) :=
 (loopM (slices_IndexFunc_Irb_past_1_L1 a1 a2) 0).bind fun r13 => match r13 with
 | Sum.inl v11 =>
  some v11
 | Sum.inr () =>
  some (-1)

def slices_ContainsFunc_Irb_past_1 (a1 : List Api_Irb) (a2 : Int) : Option (Bool) :=
 (slices_IndexFunc_Irb_past_1 a1 a2).bind fun r3 =>
 some (decide (r3 ≥ 0))

def choose_past (a1 : Api_Net) (a2 : Int) (a3 : Int) : Option (Int) :=
 (slices_ContainsFunc_Irb_past_1 a1.irbs a2).bind fun r4 =>
 if (r4) = true then
  some (wr_i64 ((wr_i64 a2) + 1))
 else
  (nth a1.irbs a3).bind fun x7 =>
  (addr_Last x7.net).bind fun r9 =>
  some (wr_i64 ((wr_i64 r9) + 1))

def choose_Address_L1 (a1 : Api_Net) (a2 : Int) (a3 : Int) (r15 : Int) (v17 : Int) : Option ((Int) ⊕ (Int ⊕ Unit)) :=
 if (decide (v17 ≤ (wr_i64 r15))) = true then
  (route_Lookup a1 a2 (wr_u32 v17)).bind fun r19 =>
  (slices_ContainsFunc_Irb_Address_1 a1.irbs (wr_u32 v17)).bind fun r21 =>
  if (r19.2) = true then
   if (r19.1 == a3) = true then
    if (!r21) = true then
     some (Sum.inr (Sum.inl (wr_u32 v17)))
    else
     if (!r19.2) = true then
      (choose_past a1 (wr_u32 v17) r19.1).bind fun r27 =>
      some (Sum.inl r27)
     else
      (choose_past a1 (wr_u32 v17) r19.1).bind fun r29 =>
      some (Sum.inl r29)
   else
    if (!r19.2) = true then
     if (!r21) = true then
      some (Sum.inr (Sum.inr ()))
     else
      (choose_past a1 (wr_u32 v17) r19.1).bind fun r33 =>
      some (Sum.inl r33)
    else
     (choose_past a1 (wr_u32 v17) r19.1).bind fun r35 =>
     some (Sum.inl r35)
  else
   if (!r19.2) = true then
    if (!r21) = true then
     some (Sum.inr (Sum.inr ()))
    else
     (choose_past a1 (wr_u32 v17) r19.1).bind fun r39 =>
     some (Sum.inl r39)
   else
    (choose_past a1 (wr_u32 v17) r19.1).bind fun r41 =>
    some (Sum.inl r41)
 else
  some (Sum.inr (Sum.inr ()))

def choose_Address (a1 : Api_Net) (a2 : Int) (a3 : Int) : Option (Int × Bool) :=
 if (decide (a2 < 0)) = true then
  some (0, false)
 else
  if (decide (a3 < 0)) = true then
   some (0, false)
  else
   if (decide (a2 ≥ (a1.irbs.length : Int))) = true then
    some (0, false)
   else
    if (decide (a3 ≥ (a1.irbs.length : Int))) = true then
     some (0, false)
    else
     (names_Right a1).bind fun r8 =>
     if (!r8) = true then
      some (0, false)
     else
      (nth a1.irbs a3).bind fun x11 =>
      (addr_First x11.net).bind fun r13 =>
      (addr_Last x11.net).bind fun r15 =>
      (loopM (choose_Address_L1 a1 a2 a3 r15) (wr_i64 r13)).bind fun r46 => match r46 with
      | Sum.inl v44 =>
       some (v44, true)
      | Sum.inr () =>
       some (0, false)

def audit_auditor_edges_auditor_note_own_L2 (a1 : List Api_Device) (a2 : List Api_Port) (a3 : List Api_Link) (a4 : List Api_Domain) (a5 : List Api_Static) (a6 : List Api_Flood) (a7 : List Api_Vrf) (a8 : List Api_Irb) (v11 : Int) (x13 : Api_Irb) (l15 : List Audit_Note) (v16 : Int) : Option (((List Audit_Note) × Int) ⊕ ((List Audit_Note))) :=
 if (decide (v16 < (a8.length : Int))) = true then
  (nth a8 v16).bind fun x18 =>
  if (x13.vrf == x18.vrf) = true then
   some (Sum.inl (l15, wr_i64 (v16 + 1)))
  else
   (choose_Address (⟨a1, a2, a3, a4, a5, a6, a7, a8⟩ : Api_Net) v11 v16).bind fun r21 =>
   if (r21.2) = true then
    (audit_auditor_note_own a1 a2 a3 a4 a5 a6 a7 a8 l15 8 x13.row v11 v16).bind fun r24 => match r24 with
    | () =>
     some (Sum.inl (l15 ++ [(⟨8, x13.row, v11, v16⟩ : Audit_Note)], wr_i64 (v16 + 1)))
   else
    some (Sum.inl (l15, wr_i64 (v16 + 1)))
 else
  some (Sum.inr l15)

def audit_auditor_edges_auditor_note_own_L1 (a1 : List Api_Device) (a2 : List Api_Port) (a3 : List Api_Link) (a4 : List Api_Domain) (a5 : List Api_Static) (a6 : List Api_Flood) (a7 : List Api_Vrf) (a8 : List Api_Irb) (l10 : List Audit_Note) (v11 : Int) : Option (((List Audit_Note) × Int) ⊕ ((List Audit_Note))) :=
 if (decide (v11 < (a8.length : Int))) = true then
  (nth a8 v11).bind fun x13 =>
  (loopM (fun s : (List Audit_Note) × Int => match s with | (l15, v16) => audit_auditor_edges_auditor_note_own_L2 a1 a2 a3 a4 a5 a6 a7 a8 v11 x13 l15 v16) (l10, 0)).bind fun r33 => match r33 with
  | l31 =>
   some (Sum.inl (l31, wr_i64 (v11 + 1)))
 else
  some (Sum.inr l10)

def audit_auditor_edges_auditor_note_own_L3 (a1 : List Api_Device) (a2 : List Api_Port) (a3 : List Api_Link) (a4 : List Api_Domain) (a5 : List Api_Static) (a6 : List Api_Flood) (a7 : List Api_Vrf) (a8 : List Api_Irb) (l39 : List Audit_Note) (v40 : Int) : Option (((List Audit_Note) × Int) ⊕ ((List Audit_Note))) :=
 if (decide (v40 < (a2.length : Int))) = true then
  (nth a2 v40).bind fun x42 =>
  (audit_vlans x42).bind fun r44 => match r44 with
  | l46 =>
   if (decide (x42.link < 0)) = true then
    if (decide (((List.length l46) : Int) > 1)) = true then
     (audit_auditor_note_own a1 a2 a3 a4 a5 a6 a7 a8 l39 9 x42.row v40 ((List.length l46) : Int)).bind fun r49 => match r49 with
     | () =>
      some (Sum.inl (l39 ++ [(⟨9, x42.row, v40, ((List.length l46) : Int)⟩ : Audit_Note)], wr_i64 (v40 + 1)))
    else
     some (Sum.inl (l39, wr_i64 (v40 + 1)))
   else
    some (Sum.inl (l39, wr_i64 (v40 + 1)))
 else
  some (Sum.inr l39)

def audit_auditor_edges_auditor_note_own (a1 : List Api_Device) (a2 : List Api_Port) (a3 : List Api_Link) (a4 : List Api_Domain) (a5 : List Api_Static) (a6 : List Api_Flood) (a7 : List Api_Vrf) (a8 : List Api_Irb) (a9 : List Audit_Note) : Option (((List Audit_Note))) :=
 (loopM (fun s : (List Audit_Note) × Int => match s with | (l10, v11) => audit_auditor_edges_auditor_note_own_L1 a1 a2 a3 a4 a5 a6 a7 a8 l10 v11) (a9, 0)).bind fun r38 => match r38 with
 | l36 =>
  (loopM (fun s : (List Audit_Note) × Int => match s with | (l39, v40) => audit_auditor_edges_auditor_note_own_L3 a1 a2 a3 a4 a5 a6 a7 a8 l39 v40) (l36, 0)).bind fun r53 => match r53 with
  | l51 =>
   some l51

def audit_All (a1 : Api_Net) : Option (((List Audit_Note) × Int)) :=
 (names_Right a1).bind fun r2 =>
 if (!r2) = true then
  some ([], 2)
 else
  (audit_auditor_links_auditor_note_own a1.devices a1.ports a1.links a1.domains a1.statics a1.floods a1.vrfs a1.irbs []).bind fun r5 => match r5 with
  | l7 =>
   (audit_auditor_domains_auditor_note_own a1.devices a1.ports a1.links a1.domains a1.statics a1.floods a1.vrfs a1.irbs l7).bind fun r8 => match r8 with
   | l10 =>
    (audit_auditor_records_auditor_note_own a1.devices a1.ports a1.links a1.domains a1.statics a1.floods a1.vrfs a1.irbs l10).bind fun r11 => match r11 with
    | l13 =>
     (audit_auditor_edges_auditor_note_own a1.devices a1.ports a1.links a1.domains a1.statics a1.floods a1.vrfs a1.irbs l13).bind fun r14 => match r14 with
     | l16 =>
      some (l16, 0)

def num_Text_J1 (a1 : Int) : Option (Int) :=
 if (decide (a1 < 0)) = true then
  some (wr_u64 (0 - (wr_u64 a1)))
 else
  some (wr_u64 a1)

def num_Text_L2 (a1 : Int) (l7 : List Int) (v8 : Int) (v9 : Bool) : Option (((List Int) × Int × Bool) ⊕ ((List Int))) :=
 if (v9) = true then
  if (roomy 1 (l7 ++ [(wr_u8 (wr_u64 (48 + (Int.tmod v8 10))) : Int)])) = true then
   some (Sum.inl (l7 ++ [(wr_u8 (wr_u64 (48 + (Int.tmod v8 10))) : Int)], wr_u64 (Int.tdiv v8 10), decide ((wr_u64 (Int.tdiv v8 10)) > 0)))
  else
   none
 else
  some (Sum.inr l7)

def num_Text_J3 (a1 : Int) (l15 : List Int) : Option ((List Int)) :=
 if (decide (a1 < 0)) = true then
  if (roomy 1 (l15 ++ [(45 : Int)])) = true then
   some (l15 ++ [(45 : Int)])
  else
   none
 else
  some l15

def num_Text_L4 (l22 : List Int) (l25 : List Int) (v26 : Int) (v27 : Int) : Option (((List Int) × Int × Int) ⊕ ((List Int))) :=
 if (decide (v26 < v27)) = true then
  if (lin l25 v27) = true then
   (l25[(Int.toNat v27)]?).bind fun x30 =>
   if (lin l25 v26) = true then
    (l25[(Int.toNat v26)]?).bind fun x33 =>
    (l25[(Int.toNat v26)]?).bind fun x35 =>
    if (lin (List.set l25 (Int.toNat v26) x30) v27) = true then
     ((List.set l25 (Int.toNat v26) x30)[(Int.toNat v27)]?).bind fun x38 =>
     some (Sum.inl (List.set (List.set l25 (Int.toNat v26) x30) (Int.toNat v27) x33, wr_i64 (v26 + 1), wr_i64 (v27 - 1)))
    else
     none
   else
    none
  else
   none
 else
  some (Sum.inr l25)

def num_Text (a1 : Int) : Option (ByteArray) :=
 (num_Text_J1 a1).bind fun r6 => match r6 with
 | v4 =>
  (loopM (fun s : (List Int) × Int × Bool => match s with | (l7, v8, v9) => num_Text_L2 a1 l7 v8 v9) ([], v4, true)).bind fun r17 => match r17 with
  | l15 =>
   (num_Text_J3 a1 l15).bind fun r24 => match r24 with
   | l22 =>
    (loopM (fun s : (List Int) × Int × Int => match s with | (l25, v26, v27) => num_Text_L4 l22 l25 v26 v27) (l22, 0, wr_i64 (((List.length l22) : Int) - 1))).bind fun r44 => match r44 with
    | l42 =>
     some (bstr l42)

def explain_Port (a1 : Api_Net) (a2 : Int) : Option (ByteArray) :=
 if (decide (a2 < 0)) = true then
  some (⟨#[]⟩ : ByteArray)
 else
  if (decide (a2 ≥ (a1.ports.length : Int))) = true then
   some (⟨#[]⟩ : ByteArray)
  else
   (names_Right a1).bind fun r5 =>
   if (!r5) = true then
    some (⟨#[]⟩ : ByteArray)
   else
    (nth a1.ports a2).bind fun x8 =>
    (nth a1.devices x8.dev).bind fun x10 =>
    if (sadok x10.name (⟨#[46]⟩ : ByteArray)) = true then
     if (sadok (x10.name ++ (⟨#[46]⟩ : ByteArray)) x8.name) = true then
      some ((x10.name ++ (⟨#[46]⟩ : ByteArray)) ++ x8.name)
     else
      none
    else
     none

def strings_Join (a1 : List ByteArray) (a2 : ByteArray) : Option (ByteArray) :=
 if joinok a1 a2 = true then some (joinTx a1 a2) else none

def domains_joined (a1 : List ByteArray) : Option (ByteArray) :=
 (strings_Join a1 (⟨#[]⟩ : ByteArray)).bind fun r2 =>
 some r2

def domains_Text (a1 : Api_Net) (a2 : Int) : Option (ByteArray) :=
 if (decide (a2 < 0)) = true then
  some (⟨#[]⟩ : ByteArray)
 else
  if (decide (a2 ≥ (a1.domains.length : Int))) = true then
   some (⟨#[]⟩ : ByteArray)
  else
   (names_Right a1).bind fun r5 =>
   if (!r5) = true then
    some (⟨#[]⟩ : ByteArray)
   else
    (nth a1.domains a2).bind fun x8 =>
    (nth a1.devices x8.dev).bind fun x10 =>
    (num_Text x8.vlan).bind fun r12 =>
    (domains_joined [x10.name, (⟨#[47]⟩ : ByteArray), r12]).bind fun r14 =>
    some r14

def audit_place_J1 (a1 : Api_Net) (a2 : Audit_Note) : Option (Bool) :=
 if (a2.kind == 2) = true then
  some (a2.kind == 2)
 else
  some (a2.kind == 9)

def audit_place_J2 (a1 : Api_Net) (a2 : Audit_Note) : Option (Bool) :=
 if (a2.kind == 3) = true then
  some (a2.kind == 3)
 else
  some (a2.kind == 4)

def audit_place (a1 : Api_Net) (a2 : Audit_Note) : Option (ByteArray) :=
 (audit_place_J1 a1 a2).bind fun r7 => match r7 with
 | v5 =>
  if (v5) = true then
   (explain_Port a1 a2.a).bind fun r9 =>
   if (seqB r9 (⟨#[]⟩ : ByteArray)) = true then
    (num_Text a2.a).bind fun r12 =>
    some r12
   else
    some r9
  else
   (audit_place_J2 a1 a2).bind fun r18 => match r18 with
   | v16 =>
    if (v16) = true then
     (domains_Text a1 a2.a).bind fun r20 =>
     if (seqB r20 (⟨#[]⟩ : ByteArray)) = true then
      (num_Text a2.a).bind fun r23 =>
      some r23
     else
      some r20
    else
     if (a2.kind == 7) = true then
      if (decide (a2.a ≥ 0)) = true then
       if (decide (a2.a < (a1.devices.length : Int))) = true then
        (names_Right a1).bind fun r28 =>
        if (r28) = true then
         (nth a1.devices a2.a).bind fun x31 =>
         some x31.name
        else
         if (seqB (⟨#[]⟩ : ByteArray) (⟨#[]⟩ : ByteArray)) = true then
          (num_Text a2.a).bind fun r34 =>
          some r34
         else
          some (⟨#[]⟩ : ByteArray)
       else
        if (seqB (⟨#[]⟩ : ByteArray) (⟨#[]⟩ : ByteArray)) = true then
         (num_Text a2.a).bind fun r37 =>
         some r37
        else
         some (⟨#[]⟩ : ByteArray)
      else
       if (seqB (⟨#[]⟩ : ByteArray) (⟨#[]⟩ : ByteArray)) = true then
        (num_Text a2.a).bind fun r40 =>
        some r40
       else
        some (⟨#[]⟩ : ByteArray)
     else
      if (seqB (⟨#[]⟩ : ByteArray) (⟨#[]⟩ : ByteArray)) = true then
       (num_Text a2.a).bind fun r43 =>
       some r43
      else
       some (⟨#[]⟩ : ByteArray)

def audit_Text (a1 : Api_Net) (a2 : Audit_Note) : Option (ByteArray) :=
 if (decide (a2.kind < 1)) = true then
  some (⟨#[]⟩ : ByteArray)
 else
  if (decide (a2.kind > 9)) = true then
   some (⟨#[]⟩ : ByteArray)
  else
   (num_Text a2.row).bind fun r5 =>
   if (sadok r5 (⟨#[32]⟩ : ByteArray)) = true then
    if (a2.kind == 0) = true then
     if (sadok (r5 ++ (⟨#[32]⟩ : ByteArray)) (⟨#[]⟩ : ByteArray)) = true then
      if (sadok ((r5 ++ (⟨#[32]⟩ : ByteArray)) ++ (⟨#[]⟩ : ByteArray)) (⟨#[32]⟩ : ByteArray)) = true then
       (audit_place a1 a2).bind fun r11 =>
       if (sadok (((r5 ++ (⟨#[32]⟩ : ByteArray)) ++ (⟨#[]⟩ : ByteArray)) ++ (⟨#[32]⟩ : ByteArray)) r11) = true then
        if (sadok ((((r5 ++ (⟨#[32]⟩ : ByteArray)) ++ (⟨#[]⟩ : ByteArray)) ++ (⟨#[32]⟩ : ByteArray)) ++ r11) (⟨#[32]⟩ : ByteArray)) = true then
         (num_Text a2.b).bind fun r15 =>
         if (sadok (((((r5 ++ (⟨#[32]⟩ : ByteArray)) ++ (⟨#[]⟩ : ByteArray)) ++ (⟨#[32]⟩ : ByteArray)) ++ r11) ++ (⟨#[32]⟩ : ByteArray)) r15) = true then
          some ((((((r5 ++ (⟨#[32]⟩ : ByteArray)) ++ (⟨#[]⟩ : ByteArray)) ++ (⟨#[32]⟩ : ByteArray)) ++ r11) ++ (⟨#[32]⟩ : ByteArray)) ++ r15)
         else
          none
        else
         none
       else
        none
      else
       none
     else
      none
    else
     if (a2.kind == 1) = true then
      if (sadok (r5 ++ (⟨#[32]⟩ : ByteArray)) (⟨#[115, 104, 105, 102, 116, 101, 100]⟩ : ByteArray)) = true then
       if (sadok ((r5 ++ (⟨#[32]⟩ : ByteArray)) ++ (⟨#[115, 104, 105, 102, 116, 101, 100]⟩ : ByteArray)) (⟨#[32]⟩ : ByteArray)) = true then
        (audit_place a1 a2).bind fun r21 =>
        if (sadok (((r5 ++ (⟨#[32]⟩ : ByteArray)) ++ (⟨#[115, 104, 105, 102, 116, 101, 100]⟩ : ByteArray)) ++ (⟨#[32]⟩ : ByteArray)) r21) = true then
         if (sadok ((((r5 ++ (⟨#[32]⟩ : ByteArray)) ++ (⟨#[115, 104, 105, 102, 116, 101, 100]⟩ : ByteArray)) ++ (⟨#[32]⟩ : ByteArray)) ++ r21) (⟨#[32]⟩ : ByteArray)) = true then
          (num_Text a2.b).bind fun r25 =>
          if (sadok (((((r5 ++ (⟨#[32]⟩ : ByteArray)) ++ (⟨#[115, 104, 105, 102, 116, 101, 100]⟩ : ByteArray)) ++ (⟨#[32]⟩ : ByteArray)) ++ r21) ++ (⟨#[32]⟩ : ByteArray)) r25) = true then
           some ((((((r5 ++ (⟨#[32]⟩ : ByteArray)) ++ (⟨#[115, 104, 105, 102, 116, 101, 100]⟩ : ByteArray)) ++ (⟨#[32]⟩ : ByteArray)) ++ r21) ++ (⟨#[32]⟩ : ByteArray)) ++ r25)
          else
           none
         else
          none
        else
         none
       else
        none
      else
       none
     else
      if (a2.kind == 2) = true then
       if (sadok (r5 ++ (⟨#[32]⟩ : ByteArray)) (⟨#[108, 111, 112, 115, 105, 100, 101, 100]⟩ : ByteArray)) = true then
        if (sadok ((r5 ++ (⟨#[32]⟩ : ByteArray)) ++ (⟨#[108, 111, 112, 115, 105, 100, 101, 100]⟩ : ByteArray)) (⟨#[32]⟩ : ByteArray)) = true then
         (audit_place a1 a2).bind fun r31 =>
         if (sadok (((r5 ++ (⟨#[32]⟩ : ByteArray)) ++ (⟨#[108, 111, 112, 115, 105, 100, 101, 100]⟩ : ByteArray)) ++ (⟨#[32]⟩ : ByteArray)) r31) = true then
          if (sadok ((((r5 ++ (⟨#[32]⟩ : ByteArray)) ++ (⟨#[108, 111, 112, 115, 105, 100, 101, 100]⟩ : ByteArray)) ++ (⟨#[32]⟩ : ByteArray)) ++ r31) (⟨#[32]⟩ : ByteArray)) = true then
           (num_Text a2.b).bind fun r35 =>
           if (sadok (((((r5 ++ (⟨#[32]⟩ : ByteArray)) ++ (⟨#[108, 111, 112, 115, 105, 100, 101, 100]⟩ : ByteArray)) ++ (⟨#[32]⟩ : ByteArray)) ++ r31) ++ (⟨#[32]⟩ : ByteArray)) r35) = true then
            some ((((((r5 ++ (⟨#[32]⟩ : ByteArray)) ++ (⟨#[108, 111, 112, 115, 105, 100, 101, 100]⟩ : ByteArray)) ++ (⟨#[32]⟩ : ByteArray)) ++ r31) ++ (⟨#[32]⟩ : ByteArray)) ++ r35)
           else
            none
          else
           none
         else
          none
        else
         none
       else
        none
      else
       if (a2.kind == 3) = true then
        if (sadok (r5 ++ (⟨#[32]⟩ : ByteArray)) (⟨#[108, 111, 110, 101, 108, 121]⟩ : ByteArray)) = true then
         if (sadok ((r5 ++ (⟨#[32]⟩ : ByteArray)) ++ (⟨#[108, 111, 110, 101, 108, 121]⟩ : ByteArray)) (⟨#[32]⟩ : ByteArray)) = true then
          (audit_place a1 a2).bind fun r41 =>
          if (sadok (((r5 ++ (⟨#[32]⟩ : ByteArray)) ++ (⟨#[108, 111, 110, 101, 108, 121]⟩ : ByteArray)) ++ (⟨#[32]⟩ : ByteArray)) r41) = true then
           if (sadok ((((r5 ++ (⟨#[32]⟩ : ByteArray)) ++ (⟨#[108, 111, 110, 101, 108, 121]⟩ : ByteArray)) ++ (⟨#[32]⟩ : ByteArray)) ++ r41) (⟨#[32]⟩ : ByteArray)) = true then
            (num_Text a2.b).bind fun r45 =>
            if (sadok (((((r5 ++ (⟨#[32]⟩ : ByteArray)) ++ (⟨#[108, 111, 110, 101, 108, 121]⟩ : ByteArray)) ++ (⟨#[32]⟩ : ByteArray)) ++ r41) ++ (⟨#[32]⟩ : ByteArray)) r45) = true then
             some ((((((r5 ++ (⟨#[32]⟩ : ByteArray)) ++ (⟨#[108, 111, 110, 101, 108, 121]⟩ : ByteArray)) ++ (⟨#[32]⟩ : ByteArray)) ++ r41) ++ (⟨#[32]⟩ : ByteArray)) ++ r45)
            else
             none
           else
            none
          else
           none
         else
          none
        else
         none
       else
        if (a2.kind == 4) = true then
         if (sadok (r5 ++ (⟨#[32]⟩ : ByteArray)) (⟨#[115, 105, 108, 101, 110, 116]⟩ : ByteArray)) = true then
          if (sadok ((r5 ++ (⟨#[32]⟩ : ByteArray)) ++ (⟨#[115, 105, 108, 101, 110, 116]⟩ : ByteArray)) (⟨#[32]⟩ : ByteArray)) = true then
           (audit_place a1 a2).bind fun r51 =>
           if (sadok (((r5 ++ (⟨#[32]⟩ : ByteArray)) ++ (⟨#[115, 105, 108, 101, 110, 116]⟩ : ByteArray)) ++ (⟨#[32]⟩ : ByteArray)) r51) = true then
            if (sadok ((((r5 ++ (⟨#[32]⟩ : ByteArray)) ++ (⟨#[115, 105, 108, 101, 110, 116]⟩ : ByteArray)) ++ (⟨#[32]⟩ : ByteArray)) ++ r51) (⟨#[32]⟩ : ByteArray)) = true then
             (num_Text a2.b).bind fun r55 =>
             if (sadok (((((r5 ++ (⟨#[32]⟩ : ByteArray)) ++ (⟨#[115, 105, 108, 101, 110, 116]⟩ : ByteArray)) ++ (⟨#[32]⟩ : ByteArray)) ++ r51) ++ (⟨#[32]⟩ : ByteArray)) r55) = true then
              some ((((((r5 ++ (⟨#[32]⟩ : ByteArray)) ++ (⟨#[115, 105, 108, 101, 110, 116]⟩ : ByteArray)) ++ (⟨#[32]⟩ : ByteArray)) ++ r51) ++ (⟨#[32]⟩ : ByteArray)) ++ r55)
             else
              none
            else
             none
           else
            none
          else
           none
         else
          none
        else
         if (a2.kind == 5) = true then
          if (sadok (r5 ++ (⟨#[32]⟩ : ByteArray)) (⟨#[117, 110, 117, 115, 101, 100]⟩ : ByteArray)) = true then
           if (sadok ((r5 ++ (⟨#[32]⟩ : ByteArray)) ++ (⟨#[117, 110, 117, 115, 101, 100]⟩ : ByteArray)) (⟨#[32]⟩ : ByteArray)) = true then
            (audit_place a1 a2).bind fun r61 =>
            if (sadok (((r5 ++ (⟨#[32]⟩ : ByteArray)) ++ (⟨#[117, 110, 117, 115, 101, 100]⟩ : ByteArray)) ++ (⟨#[32]⟩ : ByteArray)) r61) = true then
             if (sadok ((((r5 ++ (⟨#[32]⟩ : ByteArray)) ++ (⟨#[117, 110, 117, 115, 101, 100]⟩ : ByteArray)) ++ (⟨#[32]⟩ : ByteArray)) ++ r61) (⟨#[32]⟩ : ByteArray)) = true then
              (num_Text a2.b).bind fun r65 =>
              if (sadok (((((r5 ++ (⟨#[32]⟩ : ByteArray)) ++ (⟨#[117, 110, 117, 115, 101, 100]⟩ : ByteArray)) ++ (⟨#[32]⟩ : ByteArray)) ++ r61) ++ (⟨#[32]⟩ : ByteArray)) r65) = true then
               some ((((((r5 ++ (⟨#[32]⟩ : ByteArray)) ++ (⟨#[117, 110, 117, 115, 101, 100]⟩ : ByteArray)) ++ (⟨#[32]⟩ : ByteArray)) ++ r61) ++ (⟨#[32]⟩ : ByteArray)) ++ r65)
              else
               none
             else
              none
            else
             none
           else
            none
          else
           none
         else
          if (a2.kind == 6) = true then
           if (sadok (r5 ++ (⟨#[32]⟩ : ByteArray)) (⟨#[112, 105, 110, 110, 101, 100]⟩ : ByteArray)) = true then
            if (sadok ((r5 ++ (⟨#[32]⟩ : ByteArray)) ++ (⟨#[112, 105, 110, 110, 101, 100]⟩ : ByteArray)) (⟨#[32]⟩ : ByteArray)) = true then
             (audit_place a1 a2).bind fun r71 =>
             if (sadok (((r5 ++ (⟨#[32]⟩ : ByteArray)) ++ (⟨#[112, 105, 110, 110, 101, 100]⟩ : ByteArray)) ++ (⟨#[32]⟩ : ByteArray)) r71) = true then
              if (sadok ((((r5 ++ (⟨#[32]⟩ : ByteArray)) ++ (⟨#[112, 105, 110, 110, 101, 100]⟩ : ByteArray)) ++ (⟨#[32]⟩ : ByteArray)) ++ r71) (⟨#[32]⟩ : ByteArray)) = true then
               (num_Text a2.b).bind fun r75 =>
               if (sadok (((((r5 ++ (⟨#[32]⟩ : ByteArray)) ++ (⟨#[112, 105, 110, 110, 101, 100]⟩ : ByteArray)) ++ (⟨#[32]⟩ : ByteArray)) ++ r71) ++ (⟨#[32]⟩ : ByteArray)) r75) = true then
                some ((((((r5 ++ (⟨#[32]⟩ : ByteArray)) ++ (⟨#[112, 105, 110, 110, 101, 100]⟩ : ByteArray)) ++ (⟨#[32]⟩ : ByteArray)) ++ r71) ++ (⟨#[32]⟩ : ByteArray)) ++ r75)
               else
                none
              else
               none
             else
              none
            else
             none
           else
            none
          else
           if (a2.kind == 7) = true then
            if (sadok (r5 ++ (⟨#[32]⟩ : ByteArray)) (⟨#[98, 97, 114, 101]⟩ : ByteArray)) = true then
             if (sadok ((r5 ++ (⟨#[32]⟩ : ByteArray)) ++ (⟨#[98, 97, 114, 101]⟩ : ByteArray)) (⟨#[32]⟩ : ByteArray)) = true then
              (audit_place a1 a2).bind fun r81 =>
              if (sadok (((r5 ++ (⟨#[32]⟩ : ByteArray)) ++ (⟨#[98, 97, 114, 101]⟩ : ByteArray)) ++ (⟨#[32]⟩ : ByteArray)) r81) = true then
               if (sadok ((((r5 ++ (⟨#[32]⟩ : ByteArray)) ++ (⟨#[98, 97, 114, 101]⟩ : ByteArray)) ++ (⟨#[32]⟩ : ByteArray)) ++ r81) (⟨#[32]⟩ : ByteArray)) = true then
                (num_Text a2.b).bind fun r85 =>
                if (sadok (((((r5 ++ (⟨#[32]⟩ : ByteArray)) ++ (⟨#[98, 97, 114, 101]⟩ : ByteArray)) ++ (⟨#[32]⟩ : ByteArray)) ++ r81) ++ (⟨#[32]⟩ : ByteArray)) r85) = true then
                 some ((((((r5 ++ (⟨#[32]⟩ : ByteArray)) ++ (⟨#[98, 97, 114, 101]⟩ : ByteArray)) ++ (⟨#[32]⟩ : ByteArray)) ++ r81) ++ (⟨#[32]⟩ : ByteArray)) ++ r85)
                else
                 none
               else
                none
              else
               none
             else
              none
            else
             none
           else
            if (a2.kind == 8) = true then
             if (sadok (r5 ++ (⟨#[32]⟩ : ByteArray)) (⟨#[108, 101, 97, 100, 105, 110, 103]⟩ : ByteArray)) = true then
              if (sadok ((r5 ++ (⟨#[32]⟩ : ByteArray)) ++ (⟨#[108, 101, 97, 100, 105, 110, 103]⟩ : ByteArray)) (⟨#[32]⟩ : ByteArray)) = true then
               (audit_place a1 a2).bind fun r91 =>
               if (sadok (((r5 ++ (⟨#[32]⟩ : ByteArray)) ++ (⟨#[108, 101, 97, 100, 105, 110, 103]⟩ : ByteArray)) ++ (⟨#[32]⟩ : ByteArray)) r91) = true then
                if (sadok ((((r5 ++ (⟨#[32]⟩ : ByteArray)) ++ (⟨#[108, 101, 97, 100, 105, 110, 103]⟩ : ByteArray)) ++ (⟨#[32]⟩ : ByteArray)) ++ r91) (⟨#[32]⟩ : ByteArray)) = true then
                 (num_Text a2.b).bind fun r95 =>
                 if (sadok (((((r5 ++ (⟨#[32]⟩ : ByteArray)) ++ (⟨#[108, 101, 97, 100, 105, 110, 103]⟩ : ByteArray)) ++ (⟨#[32]⟩ : ByteArray)) ++ r91) ++ (⟨#[32]⟩ : ByteArray)) r95) = true then
                  some ((((((r5 ++ (⟨#[32]⟩ : ByteArray)) ++ (⟨#[108, 101, 97, 100, 105, 110, 103]⟩ : ByteArray)) ++ (⟨#[32]⟩ : ByteArray)) ++ r91) ++ (⟨#[32]⟩ : ByteArray)) ++ r95)
                 else
                  none
                else
                 none
               else
                none
              else
               none
             else
              none
            else
             if (a2.kind == 9) = true then
              if (sadok (r5 ++ (⟨#[32]⟩ : ByteArray)) (⟨#[116, 114, 117, 110, 107]⟩ : ByteArray)) = true then
               if (sadok ((r5 ++ (⟨#[32]⟩ : ByteArray)) ++ (⟨#[116, 114, 117, 110, 107]⟩ : ByteArray)) (⟨#[32]⟩ : ByteArray)) = true then
                (audit_place a1 a2).bind fun r101 =>
                if (sadok (((r5 ++ (⟨#[32]⟩ : ByteArray)) ++ (⟨#[116, 114, 117, 110, 107]⟩ : ByteArray)) ++ (⟨#[32]⟩ : ByteArray)) r101) = true then
                 if (sadok ((((r5 ++ (⟨#[32]⟩ : ByteArray)) ++ (⟨#[116, 114, 117, 110, 107]⟩ : ByteArray)) ++ (⟨#[32]⟩ : ByteArray)) ++ r101) (⟨#[32]⟩ : ByteArray)) = true then
                  (num_Text a2.b).bind fun r105 =>
                  if (sadok (((((r5 ++ (⟨#[32]⟩ : ByteArray)) ++ (⟨#[116, 114, 117, 110, 107]⟩ : ByteArray)) ++ (⟨#[32]⟩ : ByteArray)) ++ r101) ++ (⟨#[32]⟩ : ByteArray)) r105) = true then
                   some ((((((r5 ++ (⟨#[32]⟩ : ByteArray)) ++ (⟨#[116, 114, 117, 110, 107]⟩ : ByteArray)) ++ (⟨#[32]⟩ : ByteArray)) ++ r101) ++ (⟨#[32]⟩ : ByteArray)) ++ r105)
                  else
                   none
                 else
                  none
                else
                 none
               else
                none
              else
               none
             else
              none
   else
    none

def audit_Count_L1 (a1 : List Audit_Note) (a2 : Int) (v3 : Int) (v4 : Int) : Option ((Int × Int) ⊕ (Int)) :=
 if (decide (v4 < (a1.length : Int))) = true then
  (nth a1 v4).bind fun x6 =>
  if (x6.kind == a2) = true then
   some (Sum.inl (wr_i64 (v3 + 1), wr_i64 (v4 + 1)))
  else
   some (Sum.inl (v3, wr_i64 (v4 + 1)))
 else
  some (Sum.inr v3)

def audit_Count (a1 : List Audit_Note) (a2 : Int) : Option (Int) :=
 (loopM (fun s : Int × Int => match s with | (v3, v4) => audit_Count_L1 a1 a2 v3 v4) (0, 0)).bind fun r12 => match r12 with
 | v10 =>
  some v10

def palinglaw47_works : Option (Bool) :=
 (audit_All (⟨[(⟨0, 0, (⟨#[97]⟩ : ByteArray), 0, 0⟩ : Api_Device), (⟨0, 0, (⟨#[98]⟩ : ByteArray), 0, 0⟩ : Api_Device)], [(⟨0, 0, 10, 0, 0, (⟨#[112]⟩ : ByteArray), []⟩ : Api_Port), (⟨0, 1, 20, 0, 0, (⟨#[112]⟩ : ByteArray), []⟩ : Api_Port), (⟨0, 1, 20, 0, (-1), (⟨#[113]⟩ : ByteArray), []⟩ : Api_Port)], [(⟨5, 0, 1⟩ : Api_Link)], [(⟨0, 10, 0, (-1), 0, []⟩ : Api_Domain), (⟨1, 20, 0, (-1), 0, []⟩ : Api_Domain)], [], [], [], []⟩ : Api_Net)).bind fun r1 => match r1 with
 | (l3, v4) =>
  if (v4 == 0) = true then
   if (((List.length l3) : Int) == 1) = true then
    if (lin l3 0) = true then
     (l3[(Int.toNat 0)]?).bind fun x8 =>
     if (eq_Audit_Note x8 (⟨1, 5, 0, 10⟩ : Audit_Note)) = true then
      (l3[(Int.toNat 0)]?).bind fun x11 =>
      (audit_Text (⟨[(⟨0, 0, (⟨#[97]⟩ : ByteArray), 0, 0⟩ : Api_Device), (⟨0, 0, (⟨#[98]⟩ : ByteArray), 0, 0⟩ : Api_Device)], [(⟨0, 0, 10, 0, 0, (⟨#[112]⟩ : ByteArray), []⟩ : Api_Port), (⟨0, 1, 20, 0, 0, (⟨#[112]⟩ : ByteArray), []⟩ : Api_Port), (⟨0, 1, 20, 0, (-1), (⟨#[113]⟩ : ByteArray), []⟩ : Api_Port)], [(⟨5, 0, 1⟩ : Api_Link)], [(⟨0, 10, 0, (-1), 0, []⟩ : Api_Domain), (⟨1, 20, 0, (-1), 0, []⟩ : Api_Domain)], [], [], [], []⟩ : Api_Net) x11).bind fun r13 =>
      if (seqB r13 (⟨#[53, 32, 115, 104, 105, 102, 116, 101, 100, 32, 48, 32, 49, 48]⟩ : ByteArray)) = true then
       (audit_Count l3 1).bind fun r16 =>
       if (r16 == 1) = true then
        (audit_Count [] 1).bind fun r19 =>
        some (r19 == 0)
       else
        some false
      else
       some false
     else
      some false
    else
     none
   else
    some false
  else
   some false

def palinglaw15_Great_L1 (a1 : Api_Net) (v10 : Int) : Option ((Int) ⊕ (Unit ⊕ Unit)) :=
 if (decide (v10 < (a1.ports.length : Int))) = true then
  (nth a1.ports v10).bind fun x12 =>
  if (decide ((x12.tagged.length : Int) > 100)) = true then
   some (Sum.inr (Sum.inl ()))
  else
   some (Sum.inl (wr_i64 (v10 + 1)))
 else
  some (Sum.inr (Sum.inr ()))

def palinglaw15_Great_L2 (a1 : Api_Net) (v17 : Int) : Option ((Int) ⊕ (Unit ⊕ Unit)) :=
 if (decide (v17 < (a1.domains.length : Int))) = true then
  (nth a1.domains v17).bind fun x19 =>
  if (decide ((x19.peers.length : Int) > 100)) = true then
   some (Sum.inr (Sum.inl ()))
  else
   some (Sum.inl (wr_i64 (v17 + 1)))
 else
  some (Sum.inr (Sum.inr ()))

def palinglaw15_Great_L3 (a1 : Api_Net) (v24 : Int) : Option ((Int) ⊕ (Unit ⊕ Unit)) :=
 if (decide (v24 < (a1.floods.length : Int))) = true then
  (nth a1.floods v24).bind fun x26 =>
  if (decide ((x26.addrs.length : Int) > 100)) = true then
   some (Sum.inr (Sum.inl ()))
  else
   some (Sum.inl (wr_i64 (v24 + 1)))
 else
  some (Sum.inr (Sum.inr ()))

def palinglaw15_Great_L4 (a1 : Api_Net) (v31 : Int) : Option ((Int) ⊕ (Unit ⊕ Unit)) :=
 if (decide (v31 < (a1.vrfs.length : Int))) = true then
  (nth a1.vrfs v31).bind fun x33 =>
  if (decide ((x33.imports.length : Int) > 100)) = true then
   some (Sum.inr (Sum.inl ()))
  else
   (nth a1.vrfs v31).bind fun x36 =>
   if (decide ((x36.exports.length : Int) > 100)) = true then
    some (Sum.inr (Sum.inl ()))
   else
    some (Sum.inl (wr_i64 (v31 + 1)))
 else
  some (Sum.inr (Sum.inr ()))

def palinglaw15_Great (a1 : Api_Net) : Option (Bool) :=
 if (decide ((a1.devices.length : Int) > 200)) = true then
  some true
 else
  if (decide ((a1.ports.length : Int) > 200)) = true then
   some true
  else
   if (decide ((a1.links.length : Int) > 200)) = true then
    some true
   else
    if (decide ((a1.domains.length : Int) > 200)) = true then
     some true
    else
     if (decide ((a1.statics.length : Int) > 200)) = true then
      some true
     else
      if (decide ((a1.floods.length : Int) > 200)) = true then
       some true
      else
       if (decide ((a1.vrfs.length : Int) > 200)) = true then
        some true
       else
        if (decide ((a1.irbs.length : Int) > 200)) = true then
         some true
        else
         (loopM (palinglaw15_Great_L1 a1) 0).bind fun r16 => match r16 with
         | Sum.inl () =>
          some true
         | Sum.inr () =>
          (loopM (palinglaw15_Great_L2 a1) 0).bind fun r23 => match r23 with
          | Sum.inl () =>
           some true
          | Sum.inr () =>
           (loopM (palinglaw15_Great_L3 a1) 0).bind fun r30 => match r30 with
           | Sum.inl () =>
            some true
           | Sum.inr () =>
            (loopM (palinglaw15_Great_L4 a1) 0).bind fun r40 => match r40 with
            | Sum.inl () =>
             some true
            | Sum.inr () =>
             some false

def palinglaw47_AuditOrder_L1 (l10 : List Audit_Note) (v12 : Int) (v13 : Int) : Option ((Int × Int) ⊕ (Int)) :=
 if (decide (v13 ≤ 9)) = true then
  (audit_Count l10 v13).bind fun r15 =>
  some (Sum.inl (wr_i64 (v12 + r15), wr_i64 (v13 + 1)))
 else
  some (Sum.inr v12)

def palinglaw47_AuditOrder_L2 (l10 : List Audit_Note) (v18 : Int) (v21 : Int) : Option ((Int) ⊕ (Unit ⊕ Unit)) :=
 if (decide (v21 < ((List.length l10) : Int))) = true then
  if (lin l10 (wr_i64 (v21 - 1))) = true then
   (l10[(Int.toNat (wr_i64 (v21 - 1)))]?).bind fun x24 =>
   if (lin l10 v21) = true then
    (l10[(Int.toNat v21)]?).bind fun x27 =>
    if (decide (x24.kind > x27.kind)) = true then
     some (Sum.inr (Sum.inl ()))
    else
     if (x24.kind == x27.kind) = true then
      if (decide (x24.a > x27.a)) = true then
       some (Sum.inr (Sum.inl ()))
      else
       if (eq_Audit_Note x24 x27) = true then
        some (Sum.inr (Sum.inl ()))
       else
        some (Sum.inl (wr_i64 (v21 + 1)))
     else
      if (eq_Audit_Note x24 x27) = true then
       some (Sum.inr (Sum.inl ()))
      else
       some (Sum.inl (wr_i64 (v21 + 1)))
   else
    none
  else
   none
 else
  some (Sum.inr (Sum.inr ()))

def palinglaw47_AuditOrder (a1 : Api_Net) : Option (Bool) :=
 (palinglaw47_works).bind fun r2 =>
 if (!r2) = true then
  some false
 else
  (palinglaw15_Great a1).bind fun r5 =>
  if (r5) = true then
   some true
  else
   (audit_All a1).bind fun r8 => match r8 with
   | (l10, v11) =>
    (loopM (fun s : Int × Int => match s with | (v12, v13) => palinglaw47_AuditOrder_L1 l10 v12 v13) (0, 1)).bind fun r20 => match r20 with
    | v18 =>
     (loopM (palinglaw47_AuditOrder_L2 l10 v18) 1).bind fun r35 => match r35 with
     | Sum.inl () =>
      some false
     | Sum.inr () =>
      if (v18 == ((List.length l10) : Int)) = true then
       (audit_Count l10 0).bind fun r37 =>
       some (r37 == 0)
      else
       some false

def palinglaw44_Great_L1 (a1 : Api_Net) (a2 : List ByteArray) (v7 : Int) : Option ((Int) ⊕ (Unit ⊕ Unit)) :=
 if (decide (v7 < (a1.devices.length : Int))) = true then
  (nth a1.devices v7).bind fun x9 =>
  if (decide ((x9.name.size : Int) > 300)) = true then
   some (Sum.inr (Sum.inl ()))
  else
   some (Sum.inl (wr_i64 (v7 + 1)))
 else
  some (Sum.inr (Sum.inr ()))

def palinglaw44_Great_L2 (a1 : Api_Net) (a2 : List ByteArray) (v14 : Int) : Option ((Int) ⊕ (Unit ⊕ Unit)) :=
 if (decide (v14 < (a1.ports.length : Int))) = true then
  (nth a1.ports v14).bind fun x16 =>
  if (decide ((x16.name.size : Int) > 300)) = true then
   some (Sum.inr (Sum.inl ()))
  else
   some (Sum.inl (wr_i64 (v14 + 1)))
 else
  some (Sum.inr (Sum.inr ()))

def palinglaw44_Great_L3 (a2 : List ByteArray) (v21 : Int) : Option ((Int) ⊕ (Unit ⊕ Unit)) :=
 if (decide (v21 < (a2.length : Int))) = true then
  (nth a2 v21).bind fun x23 =>
  if (decide ((x23.size : Int) > 1500)) = true then
   some (Sum.inr (Sum.inl ()))
  else
   some (Sum.inl (wr_i64 (v21 + 1)))
 else
  some (Sum.inr (Sum.inr ()))

def palinglaw44_Great (a1 : Api_Net) (a2 : List ByteArray) : Option (Bool) :=
 (palinglaw15_Great a1).bind fun r3 =>
 if (r3) = true then
  some true
 else
  if (decide ((a2.length : Int) > 100)) = true then
   some true
  else
   (loopM (palinglaw44_Great_L1 a1 a2) 0).bind fun r13 => match r13 with
   | Sum.inl () =>
    some true
   | Sum.inr () =>
    (loopM (palinglaw44_Great_L2 a1 a2) 0).bind fun r20 => match r20 with
    | Sum.inl () =>
     some true
    | Sum.inr () =>
     (loopM (palinglaw44_Great_L3 a2) 0).bind fun r27 => match r27 with
     | Sum.inl () =>
      some true
     | Sum.inr () =>
      some false

def palingref15_Place (a1 : Int) (a2 : Int) : Option (Bool) :=
 if (decide (a1 ≥ 0)) = true then
  some (decide (a1 < a2))
 else
  some false

def palingref15_At_L1 (a1 : Api_Net) (a2 : Int) (a3 : Int) (v4 : Int) : Option ((Int) ⊕ (Int ⊕ Unit)) :=
 if (decide (v4 < (a1.domains.length : Int))) = true then
  (nth a1.domains v4).bind fun x6 =>
  if (x6.dev == a2) = true then
   (nth a1.domains v4).bind fun x9 =>
   if (x9.vlan == a3) = true then
    some (Sum.inr (Sum.inl v4))
   else
    some (Sum.inl (wr_i64 (v4 + 1)))
  else
   some (Sum.inl (wr_i64 (v4 + 1)))
 else
  some (Sum.inr (Sum.inr ()))

def palingref15_At (a1 : Api_Net) (a2 : Int) (a3 : Int) : Option (Int) :=
 (loopM (palingref15_At_L1 a1 a2 a3) 0).bind fun r15 => match r15 with
 | Sum.inl v13 =>
  some v13
 | Sum.inr () =>
  some (-1)

def palingref15_In_L1 (a1 : List Int) (a2 : Int) (v3 : Int) : Option ((Int) ⊕ (Unit ⊕ Unit)) :=
 if (decide (v3 < (a1.length : Int))) = true then
  (nth a1 v3).bind fun x5 =>
  if (x5 == a2) = true then
   some (Sum.inr (Sum.inl ()))
  else
   some (Sum.inl (wr_i64 (v3 + 1)))
 else
  some (Sum.inr (Sum.inr ()))

def palingref15_In (a1 : List Int) (a2 : Int) : Option (Bool) :=
 (loopM (palingref15_In_L1 a1 a2) 0).bind fun r9 => match r9 with
 | Sum.inl () =>
  some true
 | Sum.inr () =>
  some false

def palingref15_peer (a1 : Api_Net) (a2 : Int) (a3 : Int) : Option (Bool) :=
 (palingref15_Place a3 (a1.domains.length : Int)).bind fun r4 =>
 if (!r4) = true then
  some false
 else
  if (a3 == a2) = true then
   some false
  else
   (nth a1.domains a2).bind fun x8 =>
   (nth a1.domains a3).bind fun x10 =>
   if (x8.dev != x10.dev) = true then
    if (x8.vni == x10.vni) = true then
     if (x8.vni != 0) = true then
      (nth a1.devices x8.dev).bind fun x15 =>
      if (x15.vtep != 0) = true then
       (nth a1.devices x10.dev).bind fun x18 =>
       if (x18.vtep != 0) = true then
        (palingref15_In x10.peers a2).bind fun r21 =>
        some r21
       else
        some false
      else
       some false
     else
      some false
    else
     some false
   else
    some false

def palingref15_domains_L1 (a1 : Api_Net) (v2 : Int) : Option ((Int) ⊕ (Unit ⊕ Unit)) :=
 if (decide (v2 < (a1.domains.length : Int))) = true then
  (nth a1.domains v2).bind fun x4 =>
  (palingref15_Place x4.dev (a1.devices.length : Int)).bind fun r6 =>
  if (!r6) = true then
   some (Sum.inr (Sum.inl ()))
  else
   if (decide (x4.vlan < 1)) = true then
    some (Sum.inr (Sum.inl ()))
   else
    if (decide (x4.vlan > 4094)) = true then
     some (Sum.inr (Sum.inl ()))
    else
     if (decide (x4.vni < 0)) = true then
      some (Sum.inr (Sum.inl ()))
     else
      if (decide (x4.vni ≥ 16777216)) = true then
       some (Sum.inr (Sum.inl ()))
      else
       (palingref15_At a1 x4.dev x4.vlan).bind fun r13 =>
       if (r13 != v2) = true then
        some (Sum.inr (Sum.inl ()))
       else
        if (x4.irb != (-1)) = true then
         (palingref15_Place x4.irb (a1.irbs.length : Int)).bind fun r17 =>
         if (!r17) = true then
          some (Sum.inr (Sum.inl ()))
         else
          (nth a1.irbs x4.irb).bind fun x20 =>
          if (x20.domain != v2) = true then
           some (Sum.inr (Sum.inl ()))
          else
           some (Sum.inl (wr_i64 (v2 + 1)))
        else
         some (Sum.inl (wr_i64 (v2 + 1)))
 else
  some (Sum.inr (Sum.inr ()))

def palingref15_domains_L3 (a1 : Api_Net) (v25 : Int) (x27 : Api_Domain) (v29 : Int) : Option ((Int) ⊕ (Unit ⊕ Unit)) :=
 if (decide (v29 < (x27.peers.length : Int))) = true then
  (nth x27.peers v29).bind fun x31 =>
  (palingref15_peer a1 v25 x31).bind fun r33 =>
  if (!r33) = true then
   some (Sum.inr (Sum.inl ()))
  else
   if (slok (List.length x27.peers) 0 v29) = true then
    (nth x27.peers v29).bind fun x37 =>
    (palingref15_In (List.drop (Int.toNat 0) (List.take (Int.toNat v29) x27.peers)) x37).bind fun r39 =>
    if (r39) = true then
     some (Sum.inr (Sum.inl ()))
    else
     some (Sum.inl (wr_i64 (v29 + 1)))
   else
    none
 else
  some (Sum.inr (Sum.inr ()))

def palingref15_domains_L2 (a1 : Api_Net) (v25 : Int) : Option ((Int) ⊕ (Unit ⊕ Unit)) :=
 if (decide (v25 < (a1.domains.length : Int))) = true then
  (nth a1.domains v25).bind fun x27 =>
  (loopM (palingref15_domains_L3 a1 v25 x27) 0).bind fun r43 => match r43 with
  | Sum.inl () =>
   some (Sum.inr (Sum.inl ()))
  | Sum.inr () =>
   some (Sum.inl (wr_i64 (v25 + 1)))
 else
  some (Sum.inr (Sum.inr ()))

def palingref15_domains (a1 : Api_Net) : Option (Bool) :=
 (loopM (palingref15_domains_L1 a1) 0).bind fun r24 => match r24 with
 | Sum.inl () =>
  some false
 | Sum.inr () =>
  (loopM (palingref15_domains_L2 a1) 0).bind fun r45 => match r45 with
  | Sum.inl () =>
   some false
  | Sum.inr () =>
   some true

def palingref03_Rising_L1 (a1 : List Int) (a2 : Int) (a3 : Int) (v6 : Int) : Option ((Int) ⊕ (Unit ⊕ Unit)) :=
 if (decide (v6 < (a1.length : Int))) = true then
  (nth a1 v6).bind fun x8 =>
  if (decide (x8 < a2)) = true then
   some (Sum.inr (Sum.inl ()))
  else
   (nth a1 v6).bind fun x11 =>
   if (decide (x11 > a3)) = true then
    some (Sum.inr (Sum.inl ()))
   else
    if (decide (v6 > 0)) = true then
     (nth a1 v6).bind fun x15 =>
     (nth a1 (wr_i64 (v6 - 1))).bind fun x17 =>
     if (decide (x15 ≤ x17)) = true then
      some (Sum.inr (Sum.inl ()))
     else
      some (Sum.inl (wr_i64 (v6 + 1)))
    else
     some (Sum.inl (wr_i64 (v6 + 1)))
 else
  some (Sum.inr (Sum.inr ()))

def palingref03_Rising (a1 : List Int) (a2 : Int) (a3 : Int) : Option (Bool) :=
 if (decide ((a1.length : Int) < 1)) = true then
  some false
 else
  if (decide ((a1.length : Int) > 16)) = true then
   some false
  else
   (loopM (palingref03_Rising_L1 a1 a2 a3) 0).bind fun r21 => match r21 with
   | Sum.inl () =>
    some false
   | Sum.inr () =>
    some true

def palingref15_rising (a1 : List Int) (a2 : Int) : Option (Bool) :=
 if ((a1.length : Int) == 0) = true then
  some true
 else
  (palingref03_Rising a1 1 a2).bind fun r4 =>
  some r4

def palingref15_ports_J2 (a1 : Api_Net) (v2 : Int) (x4 : Api_Port) : Option (Unit ⊕ Unit) :=
 if (x4.native == 0) = true then
  if ((x4.tagged.length : Int) == 0) = true then
   some (Sum.inl ())
  else
   if (decide (x4.native > 0)) = true then
    (palingref15_At a1 x4.dev x4.native).bind fun r20 =>
    if (decide (r20 < 0)) = true then
     some (Sum.inl ())
    else
     some (Sum.inr ())
   else
    some (Sum.inr ())
 else
  if (decide (x4.native > 0)) = true then
   (palingref15_At a1 x4.dev x4.native).bind fun r24 =>
   if (decide (r24 < 0)) = true then
    some (Sum.inl ())
   else
    some (Sum.inr ())
  else
   some (Sum.inr ())

def palingref15_ports_L3 (a1 : Api_Net) (v2 : Int) (x4 : Api_Port) (v29 : Int) : Option ((Int) ⊕ (Unit ⊕ Unit)) :=
 if (decide (v29 < (x4.tagged.length : Int))) = true then
  (nth x4.tagged v29).bind fun x31 =>
  (palingref15_At a1 x4.dev x31).bind fun r33 =>
  if (decide (r33 < 0)) = true then
   some (Sum.inr (Sum.inl ()))
  else
   some (Sum.inl (wr_i64 (v29 + 1)))
 else
  some (Sum.inr (Sum.inr ()))

def palingref15_ports_L1 (a1 : Api_Net) (v2 : Int) : Option ((Int) ⊕ (Unit ⊕ Unit)) :=
 if (decide (v2 < (a1.ports.length : Int))) = true then
  (nth a1.ports v2).bind fun x4 =>
  (palingref15_Place x4.dev (a1.devices.length : Int)).bind fun r6 =>
  if (!r6) = true then
   some (Sum.inr (Sum.inl ()))
  else
   if (decide (x4.native < 0)) = true then
    some (Sum.inr (Sum.inl ()))
   else
    if (decide (x4.native > 4094)) = true then
     some (Sum.inr (Sum.inl ()))
    else
     (palingref15_rising x4.tagged 4094).bind fun r11 =>
     if (!r11) = true then
      some (Sum.inr (Sum.inl ()))
     else
      (palingref15_In x4.tagged x4.native).bind fun r14 =>
      if (r14) = true then
       some (Sum.inr (Sum.inl ()))
      else
       (palingref15_ports_J2 a1 v2 x4).bind fun r28 => match r28 with
       | Sum.inl () =>
        some (Sum.inr (Sum.inl ()))
       | Sum.inr () =>
        (loopM (palingref15_ports_L3 a1 v2 x4) 0).bind fun r37 => match r37 with
        | Sum.inl () =>
         some (Sum.inr (Sum.inl ()))
        | Sum.inr () =>
         if (x4.link == (-1)) = true then
          some (Sum.inl (wr_i64 (v2 + 1)))
         else
          (palingref15_Place x4.link (a1.links.length : Int)).bind fun r39 =>
          if (!r39) = true then
           some (Sum.inr (Sum.inl ()))
          else
           (nth a1.links x4.link).bind fun x42 =>
           if (x42.a != v2) = true then
            (nth a1.links x4.link).bind fun x45 =>
            if (x45.b != v2) = true then
             some (Sum.inr (Sum.inl ()))
            else
             some (Sum.inl (wr_i64 (v2 + 1)))
           else
            some (Sum.inl (wr_i64 (v2 + 1)))
 else
  some (Sum.inr (Sum.inr ()))

def palingref15_ports (a1 : Api_Net) : Option (Bool) :=
 (loopM (palingref15_ports_L1 a1) 0).bind fun r49 => match r49 with
 | Sum.inl () =>
  some false
 | Sum.inr () =>
  some true

def palingref15_links_L1 (a1 : Api_Net) (v2 : Int) : Option ((Int) ⊕ (Unit ⊕ Unit)) :=
 if (decide (v2 < (a1.links.length : Int))) = true then
  (nth a1.links v2).bind fun x4 =>
  (palingref15_Place x4.a (a1.ports.length : Int)).bind fun r6 =>
  if (!r6) = true then
   some (Sum.inr (Sum.inl ()))
  else
   (palingref15_Place x4.b (a1.ports.length : Int)).bind fun r9 =>
   if (!r9) = true then
    some (Sum.inr (Sum.inl ()))
   else
    (nth a1.ports x4.a).bind fun x12 =>
    (nth a1.ports x4.b).bind fun x14 =>
    if (x12.dev == x14.dev) = true then
     some (Sum.inr (Sum.inl ()))
    else
     (nth a1.ports x4.a).bind fun x17 =>
     if (x17.link != v2) = true then
      some (Sum.inr (Sum.inl ()))
     else
      (nth a1.ports x4.b).bind fun x20 =>
      if (x20.link != v2) = true then
       some (Sum.inr (Sum.inl ()))
      else
       some (Sum.inl (wr_i64 (v2 + 1)))
 else
  some (Sum.inr (Sum.inr ()))

def palingref15_links (a1 : Api_Net) : Option (Bool) :=
 (loopM (palingref15_links_L1 a1) 0).bind fun r24 => match r24 with
 | Sum.inl () =>
  some false
 | Sum.inr () =>
  some true

def palingref15_Member (a1 : Api_Port) (a2 : Int) : Option (Bool) :=
 if (a2 != 0) = true then
  if (a1.native == a2) = true then
   some true
  else
   (palingref15_In a1.tagged a2).bind fun r5 =>
   some r5
 else
  some false

def palingref15_rest_L1 (a1 : Api_Net) (v2 : Int) : Option ((Int) ⊕ (Unit ⊕ Unit)) :=
 if (decide (v2 < (a1.statics.length : Int))) = true then
  (nth a1.statics v2).bind fun x4 =>
  (palingref15_Place x4.domain (a1.domains.length : Int)).bind fun r6 =>
  if (!r6) = true then
   some (Sum.inr (Sum.inl ()))
  else
   (palingref15_Place x4.port (a1.ports.length : Int)).bind fun r9 =>
   if (!r9) = true then
    some (Sum.inr (Sum.inl ()))
   else
    (nth a1.domains x4.domain).bind fun x12 =>
    (nth a1.ports x4.port).bind fun x14 =>
    if (x14.dev != x12.dev) = true then
     some (Sum.inr (Sum.inl ()))
    else
     (nth a1.ports x4.port).bind fun x17 =>
     (palingref15_Member x17 x12.vlan).bind fun r19 =>
     if (!r19) = true then
      some (Sum.inr (Sum.inl ()))
     else
      some (Sum.inl (wr_i64 (v2 + 1)))
 else
  some (Sum.inr (Sum.inr ()))

def palingref15_rest_L2 (a1 : Api_Net) (v24 : Int) : Option ((Int) ⊕ (Unit ⊕ Unit)) :=
 if (decide (v24 < (a1.floods.length : Int))) = true then
  (nth a1.floods v24).bind fun x26 =>
  (palingref15_Place x26.dev (a1.devices.length : Int)).bind fun r28 =>
  if (!r28) = true then
   some (Sum.inr (Sum.inl ()))
  else
   (nth a1.floods v24).bind fun x31 =>
   if (decide ((x31.addrs.length : Int) > 16)) = true then
    some (Sum.inr (Sum.inl ()))
   else
    some (Sum.inl (wr_i64 (v24 + 1)))
 else
  some (Sum.inr (Sum.inr ()))

def palingref15_rest_L3 (a1 : Api_Net) (v36 : Int) : Option ((Int) ⊕ (Unit ⊕ Unit)) :=
 if (decide (v36 < (a1.vrfs.length : Int))) = true then
  (nth a1.vrfs v36).bind fun x38 =>
  (palingref15_Place x38.dev (a1.devices.length : Int)).bind fun r40 =>
  if (!r40) = true then
   some (Sum.inr (Sum.inl ()))
  else
   (palingref15_rising x38.imports 65535).bind fun r43 =>
   if (!r43) = true then
    some (Sum.inr (Sum.inl ()))
   else
    (palingref15_rising x38.exports 65535).bind fun r46 =>
    if (!r46) = true then
     some (Sum.inr (Sum.inl ()))
    else
     some (Sum.inl (wr_i64 (v36 + 1)))
 else
  some (Sum.inr (Sum.inr ()))

def palingref15_rest_L4 (a1 : Api_Net) (v51 : Int) : Option ((Int) ⊕ (Unit ⊕ Unit)) :=
 if (decide (v51 < (a1.irbs.length : Int))) = true then
  (nth a1.irbs v51).bind fun x53 =>
  (palingref15_Place x53.domain (a1.domains.length : Int)).bind fun r55 =>
  if (!r55) = true then
   some (Sum.inr (Sum.inl ()))
  else
   (palingref15_Place x53.vrf (a1.vrfs.length : Int)).bind fun r58 =>
   if (!r58) = true then
    some (Sum.inr (Sum.inl ()))
   else
    if (decide (x53.net.bits < 1)) = true then
     some (Sum.inr (Sum.inl ()))
    else
     if (decide (x53.net.bits > 30)) = true then
      some (Sum.inr (Sum.inl ()))
     else
      (nth a1.domains x53.domain).bind fun x63 =>
      (nth a1.vrfs x53.vrf).bind fun x65 =>
      if (x63.dev != x65.dev) = true then
       some (Sum.inr (Sum.inl ()))
      else
       (nth a1.domains x53.domain).bind fun x68 =>
       if (x68.irb != v51) = true then
        some (Sum.inr (Sum.inl ()))
       else
        some (Sum.inl (wr_i64 (v51 + 1)))
 else
  some (Sum.inr (Sum.inr ()))

def palingref15_rest (a1 : Api_Net) : Option (Bool) :=
 (loopM (palingref15_rest_L1 a1) 0).bind fun r23 => match r23 with
 | Sum.inl () =>
  some false
 | Sum.inr () =>
  (loopM (palingref15_rest_L2 a1) 0).bind fun r35 => match r35 with
  | Sum.inl () =>
   some false
  | Sum.inr () =>
   (loopM (palingref15_rest_L3 a1) 0).bind fun r50 => match r50 with
   | Sum.inl () =>
    some false
   | Sum.inr () =>
    (loopM (palingref15_rest_L4 a1) 0).bind fun r72 => match r72 with
    | Sum.inl () =>
     some false
    | Sum.inr () =>
     some true

def palingref15_Right (a1 : Api_Net) : Option (Bool) :=
 if (decide ((a1.devices.length : Int) > 8)) = true then
  some false
 else
  if (decide ((a1.ports.length : Int) > 40)) = true then
   some false
  else
   if (decide ((a1.links.length : Int) > 20)) = true then
    some false
   else
    if (decide ((a1.domains.length : Int) > 48)) = true then
     some false
    else
     if (decide ((a1.statics.length : Int) > 64)) = true then
      some false
     else
      if (decide ((a1.floods.length : Int) > 48)) = true then
       some false
      else
       if (decide ((a1.vrfs.length : Int) > 16)) = true then
        some false
       else
        if (decide ((a1.irbs.length : Int) > 48)) = true then
         some false
        else
         (palingref15_domains a1).bind fun r10 =>
         if (r10) = true then
          (palingref15_ports a1).bind fun r13 =>
          if (r13) = true then
           (palingref15_links a1).bind fun r16 =>
           if (r16) = true then
            (palingref15_rest a1).bind fun r19 =>
            some r19
           else
            some false
          else
           some false
         else
          some false

def palingref47_shifted_J2 (a1 : Api_Net) (l2 : List Palingref47_Note) (v3 : Int) (x7 : Api_Port) (x11 : Api_Port) : Option (Bool) :=
 if (decide (x7.native > 0)) = true then
  if (decide (x11.native > 0)) = true then
   some (x7.native != x11.native)
  else
   some false
 else
  some false

def palingref47_shifted_L1 (a1 : Api_Net) (l2 : List Palingref47_Note) (v3 : Int) : Option (((List Palingref47_Note) × Int) ⊕ ((List Palingref47_Note))) :=
 if (decide (v3 < (a1.links.length : Int))) = true then
  (nth a1.links v3).bind fun x5 =>
  (nth a1.ports x5.a).bind fun x7 =>
  (nth a1.links v3).bind fun x9 =>
  (nth a1.ports x9.b).bind fun x11 =>
  (palingref47_shifted_J2 a1 l2 v3 x7 x11).bind fun r18 => match r18 with
  | v16 =>
   if (v16) = true then
    (nth a1.links v3).bind fun x20 =>
    if (roomy 32 (l2 ++ [(⟨1, x20.row, v3, x7.native⟩ : Palingref47_Note)])) = true then
     some (Sum.inl (l2 ++ [(⟨1, x20.row, v3, x7.native⟩ : Palingref47_Note)], wr_i64 (v3 + 1)))
    else
     none
   else
    some (Sum.inl (l2, wr_i64 (v3 + 1)))
 else
  some (Sum.inr l2)

def palingref47_shifted (a1 : Api_Net) : Option (((List Palingref47_Note))) :=
 (loopM (fun s : (List Palingref47_Note) × Int => match s with | (l2, v3) => palingref47_shifted_L1 a1 l2 v3) ([], 0)).bind fun r27 => match r27 with
 | l25 =>
  some l25

def palingref47_vlans (a1 : Api_Port) : Option (((List Int))) :=
 if (a1.native == 0) = true then
  some a1.tagged
 else
  if (roomy 8 ([a1.native] ++ a1.tagged)) = true then
   some ([a1.native] ++ a1.tagged)
  else
   none

def palingref17_Other_L1 (a1 : Api_Net) (a2 : Int) (v3 : Int) : Option ((Int) ⊕ (Int ⊕ Unit)) :=
 if (decide (v3 < (a1.links.length : Int))) = true then
  (nth a1.links v3).bind fun x5 =>
  if (x5.a == a2) = true then
   (nth a1.links v3).bind fun x8 =>
   some (Sum.inr (Sum.inl x8.b))
  else
   (nth a1.links v3).bind fun x10 =>
   if (x10.b == a2) = true then
    (nth a1.links v3).bind fun x13 =>
    some (Sum.inr (Sum.inl x13.a))
   else
    some (Sum.inl (wr_i64 (v3 + 1)))
 else
  some (Sum.inr (Sum.inr ()))

def palingref17_Other (a1 : Api_Net) (a2 : Int) : Option (Int) :=
 (loopM (palingref17_Other_L1 a1 a2) 0).bind fun r18 => match r18 with
 | Sum.inl v16 =>
  some v16
 | Sum.inr () =>
  some (-1)

def palingref17_Cross_J1 (a3 : Int) (r4 : Int) (x8 : Api_Port) (x10 : Api_Port) : Option (Unit ⊕ Unit) :=
 if (x8.native == a3) = true then
  if (decide (x10.native > 0)) = true then
   some (Sum.inl ())
  else
   some (Sum.inr ())
 else
  some (Sum.inr ())

def palingref17_Cross (a1 : Api_Net) (a2 : Int) (a3 : Int) : Option (Int × Int × Bool) :=
 (palingref17_Other a1 a2).bind fun r4 =>
 if (decide (r4 < 0)) = true then
  some (0, 0, false)
 else
  if (a3 == 0) = true then
   some (0, 0, false)
  else
   (nth a1.ports a2).bind fun x8 =>
   (nth a1.ports r4).bind fun x10 =>
   (palingref17_Cross_J1 a3 r4 x8 x10).bind fun r15 => match r15 with
   | Sum.inl () =>
    some (r4, x10.native, true)
   | Sum.inr () =>
    (palingref15_In x8.tagged a3).bind fun r16 =>
    if (r16) = true then
     (palingref15_In x10.tagged a3).bind fun r19 =>
     if (r19) = true then
      some (r4, a3, true)
     else
      some (0, 0, false)
    else
     some (0, 0, false)

def palingref47_lopsided_L2 (a1 : Api_Net) (v3 : Int) (x5 : Api_Port) (r9 : List Int) (l10 : List Palingref47_Note) (v11 : Int) : Option (((List Palingref47_Note) × Int) ⊕ ((List Palingref47_Note))) :=
 if (decide (v11 < (r9.length : Int))) = true then
  if (x5.link != (-1)) = true then
   (nth r9 v11).bind fun x14 =>
   (palingref17_Cross a1 v3 x14).bind fun r16 =>
   if (!r16.2.2) = true then
    (nth a1.links x5.link).bind fun x19 =>
    (nth r9 v11).bind fun x21 =>
    if (roomy 32 (l10 ++ [(⟨2, x19.row, v3, x21⟩ : Palingref47_Note)])) = true then
     some (Sum.inl (l10 ++ [(⟨2, x19.row, v3, x21⟩ : Palingref47_Note)], wr_i64 (v11 + 1)))
    else
     none
   else
    some (Sum.inl (l10, wr_i64 (v11 + 1)))
  else
   some (Sum.inr l10)
 else
  some (Sum.inr l10)

def palingref47_lopsided_L1 (a1 : Api_Net) (l2 : List Palingref47_Note) (v3 : Int) : Option (((List Palingref47_Note) × Int) ⊕ ((List Palingref47_Note))) :=
 if (decide (v3 < (a1.ports.length : Int))) = true then
  (nth a1.ports v3).bind fun x5 =>
  (palingref47_vlans x5).bind fun r7 => match r7 with
  | r9 =>
   (loopM (fun s : (List Palingref47_Note) × Int => match s with | (l10, v11) => palingref47_lopsided_L2 a1 v3 x5 r9 l10 v11) (l2, 0)).bind fun r30 => match r30 with
   | l28 =>
    some (Sum.inl (l28, wr_i64 (v3 + 1)))
 else
  some (Sum.inr l2)

def palingref47_lopsided (a1 : Api_Net) : Option (((List Palingref47_Note))) :=
 (loopM (fun s : (List Palingref47_Note) × Int => match s with | (l2, v3) => palingref47_lopsided_L1 a1 l2 v3) ([], 0)).bind fun r35 => match r35 with
 | l33 =>
  some l33

def palingref15_Members_L1 (a1 : Api_Net) (x6 : Api_Domain) (l8 : List Int) (v9 : Int) : Option (((List Int) × Int) ⊕ ((List Int))) :=
 if (decide (v9 < (a1.ports.length : Int))) = true then
  (nth a1.ports v9).bind fun x11 =>
  if (x11.dev == x6.dev) = true then
   (nth a1.ports v9).bind fun x14 =>
   (palingref15_Member x14 x6.vlan).bind fun r16 =>
   if (r16) = true then
    if (roomy 8 (l8 ++ [v9])) = true then
     some (Sum.inl (l8 ++ [v9], wr_i64 (v9 + 1)))
    else
     none
   else
    some (Sum.inl (l8, wr_i64 (v9 + 1)))
  else
   some (Sum.inl (l8, wr_i64 (v9 + 1)))
 else
  some (Sum.inr l8)

def palingref15_Members (a1 : Api_Net) (a2 : Int) : Option (((List Int))) :=
 (palingref15_Place a2 (a1.domains.length : Int)).bind fun r3 =>
 if (!r3) = true then
  some []
 else
  (nth a1.domains a2).bind fun x6 =>
  (loopM (fun s : (List Int) × Int => match s with | (l8, v9) => palingref15_Members_L1 a1 x6 l8 v9) ([], 0)).bind fun r24 => match r24 with
  | l22 =>
   some l22

def palingref17_Domain (a1 : Api_Net) (a2 : Int) (a3 : Int) : Option (Int × Bool) :=
 (palingref17_Cross a1 a2 a3).bind fun r4 =>
 if (!r4.2.2) = true then
  some (0, false)
 else
  (nth a1.ports r4.1).bind fun x7 =>
  (palingref15_At a1 x7.dev r4.2.1).bind fun r9 =>
  some (r9, true)

def palingref35_Hops_L1 (a1 : Api_Net) (a2 : Int) (l5 : List Int) (l6 : List Palingref35_Hop) (v7 : Int) : Option (((List Palingref35_Hop) × Int) ⊕ ((List Palingref35_Hop))) :=
 if (decide (v7 < ((List.length l5) : Int))) = true then
  if (lin l5 v7) = true then
   (l5[(Int.toNat v7)]?).bind fun x10 =>
   (nth a1.domains a2).bind fun x12 =>
   (palingref17_Domain a1 x10 x12.vlan).bind fun r14 =>
   if (r14.2) = true then
    (l5[(Int.toNat v7)]?).bind fun x17 =>
    if (roomy 32 (l6 ++ [(⟨1, x17, r14.1, 0⟩ : Palingref35_Hop)])) = true then
     some (Sum.inl (l6 ++ [(⟨1, x17, r14.1, 0⟩ : Palingref35_Hop)], wr_i64 (v7 + 1)))
    else
     none
   else
    some (Sum.inl (l6, wr_i64 (v7 + 1)))
  else
   none
 else
  some (Sum.inr l6)

def palingref35_Hops_L2 (a1 : Api_Net) (a2 : Int) (l27 : List Palingref35_Hop) (v28 : Int) : Option (((List Palingref35_Hop) × Int) ⊕ ((List Palingref35_Hop))) :=
 (nth a1.domains a2).bind fun x29 =>
 if (decide (v28 < (x29.peers.length : Int))) = true then
  (nth a1.domains a2).bind fun x32 =>
  (nth x32.peers v28).bind fun x34 =>
  if (roomy 32 (l27 ++ [(⟨2, 0, x34, 0⟩ : Palingref35_Hop)])) = true then
   some (Sum.inl (l27 ++ [(⟨2, 0, x34, 0⟩ : Palingref35_Hop)], wr_i64 (v28 + 1)))
  else
   none
 else
  some (Sum.inr l27)

def palingref35_Hops (a1 : Api_Net) (a2 : Int) : Option (((List Palingref35_Hop))) :=
 (palingref15_Members a1 a2).bind fun r3 => match r3 with
 | l5 =>
  (loopM (fun s : (List Palingref35_Hop) × Int => match s with | (l6, v7) => palingref35_Hops_L1 a1 a2 l5 l6 v7) ([], 0)).bind fun r26 => match r26 with
  | l24 =>
   (loopM (fun s : (List Palingref35_Hop) × Int => match s with | (l27, v28) => palingref35_Hops_L2 a1 a2 l27 v28) (l24, 0)).bind fun r41 => match r41 with
   | l39 =>
    some l39

def palingref35_Steps_L1 (a1 : Api_Net) (a2 : Int) (l3 : List Int) (v4 : Int) : Option (((List Int) × Int) ⊕ ((List Int))) :=
 if (decide (v4 < (a1.domains.length : Int))) = true then
  if (roomy 8 (l3 ++ [((-1) : Int)])) = true then
   some (Sum.inl (l3 ++ [((-1) : Int)], wr_i64 (v4 + 1)))
  else
   none
 else
  some (Sum.inr l3)

def palingref35_Steps_L4 (a1 : Api_Net) (l11 : List Int) (v18 : Int) (v21 : Int) (l25 : List Palingref35_Hop) (l26 : List Int) (v27 : Int) : Option (((List Int) × Int) ⊕ ((List Int))) :=
 if (decide (v27 < ((List.length l25) : Int))) = true then
  if (lin l25 v27) = true then
   (l25[(Int.toNat v27)]?).bind fun x30 =>
   if (lin l26 v21) = true then
    (l26[(Int.toNat v21)]?).bind fun x33 =>
    if (decide (x33 ≥ 0)) = true then
     if (lin l26 x30.domain) = true then
      (l26[(Int.toNat x30.domain)]?).bind fun x37 =>
      if (decide (x37 < 0)) = true then
       (l26[(Int.toNat v21)]?).bind fun x40 =>
       (l26[(Int.toNat x30.domain)]?).bind fun x42 =>
       some (Sum.inl (List.set l26 (Int.toNat x30.domain) (wr_i64 (x40 + 1) : Int), wr_i64 (v27 + 1)))
      else
       (l26[(Int.toNat v21)]?).bind fun x44 =>
       (l26[(Int.toNat x30.domain)]?).bind fun x46 =>
       if (decide ((wr_i64 (x44 + 1)) < x46)) = true then
        (l26[(Int.toNat v21)]?).bind fun x49 =>
        (l26[(Int.toNat x30.domain)]?).bind fun x51 =>
        some (Sum.inl (List.set l26 (Int.toNat x30.domain) (wr_i64 (x49 + 1) : Int), wr_i64 (v27 + 1)))
       else
        some (Sum.inl (l26, wr_i64 (v27 + 1)))
     else
      none
    else
     some (Sum.inl (l26, wr_i64 (v27 + 1)))
   else
    none
  else
   none
 else
  some (Sum.inr l26)

def palingref35_Steps_L3 (a1 : Api_Net) (l11 : List Int) (v18 : Int) (l20 : List Int) (v21 : Int) : Option (((List Int) × Int) ⊕ ((List Int))) :=
 if (decide (v21 < (a1.domains.length : Int))) = true then
  (palingref35_Hops a1 v21).bind fun r23 => match r23 with
  | l25 =>
   (loopM (fun s : (List Int) × Int => match s with | (l26, v27) => palingref35_Steps_L4 a1 l11 v18 v21 l25 l26 v27) (l20, 0)).bind fun r60 => match r60 with
   | l58 =>
    some (Sum.inl (l58, wr_i64 (v21 + 1)))
 else
  some (Sum.inr l20)

def palingref35_Steps_L2 (a1 : Api_Net) (l11 : List Int) (l17 : List Int) (v18 : Int) : Option (((List Int) × Int) ⊕ ((List Int))) :=
 if (decide (v18 < (a1.domains.length : Int))) = true then
  (loopM (fun s : (List Int) × Int => match s with | (l20, v21) => palingref35_Steps_L3 a1 l11 v18 l20 v21) (l17, 0)).bind fun r67 => match r67 with
  | l65 =>
   some (Sum.inl (l65, wr_i64 (v18 + 1)))
 else
  some (Sum.inr l17)

def palingref35_Steps (a1 : Api_Net) (a2 : Int) : Option (((List Int) × Nat)) :=
 (loopM (fun s : (List Int) × Int => match s with | (l3, v4) => palingref35_Steps_L1 a1 a2 l3 v4) ([], 0)).bind fun r13 => match r13 with
 | l11 =>
  if (lin l11 a2) = true then
   (l11[(Int.toNat a2)]?).bind fun x15 =>
   (loopM (fun s : (List Int) × Int => match s with | (l17, v18) => palingref35_Steps_L2 a1 l11 l17 v18) (List.set l11 (Int.toNat a2) (0 : Int), 0)).bind fun r72 => match r72 with
   | l70 =>
    some (l70, (List.length l11))
  else
   none

def palingref18_Hosts_L1 (a1 : Api_Net) (l5 : List Int) (l6 : List Int) (v7 : Int) : Option (((List Int) × Int) ⊕ ((List Int))) :=
 if (decide (v7 < ((List.length l5) : Int))) = true then
  if (lin l5 v7) = true then
   (l5[(Int.toNat v7)]?).bind fun x10 =>
   (nth a1.ports x10).bind fun x12 =>
   if (x12.link == (-1)) = true then
    (l5[(Int.toNat v7)]?).bind fun x15 =>
    if (roomy 8 (l6 ++ [x15])) = true then
     some (Sum.inl (l6 ++ [x15], wr_i64 (v7 + 1)))
    else
     none
   else
    some (Sum.inl (l6, wr_i64 (v7 + 1)))
  else
   none
 else
  some (Sum.inr l6)

def palingref18_Hosts (a1 : Api_Net) (a2 : Int) : Option (((List Int))) :=
 (palingref15_Members a1 a2).bind fun r3 => match r3 with
 | l5 =>
  (loopM (fun s : (List Int) × Int => match s with | (l6, v7) => palingref18_Hosts_L1 a1 l5 l6 v7) ([], 0)).bind fun r22 => match r22 with
  | l20 =>
   some l20

def palingref47_heard_L1 (a1 : Api_Net) (l5 : List Int) (n6 : Nat) (v7 : Int) : Option ((Int) ⊕ (Unit ⊕ Unit)) :=
 if (decide (v7 < (n6 : Int))) = true then
  if (lin l5 v7) = true then
   (l5[(Int.toNat v7)]?).bind fun x10 =>
   if (decide (x10 ≥ 0)) = true then
    (palingref18_Hosts a1 v7).bind fun r13 => match r13 with
    | l15 =>
     if (decide (((List.length l15) : Int) > 0)) = true then
      some (Sum.inr (Sum.inl ()))
     else
      some (Sum.inl (wr_i64 (v7 + 1)))
   else
    some (Sum.inl (wr_i64 (v7 + 1)))
  else
   none
 else
  some (Sum.inr (Sum.inr ()))

def palingref47_heard (a1 : Api_Net) (a2 : Int) : Option (Bool) :=
 (palingref35_Steps a1 a2).bind fun r3 => match r3 with
 | (l5, n6) =>
  (loopM (palingref47_heard_L1 a1 l5 n6) 0).bind fun r18 => match r18 with
  | Sum.inl () =>
   some true
  | Sum.inr () =>
   some false

def palingref47_domains_J2 (a1 : Api_Net) (l2 : List Palingref47_Note) (l3 : List Palingref47_Note) (v4 : Int) (x6 : Api_Domain) : Option ((List Palingref47_Note)) :=
 if (decide (x6.vni > 0)) = true then
  if ((x6.peers.length : Int) == 0) = true then
   if (roomy 32 (l2 ++ [(⟨3, x6.row, v4, x6.vni⟩ : Palingref47_Note)])) = true then
    some (l2 ++ [(⟨3, x6.row, v4, x6.vni⟩ : Palingref47_Note)])
   else
    none
  else
   some l2
 else
  some l2

def palingref47_domains_L1 (a1 : Api_Net) (l2 : List Palingref47_Note) (l3 : List Palingref47_Note) (v4 : Int) : Option (((List Palingref47_Note) × (List Palingref47_Note) × Int) ⊕ (((List Palingref47_Note) × (List Palingref47_Note)))) :=
 if (decide (v4 < (a1.domains.length : Int))) = true then
  (nth a1.domains v4).bind fun x6 =>
  (palingref47_domains_J2 a1 l2 l3 v4 x6).bind fun r19 => match r19 with
  | l17 =>
   (palingref47_heard a1 v4).bind fun r20 =>
   if (!r20) = true then
    if (roomy 32 (l3 ++ [(⟨4, 0, v4, x6.vlan⟩ : Palingref47_Note)])) = true then
     some (Sum.inl (l17, l3 ++ [(⟨4, 0, v4, x6.vlan⟩ : Palingref47_Note)], wr_i64 (v4 + 1)))
    else
     none
   else
    some (Sum.inl (l17, l3, wr_i64 (v4 + 1)))
 else
  some (Sum.inr (l2, l3))

def palingref47_domains (a1 : Api_Net) : Option (((List Palingref47_Note))) :=
 (loopM (fun s : (List Palingref47_Note) × (List Palingref47_Note) × Int => match s with | (l2, l3, v4) => palingref47_domains_L1 a1 l2 l3 v4) ([], [], 0)).bind fun r33 => match r33 with
 | (l30, l31) =>
  if (roomy 32 (l30 ++ l31)) = true then
   some (l30 ++ l31)
  else
   none

def palingref47_records_L2 (a1 : Api_Net) (l2 : List Palingref47_Note) (v3 : Int) (v5 : Bool) (v6 : Int) : Option ((Bool × Int) ⊕ (Bool)) :=
 if (decide (v6 < (a1.irbs.length : Int))) = true then
  if (v5) = true then
   some (Sum.inl (true, wr_i64 (v6 + 1)))
  else
   (nth a1.irbs v6).bind fun x9 =>
   some (Sum.inl (x9.vrf == v3, wr_i64 (v6 + 1)))
 else
  some (Sum.inr v5)

def palingref47_records_L1 (a1 : Api_Net) (l2 : List Palingref47_Note) (v3 : Int) : Option (((List Palingref47_Note) × Int) ⊕ ((List Palingref47_Note))) :=
 if (decide (v3 < (a1.vrfs.length : Int))) = true then
  (loopM (fun s : Bool × Int => match s with | (v5, v6) => palingref47_records_L2 a1 l2 v3 v5 v6) (false, 0)).bind fun r14 => match r14 with
  | v12 =>
   if (!v12) = true then
    (nth a1.vrfs v3).bind fun x16 =>
    (nth a1.vrfs v3).bind fun x18 =>
    if (roomy 32 (l2 ++ [(⟨5, x16.row, v3, x18.dev⟩ : Palingref47_Note)])) = true then
     some (Sum.inl (l2 ++ [(⟨5, x16.row, v3, x18.dev⟩ : Palingref47_Note)], wr_i64 (v3 + 1)))
    else
     none
   else
    some (Sum.inl (l2, wr_i64 (v3 + 1)))
 else
  some (Sum.inr l2)

def palingref47_records_L3 (a1 : Api_Net) (l27 : List Palingref47_Note) (v28 : Int) : Option (((List Palingref47_Note) × Int) ⊕ ((List Palingref47_Note))) :=
 if (decide (v28 < (a1.statics.length : Int))) = true then
  (nth a1.statics v28).bind fun x30 =>
  (nth a1.ports x30.port).bind fun x32 =>
  if (x32.link != (-1)) = true then
   (nth a1.statics v28).bind fun x35 =>
   (nth a1.statics v28).bind fun x37 =>
   if (roomy 32 (l27 ++ [(⟨6, x35.row, v28, x37.port⟩ : Palingref47_Note)])) = true then
    some (Sum.inl (l27 ++ [(⟨6, x35.row, v28, x37.port⟩ : Palingref47_Note)], wr_i64 (v28 + 1)))
   else
    none
  else
   some (Sum.inl (l27, wr_i64 (v28 + 1)))
 else
  some (Sum.inr l27)

def palingref47_records_L5 (a1 : Api_Net) (l46 : List Palingref47_Note) (v47 : Int) (v49 : Int) (v50 : Int) : Option ((Int × Int) ⊕ (Int)) :=
 if (decide (v50 < (a1.ports.length : Int))) = true then
  (nth a1.ports v50).bind fun x52 =>
  if (x52.dev == v47) = true then
   some (Sum.inl (wr_i64 (v49 + 1), wr_i64 (v50 + 1)))
  else
   some (Sum.inl (v49, wr_i64 (v50 + 1)))
 else
  some (Sum.inr v49)

def palingref47_records_L4 (a1 : Api_Net) (l46 : List Palingref47_Note) (v47 : Int) : Option (((List Palingref47_Note) × Int) ⊕ ((List Palingref47_Note))) :=
 if (decide (v47 < (a1.devices.length : Int))) = true then
  (loopM (fun s : Int × Int => match s with | (v49, v50) => palingref47_records_L5 a1 l46 v47 v49 v50) (0, 0)).bind fun r58 => match r58 with
  | v56 =>
   if (v56 == 0) = true then
    (nth a1.devices v47).bind fun x60 =>
    if (roomy 32 (l46 ++ [(⟨7, x60.row, v47, 0⟩ : Palingref47_Note)])) = true then
     some (Sum.inl (l46 ++ [(⟨7, x60.row, v47, 0⟩ : Palingref47_Note)], wr_i64 (v47 + 1)))
    else
     none
   else
    some (Sum.inl (l46, wr_i64 (v47 + 1)))
 else
  some (Sum.inr l46)

def palingref47_records (a1 : Api_Net) : Option (((List Palingref47_Note))) :=
 (loopM (fun s : (List Palingref47_Note) × Int => match s with | (l2, v3) => palingref47_records_L1 a1 l2 v3) ([], 0)).bind fun r26 => match r26 with
 | l24 =>
  (loopM (fun s : (List Palingref47_Note) × Int => match s with | (l27, v28) => palingref47_records_L3 a1 l27 v28) (l24, 0)).bind fun r45 => match r45 with
  | l43 =>
   (loopM (fun s : (List Palingref47_Note) × Int => match s with | (l46, v47) => palingref47_records_L4 a1 l46 v47) (l43, 0)).bind fun r67 => match r67 with
   | l65 =>
    some l65

def palingref02_Right (a1 : Api_Prefix) : Option (Bool) :=
 if (decide (a1.bits ≥ 0)) = true then
  some (decide (a1.bits ≤ 32))
 else
  some false

def palingref02_size_L1 (v2 : Int) (v3 : Int) : Option ((Int × Int) ⊕ (Int)) :=
 if (decide (v3 < 32)) = true then
  some (Sum.inl (wr_i64 (v2 * 2), wr_i64 (v3 + 1)))
 else
  some (Sum.inr v2)

def palingref02_size (a1 : Api_Prefix) : Option (Int) :=
 (loopM (fun s : Int × Int => match s with | (v2, v3) => palingref02_size_L1 v2 v3) (1, a1.bits)).bind fun r8 => match r8 with
 | v6 =>
  some v6

def palingref02_First (a1 : Api_Prefix) : Option (Int) :=
 (palingref02_Right a1).bind fun r2 =>
 if (!r2) = true then
  some 0
 else
  (palingref02_size a1).bind fun r5 =>
  if (r5 != 0) = true then
   (palingref02_size a1).bind fun r8 =>
   some (wr_u32 (wr_i64 ((wr_i64 (Int.tdiv (wr_i64 a1.addr) r5)) * r8)))
  else
   none

def palingref02_Last (a1 : Api_Prefix) : Option (Int) :=
 (palingref02_Right a1).bind fun r2 =>
 if (!r2) = true then
  some 0
 else
  (palingref02_First a1).bind fun r5 =>
  (palingref02_size a1).bind fun r7 =>
  some (wr_u32 (wr_i64 ((wr_i64 ((wr_i64 r5) + r7)) - 1)))

def palingref30_device (a1 : Api_Net) (a2 : Int) : Option (Int) :=
 (nth a1.irbs a2).bind fun x3 =>
 (nth a1.domains x3.domain).bind fun x5 =>
 some x5.dev

def palingref02_Has (a1 : Api_Prefix) (a2 : Int) : Option (Bool) :=
 (palingref02_Right a1).bind fun r3 =>
 if (r3) = true then
  (palingref02_First a1).bind fun r6 =>
  if (decide (a2 ≥ r6)) = true then
   (palingref02_Last a1).bind fun r9 =>
   some (decide (a2 ≤ r9))
  else
   some false
 else
  some false

def palingref20_Leaks_L1 (a1 : Api_Net) (a2 : Int) (a3 : Int) (v11 : Int) : Option ((Int) ⊕ (Unit ⊕ Unit)) :=
 (nth a1.vrfs a2).bind fun x12 =>
 if (decide (v11 < (x12.exports.length : Int))) = true then
  (nth a1.vrfs a2).bind fun x15 =>
  (nth a1.vrfs a3).bind fun x17 =>
  if (x15.dev == x17.dev) = true then
   (nth a1.vrfs a3).bind fun x20 =>
   (nth a1.vrfs a2).bind fun x22 =>
   (nth x22.exports v11).bind fun x24 =>
   (palingref15_In x20.imports x24).bind fun r26 =>
   if (r26) = true then
    some (Sum.inr (Sum.inl ()))
   else
    some (Sum.inl (wr_i64 (v11 + 1)))
  else
   some (Sum.inl (wr_i64 (v11 + 1)))
 else
  some (Sum.inr (Sum.inr ()))

def palingref20_Leaks (a1 : Api_Net) (a2 : Int) (a3 : Int) : Option (Bool) :=
 (palingref15_Place a2 (a1.vrfs.length : Int)).bind fun r4 =>
 if (!r4) = true then
  some false
 else
  (palingref15_Place a3 (a1.vrfs.length : Int)).bind fun r7 =>
  if (!r7) = true then
   some false
  else
   if (a2 == a3) = true then
    some true
   else
    (loopM (palingref20_Leaks_L1 a1 a2 a3) 0).bind fun r30 => match r30 with
    | Sum.inl () =>
     some true
    | Sum.inr () =>
     some false

def palingref30_better (a1 : Api_Net) (a2 : Int) (a3 : Int) (a4 : Int) : Option (Bool) :=
 (nth a1.irbs a3).bind fun x5 =>
 (nth a1.irbs a4).bind fun x7 =>
 if (x5.net.bits != x7.net.bits) = true then
  (nth a1.irbs a3).bind fun x10 =>
  (nth a1.irbs a4).bind fun x12 =>
  some (decide (x10.net.bits > x12.net.bits))
 else
  (nth a1.irbs a3).bind fun x14 =>
  (nth a1.irbs a2).bind fun x16 =>
  if (x14.vrf == x16.vrf) = true then
   (nth a1.irbs a4).bind fun x19 =>
   (nth a1.irbs a2).bind fun x21 =>
   some (x19.vrf != x21.vrf)
  else
   some false

def palingref30_Lookup_L1 (a1 : Api_Net) (a2 : Int) (a3 : Int) (v7 : Int) (v8 : Int) : Option ((Int × Int) ⊕ (Unit ⊕ Int)) :=
 if (decide (v8 < (a1.irbs.length : Int))) = true then
  (palingref30_device a1 v8).bind fun r10 =>
  (palingref30_device a1 a2).bind fun r12 =>
  if (r10 != r12) = true then
   some (Sum.inl (v7, wr_i64 (v8 + 1)))
  else
   (nth a1.irbs v8).bind fun x15 =>
   if (x15.net.addr == a3) = true then
    some (Sum.inr (Sum.inl ()))
   else
    (nth a1.irbs v8).bind fun x18 =>
    (palingref02_Has x18.net a3).bind fun r20 =>
    if (!r20) = true then
     some (Sum.inl (v7, wr_i64 (v8 + 1)))
    else
     (nth a1.irbs v8).bind fun x23 =>
     (nth a1.irbs a2).bind fun x25 =>
     (palingref20_Leaks a1 x23.vrf x25.vrf).bind fun r27 =>
     if (!r27) = true then
      some (Sum.inl (v7, wr_i64 (v8 + 1)))
     else
      if (decide (v7 < 0)) = true then
       some (Sum.inl (v8, wr_i64 (v8 + 1)))
      else
       (palingref30_better a1 a2 v8 v7).bind fun r31 =>
       if (r31) = true then
        some (Sum.inl (v8, wr_i64 (v8 + 1)))
       else
        some (Sum.inl (v7, wr_i64 (v8 + 1)))
 else
  some (Sum.inr (Sum.inr v7))

def palingref30_Lookup (a1 : Api_Net) (a2 : Int) (a3 : Int) : Option (Int × Bool) :=
 (palingref15_Place a2 (a1.irbs.length : Int)).bind fun r4 =>
 if (!r4) = true then
  some (0, false)
 else
  (loopM (fun s : Int × Int => match s with | (v7, v8) => palingref30_Lookup_L1 a1 a2 a3 v7 v8) ((-1), 0)).bind fun r37 => match r37 with
  | Sum.inl () =>
   some (0, false)
  | Sum.inr v35 =>
   if (decide (v35 < 0)) = true then
    some (0, false)
   else
    some (v35, true)

def palingref36_taken_L1 (a1 : Api_Net) (a2 : Int) (v3 : Int) : Option ((Int) ⊕ (Unit ⊕ Unit)) :=
 if (decide (v3 < (a1.irbs.length : Int))) = true then
  (nth a1.irbs v3).bind fun x5 =>
  if (x5.net.addr == a2) = true then
   some (Sum.inr (Sum.inl ()))
  else
   some (Sum.inl (wr_i64 (v3 + 1)))
 else
  some (Sum.inr (Sum.inr ()))

def palingref36_taken (a1 : Api_Net) (a2 : Int) : Option (Bool) :=
 (loopM (palingref36_taken_L1 a1 a2) 0).bind fun r9 => match r9 with
 | Sum.inl () =>
  some true
 | Sum.inr () =>
  some false

def palingref36_Leads (a1 : Api_Net) (a2 : Int) (a3 : Int) (a4 : Int) : Option (Bool) :=
 (palingref30_Lookup a1 a2 a4).bind fun r5 =>
 if (r5.2) = true then
  if (r5.1 == a3) = true then
   (palingref36_taken a1 a4).bind fun r9 =>
   some (!r9)
  else
   some false
 else
  some false

def palingref36_Address_L1 (a1 : Api_Net) (a2 : Int) (a3 : Int) (l14 : List Int) (v15 : Int) : Option (((List Int) × Int) ⊕ ((List Int))) :=
 if (decide (v15 < (a1.irbs.length : Int))) = true then
  (nth a1.irbs v15).bind fun x17 =>
  (nth a1.irbs v15).bind fun x19 =>
  (palingref02_Last x19.net).bind fun r21 =>
  if (roomy 8 (l14 ++ [(wr_i64 ((wr_i64 x17.net.addr) + 1) : Int), (wr_i64 ((wr_i64 r21) + 1) : Int)])) = true then
   some (Sum.inl (l14 ++ [(wr_i64 ((wr_i64 x17.net.addr) + 1) : Int), (wr_i64 ((wr_i64 r21) + 1) : Int)], wr_i64 (v15 + 1)))
  else
   none
 else
  some (Sum.inr l14)

def palingref36_Address_L2 (a1 : Api_Net) (a2 : Int) (a3 : Int) (l31 : List Int) (v34 : Int) (v35 : Int) : Option ((Int × Int) ⊕ (Int)) :=
 if (decide (v35 < ((List.length l31) : Int))) = true then
  if (lin l31 v35) = true then
   (l31[(Int.toNat v35)]?).bind fun x38 =>
   if (decide (x38 < 4294967296)) = true then
    if (decide (v34 < 0)) = true then
     (palingref36_Leads a1 a2 a3 (wr_u32 x38)).bind fun r42 =>
     if (r42) = true then
      some (Sum.inl (x38, wr_i64 (v35 + 1)))
     else
      some (Sum.inl (v34, wr_i64 (v35 + 1)))
    else
     if (decide (x38 < v34)) = true then
      (palingref36_Leads a1 a2 a3 (wr_u32 x38)).bind fun r46 =>
      if (r46) = true then
       some (Sum.inl (x38, wr_i64 (v35 + 1)))
      else
       some (Sum.inl (v34, wr_i64 (v35 + 1)))
     else
      some (Sum.inl (v34, wr_i64 (v35 + 1)))
   else
    some (Sum.inl (v34, wr_i64 (v35 + 1)))
  else
   none
 else
  some (Sum.inr v34)

def palingref36_Address (a1 : Api_Net) (a2 : Int) (a3 : Int) : Option (Int × Bool) :=
 (palingref15_Place a2 (a1.irbs.length : Int)).bind fun r4 =>
 if (!r4) = true then
  some (0, false)
 else
  (palingref15_Place a3 (a1.irbs.length : Int)).bind fun r7 =>
  if (!r7) = true then
   some (0, false)
  else
   (nth a1.irbs a3).bind fun x10 =>
   (palingref02_First x10.net).bind fun r12 =>
   (loopM (fun s : (List Int) × Int => match s with | (l14, v15) => palingref36_Address_L1 a1 a2 a3 l14 v15) ([(wr_i64 r12 : Int)], 0)).bind fun r33 => match r33 with
   | l31 =>
    (loopM (fun s : Int × Int => match s with | (v34, v35) => palingref36_Address_L2 a1 a2 a3 l31 v34 v35) ((-1), 0)).bind fun r52 => match r52 with
    | v50 =>
     if (decide (v50 < 0)) = true then
      some (0, false)
     else
      some (wr_u32 v50, true)

def palingref47_edges_J3 (a1 : Api_Net) (v3 : Int) (l5 : List Palingref47_Note) (v6 : Int) (r8 : Int × Bool) : Option (Bool) :=
 if (r8.2) = true then
  (nth a1.irbs v3).bind fun x11 =>
  (nth a1.irbs v6).bind fun x13 =>
  some (x11.vrf != x13.vrf)
 else
  some false

def palingref47_edges_L2 (a1 : Api_Net) (v3 : Int) (l5 : List Palingref47_Note) (v6 : Int) : Option (((List Palingref47_Note) × Int) ⊕ ((List Palingref47_Note))) :=
 if (decide (v6 < (a1.irbs.length : Int))) = true then
  (palingref36_Address a1 v3 v6).bind fun r8 =>
  (palingref47_edges_J3 a1 v3 l5 v6 r8).bind fun r18 => match r18 with
  | v16 =>
   if (v16) = true then
    (nth a1.irbs v3).bind fun x20 =>
    if (roomy 32 (l5 ++ [(⟨8, x20.row, v3, v6⟩ : Palingref47_Note)])) = true then
     some (Sum.inl (l5 ++ [(⟨8, x20.row, v3, v6⟩ : Palingref47_Note)], wr_i64 (v6 + 1)))
    else
     none
   else
    some (Sum.inl (l5, wr_i64 (v6 + 1)))
 else
  some (Sum.inr l5)

def palingref47_edges_L1 (a1 : Api_Net) (l2 : List Palingref47_Note) (v3 : Int) : Option (((List Palingref47_Note) × Int) ⊕ ((List Palingref47_Note))) :=
 if (decide (v3 < (a1.irbs.length : Int))) = true then
  (loopM (fun s : (List Palingref47_Note) × Int => match s with | (l5, v6) => palingref47_edges_L2 a1 v3 l5 v6) (l2, 0)).bind fun r29 => match r29 with
  | l27 =>
   some (Sum.inl (l27, wr_i64 (v3 + 1)))
 else
  some (Sum.inr l2)

def palingref47_edges_J5 (a1 : Api_Net) (l36 : List Palingref47_Note) (v37 : Int) : Option (Bool) :=
 (nth a1.ports v37).bind fun x39 =>
 if (x39.link == (-1)) = true then
  (nth a1.ports v37).bind fun x42 =>
  (palingref47_vlans x42).bind fun r44 => match r44 with
  | r46 =>
   some (decide ((r46.length : Int) > 1))
 else
  some false

def palingref47_edges_L4 (a1 : Api_Net) (l36 : List Palingref47_Note) (v37 : Int) : Option (((List Palingref47_Note) × Int) ⊕ ((List Palingref47_Note))) :=
 if (decide (v37 < (a1.ports.length : Int))) = true then
  (palingref47_edges_J5 a1 l36 v37).bind fun r50 => match r50 with
  | v48 =>
   if (v48) = true then
    (nth a1.ports v37).bind fun x52 =>
    (nth a1.ports v37).bind fun x54 =>
    (palingref47_vlans x54).bind fun r56 => match r56 with
    | r58 =>
     if (roomy 32 (l36 ++ [(⟨9, x52.row, v37, (r58.length : Int)⟩ : Palingref47_Note)])) = true then
      some (Sum.inl (l36 ++ [(⟨9, x52.row, v37, (r58.length : Int)⟩ : Palingref47_Note)], wr_i64 (v37 + 1)))
     else
      none
   else
    some (Sum.inl (l36, wr_i64 (v37 + 1)))
 else
  some (Sum.inr l36)

def palingref47_edges (a1 : Api_Net) : Option (((List Palingref47_Note))) :=
 (loopM (fun s : (List Palingref47_Note) × Int => match s with | (l2, v3) => palingref47_edges_L1 a1 l2 v3) ([], 0)).bind fun r35 => match r35 with
 | l33 =>
  (loopM (fun s : (List Palingref47_Note) × Int => match s with | (l36, v37) => palingref47_edges_L4 a1 l36 v37) (l33, 0)).bind fun r64 => match r64 with
  | l62 =>
   some l62

def palingref47_All (a1 : Api_Net) : Option (((List Palingref47_Note) × Int)) :=
 (palingref15_Right a1).bind fun r2 =>
 if (!r2) = true then
  some ([], 2)
 else
  (palingref47_shifted a1).bind fun r5 => match r5 with
  | l7 =>
   (palingref47_lopsided a1).bind fun r8 => match r8 with
   | l10 =>
    if (roomy 32 (l7 ++ l10)) = true then
     (palingref47_domains a1).bind fun r12 => match r12 with
     | l14 =>
      if (roomy 32 ((l7 ++ l10) ++ l14)) = true then
       (palingref47_records a1).bind fun r16 => match r16 with
       | l18 =>
        if (roomy 32 (((l7 ++ l10) ++ l14) ++ l18)) = true then
         (palingref47_edges a1).bind fun r20 => match r20 with
         | l22 =>
          if (roomy 32 ((((l7 ++ l10) ++ l14) ++ l18) ++ l22)) = true then
           some ((((l7 ++ l10) ++ l14) ++ l18) ++ l22, 0)
          else
           none
        else
         none
      else
       none
    else
     none

def palingref44_Port (a1 : Api_Net) (a2 : Int) : Option (ByteArray) :=
 (palingref15_Place a2 (a1.ports.length : Int)).bind fun r3 =>
 if (!r3) = true then
  some (⟨#[]⟩ : ByteArray)
 else
  (nth a1.ports a2).bind fun x6 =>
  (nth a1.devices x6.dev).bind fun x8 =>
  if (sadok x8.name (⟨#[46]⟩ : ByteArray)) = true then
   (nth a1.ports a2).bind fun x11 =>
   if (sadok (x8.name ++ (⟨#[46]⟩ : ByteArray)) x11.name) = true then
    some ((x8.name ++ (⟨#[46]⟩ : ByteArray)) ++ x11.name)
   else
    none
  else
   none

def palingref03_digits_L1 (v2 : Int) (v3 : ByteArray) : Option ((Int × ByteArray) ⊕ ((Int × ByteArray))) :=
 if (decide (v2 ≥ 10)) = true then
  if (sadok (bstr [(wr_u8 (wr_u64 (48 + (Int.tmod v2 10))) : Int)]) v3) = true then
   some (Sum.inl (wr_u64 (Int.tdiv v2 10), (bstr [(wr_u8 (wr_u64 (48 + (Int.tmod v2 10))) : Int)]) ++ v3))
  else
   none
 else
  some (Sum.inr (v2, v3))

def palingref03_digits (a1 : Int) : Option (ByteArray) :=
 (loopM (fun s : Int × ByteArray => match s with | (v2, v3) => palingref03_digits_L1 v2 v3) (a1, (⟨#[]⟩ : ByteArray))).bind fun r11 => match r11 with
 | (v8, v9) =>
  if (sadok (bstr [(wr_u8 (wr_u64 (48 + v8)) : Int)]) v9) = true then
   some ((bstr [(wr_u8 (wr_u64 (48 + v8)) : Int)]) ++ v9)
  else
   none

def palingref03_Text (a1 : Int) : Option (ByteArray) :=
 if (decide (a1 < 0)) = true then
  (palingref03_digits (wr_u64 ((wr_u64 (wr_i64 (0 - (wr_i64 (a1 + 1))))) + 1))).bind fun r3 =>
  if (sadok (⟨#[45]⟩ : ByteArray) r3) = true then
   some ((⟨#[45]⟩ : ByteArray) ++ r3)
  else
   none
 else
  (palingref03_digits (wr_u64 a1)).bind fun r6 =>
  some r6

def palingref18_Text (a1 : Api_Net) (a2 : Int) : Option (ByteArray) :=
 (palingref15_Place a2 (a1.domains.length : Int)).bind fun r3 =>
 if (!r3) = true then
  some (⟨#[]⟩ : ByteArray)
 else
  (nth a1.domains a2).bind fun x6 =>
  (nth a1.devices x6.dev).bind fun x8 =>
  if (sadok x8.name (⟨#[47]⟩ : ByteArray)) = true then
   (palingref03_Text x6.vlan).bind fun r11 =>
   if (sadok (x8.name ++ (⟨#[47]⟩ : ByteArray)) r11) = true then
    some ((x8.name ++ (⟨#[47]⟩ : ByteArray)) ++ r11)
   else
    none
  else
   none

def palingref47_Text_J1 (a1 : Api_Net) (a2 : Palingref47_Note) : Option (ByteArray) :=
 (palingref15_Right a1).bind fun r5 =>
 if (r5) = true then
  if (a2.kind == 2) = true then
   (palingref44_Port a1 a2.a).bind fun r9 =>
   some r9
  else
   if (a2.kind == 9) = true then
    (palingref44_Port a1 a2.a).bind fun r12 =>
    some r12
   else
    some (⟨#[]⟩ : ByteArray)
 else
  some (⟨#[]⟩ : ByteArray)

def palingref47_Text_J2 (a1 : Api_Net) (a2 : Palingref47_Note) (v15 : ByteArray) : Option (ByteArray) :=
 (palingref15_Right a1).bind fun r18 =>
 if (r18) = true then
  if (a2.kind == 3) = true then
   (palingref18_Text a1 a2.a).bind fun r22 =>
   some r22
  else
   if (a2.kind == 4) = true then
    (palingref18_Text a1 a2.a).bind fun r25 =>
    some r25
   else
    some v15
 else
  some v15

def palingref47_Text_J3 (a1 : Api_Net) (a2 : Palingref47_Note) (v28 : ByteArray) : Option (ByteArray) :=
 if (seqB v28 (⟨#[]⟩ : ByteArray)) = true then
  (palingref03_Text a2.a).bind fun r32 =>
  some r32
 else
  some v28

def palingref47_Text_J4 (a1 : Api_Net) (a2 : Palingref47_Note) (v35 : ByteArray) : Option (ByteArray) :=
 (palingref15_Right a1).bind fun r38 =>
 if (r38) = true then
  if (a2.kind == 7) = true then
   (palingref15_Place a2.a (a1.devices.length : Int)).bind fun r42 =>
   if (r42) = true then
    (nth a1.devices a2.a).bind fun x45 =>
    some x45.name
   else
    some v35
  else
   some v35
 else
  some v35

def palingref47_Text (a1 : Api_Net) (a2 : Palingref47_Note) : Option (ByteArray) :=
 if (decide (a2.kind < 1)) = true then
  some (⟨#[]⟩ : ByteArray)
 else
  if (decide (a2.kind > 9)) = true then
   some (⟨#[]⟩ : ByteArray)
  else
   (palingref47_Text_J1 a1 a2).bind fun r17 => match r17 with
   | v15 =>
    (palingref47_Text_J2 a1 a2 v15).bind fun r30 => match r30 with
    | v28 =>
     (palingref47_Text_J3 a1 a2 v28).bind fun r37 => match r37 with
     | v35 =>
      (palingref47_Text_J4 a1 a2 v35).bind fun r50 => match r50 with
      | v48 =>
       (palingref03_Text a2.row).bind fun r51 =>
       if (sadok r51 (⟨#[32]⟩ : ByteArray)) = true then
        if (lin [(⟨#[115, 104, 105, 102, 116, 101, 100]⟩ : ByteArray), (⟨#[108, 111, 112, 115, 105, 100, 101, 100]⟩ : ByteArray), (⟨#[108, 111, 110, 101, 108, 121]⟩ : ByteArray), (⟨#[115, 105, 108, 101, 110, 116]⟩ : ByteArray), (⟨#[117, 110, 117, 115, 101, 100]⟩ : ByteArray), (⟨#[112, 105, 110, 110, 101, 100]⟩ : ByteArray), (⟨#[98, 97, 114, 101]⟩ : ByteArray), (⟨#[108, 101, 97, 100, 105, 110, 103]⟩ : ByteArray), (⟨#[116, 114, 117, 110, 107]⟩ : ByteArray)] (wr_i64 (a2.kind - 1))) = true then
         ([(⟨#[115, 104, 105, 102, 116, 101, 100]⟩ : ByteArray), (⟨#[108, 111, 112, 115, 105, 100, 101, 100]⟩ : ByteArray), (⟨#[108, 111, 110, 101, 108, 121]⟩ : ByteArray), (⟨#[115, 105, 108, 101, 110, 116]⟩ : ByteArray), (⟨#[117, 110, 117, 115, 101, 100]⟩ : ByteArray), (⟨#[112, 105, 110, 110, 101, 100]⟩ : ByteArray), (⟨#[98, 97, 114, 101]⟩ : ByteArray), (⟨#[108, 101, 97, 100, 105, 110, 103]⟩ : ByteArray), (⟨#[116, 114, 117, 110, 107]⟩ : ByteArray)][(Int.toNat (wr_i64 (a2.kind - 1)))]?).bind fun x55 =>
         if (sadok (r51 ++ (⟨#[32]⟩ : ByteArray)) x55) = true then
          if (sadok ((r51 ++ (⟨#[32]⟩ : ByteArray)) ++ x55) (⟨#[32]⟩ : ByteArray)) = true then
           if (sadok (((r51 ++ (⟨#[32]⟩ : ByteArray)) ++ x55) ++ (⟨#[32]⟩ : ByteArray)) v48) = true then
            if (sadok ((((r51 ++ (⟨#[32]⟩ : ByteArray)) ++ x55) ++ (⟨#[32]⟩ : ByteArray)) ++ v48) (⟨#[32]⟩ : ByteArray)) = true then
             (palingref03_Text a2.b).bind fun r61 =>
             if (sadok (((((r51 ++ (⟨#[32]⟩ : ByteArray)) ++ x55) ++ (⟨#[32]⟩ : ByteArray)) ++ v48) ++ (⟨#[32]⟩ : ByteArray)) r61) = true then
              some ((((((r51 ++ (⟨#[32]⟩ : ByteArray)) ++ x55) ++ (⟨#[32]⟩ : ByteArray)) ++ v48) ++ (⟨#[32]⟩ : ByteArray)) ++ r61)
             else
              none
            else
             none
           else
            none
          else
           none
         else
          none
        else
         none
       else
        none

def palinglaw47_AuditTells_L1 (a1 : Api_Net) (a2 : Audit_Note) (l10 : List Audit_Note) (l14 : List Palingref47_Note) (v18 : Int) : Option ((Int) ⊕ (Unit ⊕ Unit)) :=
 if (decide (v18 < ((List.length l10) : Int))) = true then
  if (lin l10 v18) = true then
   (l10[(Int.toNat v18)]?).bind fun x21 =>
   if (lin l14 v18) = true then
    (l14[(Int.toNat v18)]?).bind fun x24 =>
    if (!(eq_Palingref47_Note (⟨x21.kind, x21.row, x21.a, x21.b⟩ : Palingref47_Note) x24)) = true then
     some (Sum.inr (Sum.inl ()))
    else
     (l10[(Int.toNat v18)]?).bind fun x27 =>
     (audit_Text a1 x27).bind fun r29 =>
     (l14[(Int.toNat v18)]?).bind fun x31 =>
     (palingref47_Text a1 x31).bind fun r33 =>
     if (!(seqB r29 r33)) = true then
      some (Sum.inr (Sum.inl ()))
     else
      some (Sum.inl (wr_i64 (v18 + 1)))
   else
    none
  else
   none
 else
  some (Sum.inr (Sum.inr ()))

def palinglaw47_AuditTells (a1 : Api_Net) (a2 : Audit_Note) : Option (Bool) :=
 (palinglaw44_Great a1 []).bind fun r3 =>
 if (r3) = true then
  (palinglaw47_works).bind fun r6 =>
  some r6
 else
  (audit_All a1).bind fun r8 => match r8 with
  | (l10, v11) =>
   (palingref47_All a1).bind fun r12 => match r12 with
   | (l14, v15) =>
    if (((List.length l10) : Int) != ((List.length l14) : Int)) = true then
     some false
    else
     if (v11 != v15) = true then
      some false
     else
      (loopM (palinglaw47_AuditTells_L1 a1 a2 l10 l14) 0).bind fun r37 => match r37 with
      | Sum.inl () =>
       some false
      | Sum.inr () =>
       (audit_Text a1 a2).bind fun r38 =>
       (palingref47_Text a1 (⟨a2.kind, a2.row, a2.a, a2.b⟩ : Palingref47_Note)).bind fun r40 =>
       if (seqB r38 r40) = true then
        (palinglaw47_works).bind fun r43 =>
        some r43
       else
        some false

def palinglaw47_equal_L1 (a1 : List Int) (a2 : List Int) (v4 : Int) : Option ((Int) ⊕ (Unit ⊕ Unit)) :=
 if (decide (v4 < (a1.length : Int))) = true then
  (nth a1 v4).bind fun x6 =>
  (nth a2 v4).bind fun x8 =>
  if (x6 != x8) = true then
   some (Sum.inr (Sum.inl ()))
  else
   some (Sum.inl (wr_i64 (v4 + 1)))
 else
  some (Sum.inr (Sum.inr ()))

def palinglaw47_equal (a1 : List Int) (a2 : List Int) : Option (Bool) :=
 if ((a1.length : Int) != (a2.length : Int)) = true then
  some false
 else
  (loopM (palinglaw47_equal_L1 a1 a2) 0).bind fun r12 => match r12 with
  | Sum.inl () =>
   some false
  | Sum.inr () =>
   some true

def palinglaw47_AuditEven_L1 (a1 : Api_Net) (l10 : List Audit_Note) (v13 : Bool) (v14 : Int) : Option ((Bool × Int) ⊕ (Unit ⊕ Bool)) :=
 if (decide (v14 < (a1.links.length : Int))) = true then
  (nth a1.links v14).bind fun x16 =>
  if (decide (x16.a < 0)) = true then
   some (Sum.inr (Sum.inl ()))
  else
   if (decide (x16.b < 0)) = true then
    some (Sum.inr (Sum.inl ()))
   else
    if (decide (x16.a ≥ (a1.ports.length : Int))) = true then
     some (Sum.inr (Sum.inl ()))
    else
     if (decide (x16.b ≥ (a1.ports.length : Int))) = true then
      some (Sum.inr (Sum.inl ()))
     else
      (nth a1.ports x16.a).bind fun x22 =>
      (nth a1.ports x16.b).bind fun x24 =>
      if (v13) = true then
       if (x22.native == x24.native) = true then
        (palinglaw47_equal x22.tagged x24.tagged).bind fun r28 =>
        some (Sum.inl (r28, wr_i64 (v14 + 1)))
       else
        some (Sum.inl (false, wr_i64 (v14 + 1)))
      else
       some (Sum.inl (false, wr_i64 (v14 + 1)))
 else
  some (Sum.inr (Sum.inr v13))

def palinglaw47_AuditEven_L3 (a1 : Api_Net) (l10 : List Audit_Note) (v31 : Bool) (v36 : Int) (x38 : Api_Port) (v41 : Int) (v42 : Int) (v43 : Int) : Option ((Int × Int × Int) ⊕ ((Int × Int))) :=
 if (decide (v43 < ((List.length ([x38.native] ++ x38.tagged)) : Int))) = true then
  if (lin ([x38.native] ++ x38.tagged) v43) = true then
   (([x38.native] ++ x38.tagged)[(Int.toNat v43)]?).bind fun x46 =>
   if (decide (x38.link < 0)) = true then
    some (Sum.inl (v41, v42, wr_i64 (v43 + 1)))
   else
    if (x46 == 0) = true then
     some (Sum.inl (v41, v42, wr_i64 (v43 + 1)))
    else
     (links_Cross a1 v36 x46).bind fun r50 =>
     if (r50.2.2) = true then
      some (Sum.inl (wr_i64 (v41 + 1), v42, wr_i64 (v43 + 1)))
     else
      some (Sum.inl (v41, wr_i64 (v42 + 1), wr_i64 (v43 + 1)))
  else
   none
 else
  some (Sum.inr (v41, v42))

def palinglaw47_AuditEven_L2 (a1 : Api_Net) (l10 : List Audit_Note) (v31 : Bool) (v34 : Int) (v35 : Int) (v36 : Int) : Option ((Int × Int × Int) ⊕ ((Int × Int))) :=
 if (decide (v36 < (a1.ports.length : Int))) = true then
  (nth a1.ports v36).bind fun x38 =>
  if (roomy 8 ([x38.native] ++ x38.tagged)) = true then
   (loopM (fun s : Int × Int × Int => match s with | (v41, v42, v43) => palinglaw47_AuditEven_L3 a1 l10 v31 v36 x38 v41 v42 v43) (v34, v35, 0)).bind fun r58 => match r58 with
   | (v55, v56) =>
    some (Sum.inl (v55, v56, wr_i64 (v36 + 1)))
  else
   none
 else
  some (Sum.inr (v34, v35))

def palinglaw47_AuditEven_L4 (a1 : Api_Net) (l10 : List Audit_Note) (v31 : Bool) (v61 : Int) (v62 : Int) (v65 : Int) : Option ((Int) ⊕ (Unit ⊕ Unit)) :=
 if (decide (v65 < ((List.length l10) : Int))) = true then
  if (lin l10 v65) = true then
   (l10[(Int.toNat v65)]?).bind fun x68 =>
   if (x68.kind != 2) = true then
    some (Sum.inl (wr_i64 (v65 + 1)))
   else
    (links_Cross a1 x68.a x68.b).bind fun r71 =>
    if (r71.2.2) = true then
     some (Sum.inr (Sum.inl ()))
    else
     some (Sum.inl (wr_i64 (v65 + 1)))
  else
   none
 else
  some (Sum.inr (Sum.inr ()))

def palinglaw47_AuditEven (a1 : Api_Net) : Option (Bool) :=
 (palinglaw47_works).bind fun r2 =>
 if (!r2) = true then
  some false
 else
  (palinglaw15_Great a1).bind fun r5 =>
  if (r5) = true then
   some true
  else
   (audit_All a1).bind fun r8 => match r8 with
   | (l10, v11) =>
    if (v11 != 0) = true then
     some (((List.length l10) : Int) == 0)
    else
     (loopM (fun s : Bool × Int => match s with | (v13, v14) => palinglaw47_AuditEven_L1 a1 l10 v13 v14) (true, 0)).bind fun r33 => match r33 with
     | Sum.inl () =>
      some false
     | Sum.inr v31 =>
      (loopM (fun s : Int × Int × Int => match s with | (v34, v35, v36) => palinglaw47_AuditEven_L2 a1 l10 v31 v34 v35 v36) (0, 0, 0)).bind fun r64 => match r64 with
      | (v61, v62) =>
       (loopM (palinglaw47_AuditEven_L4 a1 l10 v31 v61 v62) 0).bind fun r75 => match r75 with
       | Sum.inl () =>
        some false
       | Sum.inr () =>
        (audit_Count l10 2).bind fun r76 =>
        if (r76 == v62) = true then
         if (!v31) = true then
          some (decide (v61 ≥ 0))
         else
          if (v62 == 0) = true then
           (audit_Count l10 1).bind fun r81 =>
           if (r81 == 0) = true then
            some (decide (v61 ≥ 0))
           else
            some false
          else
           some false
        else
         some false

end Go.Eng
