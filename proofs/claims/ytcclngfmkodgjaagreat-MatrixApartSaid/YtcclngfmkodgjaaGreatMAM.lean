/- Part of the proof of MatrixApart: printed mirrors of the functions, or their contracts. No conditions. -/
import Derived.Test.YtcclngfmkodgjaaGreatEng14
set_option linter.unusedVariables false
set_option maxRecDepth 100000
namespace Go.Eng
open Go
structure Api_Device where
 row : Int
 priority : Int
 name : ByteArray
 mac : Int
 vtep : Int
 deriving DecidableEq, Inhabited

def Api_Device.Ok (x : Api_Device) : Prop := (okI .i64) x.row ∧ (okI .i64) x.priority ∧ okS x.name ∧ (okI .u64) x.mac ∧ (okI .u32) x.vtep ∧ True

structure Api_Port where
 row : Int
 dev : Int
 native : Int
 cost : Int
 link : Int
 name : ByteArray
 tagged : List Int
 deriving DecidableEq, Inhabited

def Api_Port.Ok (x : Api_Port) : Prop := (okI .i64) x.row ∧ (okI .i64) x.dev ∧ (okI .i64) x.native ∧ (okI .i64) x.cost ∧ (okI .i64) x.link ∧ okS x.name ∧ (okL (okI .i64)) x.tagged ∧ True

structure Api_Link where
 row : Int
 a : Int
 b : Int
 deriving DecidableEq, Inhabited

def Api_Link.Ok (x : Api_Link) : Prop := (okI .i64) x.row ∧ (okI .i64) x.a ∧ (okI .i64) x.b ∧ True

structure Api_Domain where
 dev : Int
 vlan : Int
 vni : Int
 irb : Int
 row : Int
 peers : List Int
 deriving DecidableEq, Inhabited

def Api_Domain.Ok (x : Api_Domain) : Prop := (okI .i64) x.dev ∧ (okI .i64) x.vlan ∧ (okI .i64) x.vni ∧ (okI .i64) x.irb ∧ (okI .i64) x.row ∧ (okL (okI .i64)) x.peers ∧ True

structure Api_Static where
 row : Int
 domain : Int
 port : Int
 mac : Int
 deriving DecidableEq, Inhabited

def Api_Static.Ok (x : Api_Static) : Prop := (okI .i64) x.row ∧ (okI .i64) x.domain ∧ (okI .i64) x.port ∧ (okI .u64) x.mac ∧ True

structure Api_Flood where
 row : Int
 dev : Int
 vni : Int
 addrs : List Int
 deriving DecidableEq, Inhabited

def Api_Flood.Ok (x : Api_Flood) : Prop := (okI .i64) x.row ∧ (okI .i64) x.dev ∧ (okI .i64) x.vni ∧ (okL (okI .u32)) x.addrs ∧ True

structure Api_Vrf where
 row : Int
 dev : Int
 name : ByteArray
 imports : List Int
 exports : List Int
 deriving DecidableEq, Inhabited

def Api_Vrf.Ok (x : Api_Vrf) : Prop := (okI .i64) x.row ∧ (okI .i64) x.dev ∧ okS x.name ∧ (okL (okI .i64)) x.imports ∧ (okL (okI .i64)) x.exports ∧ True

structure Api_Prefix where
 addr : Int
 bits : Int
 deriving DecidableEq, Inhabited

def Api_Prefix.Ok (x : Api_Prefix) : Prop := (okI .u32) x.addr ∧ (okI .i64) x.bits ∧ True

structure Api_Irb where
 row : Int
 domain : Int
 vrf : Int
 net : Api_Prefix
 deriving DecidableEq, Inhabited

def Api_Irb.Ok (x : Api_Irb) : Prop := (okI .i64) x.row ∧ (okI .i64) x.domain ∧ (okI .i64) x.vrf ∧ Api_Prefix.Ok x.net ∧ True

structure Api_Net where
 devices : List Api_Device
 ports : List Api_Port
 links : List Api_Link
 domains : List Api_Domain
 statics : List Api_Static
 floods : List Api_Flood
 vrfs : List Api_Vrf
 irbs : List Api_Irb
 deriving DecidableEq, Inhabited

def Api_Net.Ok (x : Api_Net) : Prop := (okL Api_Device.Ok) x.devices ∧ (okL Api_Port.Ok) x.ports ∧ (okL Api_Link.Ok) x.links ∧ (okL Api_Domain.Ok) x.domains ∧ (okL Api_Static.Ok) x.statics ∧ (okL Api_Flood.Ok) x.floods ∧ (okL Api_Vrf.Ok) x.vrfs ∧ (okL Api_Irb.Ok) x.irbs ∧ True

structure Names_judge where
 n : Api_Net
 deriving DecidableEq, Inhabited

def Names_judge.Ok (x : Names_judge) : Prop := Api_Net.Ok x.n ∧ True

structure Labels_Label where
 plain : Int
 led : Int
 deriving DecidableEq, Inhabited

def Labels_Label.Ok (x : Labels_Label) : Prop := (okI .i64) x.plain ∧ (okI .i64) x.led ∧ True

structure Reach_Hop where
 kind : Int
 port : Int
 domain : Int
 addr : Int
 deriving DecidableEq, Inhabited

def Reach_Hop.Ok (x : Reach_Hop) : Prop := (okI .i64) x.kind ∧ (okI .i64) x.port ∧ (okI .i64) x.domain ∧ (okI .u32) x.addr ∧ True

structure Labels_task where
 domain : Int
 deriving DecidableEq, Inhabited

def Labels_task.Ok (x : Labels_task) : Prop := (okI .i64) x.domain ∧ True

structure Labels_queued where
 task : Labels_task
 done : Bool
 deriving DecidableEq, Inhabited

def Labels_queued.Ok (x : Labels_queued) : Prop := Labels_task.Ok x.task ∧ okB x.done ∧ True

structure Choose_Lead where
 to : Int
 domain : Int
 addr : Int
 deriving DecidableEq, Inhabited

def Choose_Lead.Ok (x : Choose_Lead) : Prop := (okI .i64) x.to ∧ (okI .i64) x.domain ∧ (okI .u32) x.addr ∧ True

structure Labels_spread where
 n : Api_Net
 all : List Labels_Label
 wait : List Labels_queued
 next : List (List Int)
 leads : List (List Int)
 deriving DecidableEq, Inhabited

def Labels_spread.Ok (x : Labels_spread) : Prop := Api_Net.Ok x.n ∧ (okL Labels_Label.Ok) x.all ∧ (okL Labels_queued.Ok) x.wait ∧ (okL (okL (okI .i64))) x.next ∧ (okL (okL (okI .i64))) x.leads ∧ True

structure Matrix_Cell where
 ports : Int
 from_ : Int
 to : Int
 deriving DecidableEq, Inhabited

def Matrix_Cell.Ok (x : Matrix_Cell) : Prop := (okI .i64) x.ports ∧ (okI .i64) x.from_ ∧ (okI .i64) x.to ∧ True

structure Witness_state where
 domain : Int
 kind : Int
 deriving DecidableEq, Inhabited

def Witness_state.Ok (x : Witness_state) : Prop := (okI .i64) x.domain ∧ (okI .i64) x.kind ∧ True

structure Witness_found where
 state : Witness_state
 hop : Reach_Hop
 ahead : Int
 deriving DecidableEq, Inhabited

def Witness_found.Ok (x : Witness_found) : Prop := Witness_state.Ok x.state ∧ Reach_Hop.Ok x.hop ∧ (okI .i64) x.ahead ∧ True

def eq_Labels_Label (x y : Labels_Label) : Bool := (x.plain == y.plain && (x.led == y.led && true))

def eq_Matrix_Cell (x y : Matrix_Cell) : Bool := (x.ports == y.ports && (x.from_ == y.from_ && (x.to == y.to && true)))
structure Palingref36_Lead where
 to : Int
 domain : Int
 addr : Int
 deriving DecidableEq, Inhabited

def Palingref36_Lead.Ok (x : Palingref36_Lead) : Prop := (okI .i64) x.to ∧ (okI .i64) x.domain ∧ (okI .u32) x.addr ∧ True

def eq_Palingref36_Lead (x y : Palingref36_Lead) : Bool := (x.to == y.to && (x.domain == y.domain && (x.addr == y.addr && true)))


def names_judge_few (a1 : Names_judge) : Option (Bool) :=
 if (decide ((a1.n.devices.length : Int) ≤ 8)) = true then
  if (decide ((a1.n.ports.length : Int) ≤ 40)) = true then
   if (decide ((a1.n.links.length : Int) ≤ 20)) = true then
    if (decide ((a1.n.domains.length : Int) ≤ 48)) = true then
     if (decide ((a1.n.statics.length : Int) ≤ 64)) = true then
      if (decide ((a1.n.floods.length : Int) ≤ 48)) = true then
       if (decide ((a1.n.vrfs.length : Int) ≤ 16)) = true then
        some (decide ((a1.n.irbs.length : Int) ≤ 48))
       else
        some false
      else
       some false
     else
      some false
    else
     some false
   else
    some false
  else
   some false
 else
  some false

def names_place_Device (a1 : List Api_Device) (a2 : Int) : Option (Bool) :=
 if (decide (a2 ≥ 0)) = true then
  some (decide (a2 < (a1.length : Int)))
 else
  some false

def names_judge_domain_1 (a1 : Api_Domain) (a2 : Int) (a3 : Int) : Option (Bool) :=
 if (a1.dev == a2) = true then
  some (a1.vlan == a3)
 else
  some false

def slices_IndexFunc_Domain_judge_domain_1_L1 (a1 : List Api_Domain) (a2 : Int) (a3 : Int) (v4 : Int) : Option ((Int) ⊕ (Int ⊕ Unit)) :=
 if (decide (v4 < (a1.length : Int))) = true then
  (nth a1 v4).bind fun x6 =>
  (names_judge_domain_1 x6 a2 a3).bind fun r8 =>
  if (r8) = true then
   some (Sum.inr (Sum.inl v4))
  else
   some (Sum.inl (wr_i64 (v4 + 1)))
 else
  some (Sum.inr (Sum.inr ()))

def slices_IndexFunc_Domain_judge_domain_1 (a1 : List Api_Domain) (a2 : Int) (a3 : Int) : Option (Int) :=
 (loopM (slices_IndexFunc_Domain_judge_domain_1_L1 a1 a2 a3) 0).bind fun r14 => match r14 with
 | Sum.inl v12 =>
  some v12
 | Sum.inr () =>
  some (-1)

def names_judge_domain (a1 : Names_judge) (a2 : Int) (a3 : Int) : Option (Int) :=
 (slices_IndexFunc_Domain_judge_domain_1 a1.n.domains a2 a3).bind fun r4 =>
 some r4

def names_place_Irb (a1 : List Api_Irb) (a2 : Int) : Option (Bool) :=
 if (decide (a2 ≥ 0)) = true then
  some (decide (a2 < (a1.length : Int)))
 else
  some false

def names_judge_bare (a1 : Names_judge) (a2 : Int) (a3 : Api_Domain) : Option (Bool) :=
 (names_place_Device a1.n.devices a3.dev).bind fun r4 =>
 if (r4) = true then
  if (decide (a3.vlan ≥ 1)) = true then
   if (decide (a3.vlan ≤ 4094)) = true then
    if (decide (a3.vni ≥ 0)) = true then
     if (decide (a3.vni ≤ 16777215)) = true then
      if (a3.irb == (-1)) = true then
       (names_judge_domain a1 a3.dev a3.vlan).bind fun r12 =>
       some (r12 == a2)
      else
       (names_place_Irb a1.n.irbs a3.irb).bind fun r14 =>
       if (r14) = true then
        (nth a1.n.irbs a3.irb).bind fun x17 =>
        if (x17.domain == a2) = true then
         (names_judge_domain a1 a3.dev a3.vlan).bind fun r20 =>
         some (r20 == a2)
        else
         some false
       else
        some false
     else
      some false
    else
     some false
   else
    some false
  else
   some false
 else
  some false

def names_all_Domain_judge_bare_L1 (a1 : List Api_Domain) (a2 : Names_judge) (v3 : Int) : Option ((Int) ⊕ (Unit ⊕ Unit)) :=
 if (decide (v3 < (a1.length : Int))) = true then
  (nth a1 v3).bind fun x5 =>
  (names_judge_bare a2 v3 x5).bind fun r7 =>
  if (!r7) = true then
   some (Sum.inr (Sum.inl ()))
  else
   some (Sum.inl (wr_i64 (v3 + 1)))
 else
  some (Sum.inr (Sum.inr ()))

def names_all_Domain_judge_bare (a1 : List Api_Domain) (a2 : Names_judge) : Option (Bool) :=
 (loopM (names_all_Domain_judge_bare_L1 a1 a2) 0).bind fun r11 => match r11 with
 | Sum.inl () =>
  some false
 | Sum.inr () =>
  some true

def names_place_Domain (a1 : List Api_Domain) (a2 : Int) : Option (Bool) :=
 if (decide (a2 ≥ 0)) = true then
  some (decide (a2 < (a1.length : Int)))
 else
  some false

def names_judge_vtep (a1 : Names_judge) (a2 : Api_Domain) : Option (Bool) :=
 (nth a1.n.devices a2.dev).bind fun x3 =>
 some (x3.vtep != 0)

def slices_Index_int_L1 (a1 : List Int) (a2 : Int) (v3 : Int) : Option ((Int) ⊕ (Int ⊕ Unit)) :=
 if (decide (v3 < (a1.length : Int))) = true then
  (nth a1 v3).bind fun x5 =>
  if (a2 == x5) = true then
   some (Sum.inr (Sum.inl v3))
  else
   some (Sum.inl (wr_i64 (v3 + 1)))
 else
  some (Sum.inr (Sum.inr ()))

def slices_Index_int (a1 : List Int) (a2 : Int) : Option (Int) :=
 (loopM (slices_Index_int_L1 a1 a2) 0).bind fun r11 => match r11 with
 | Sum.inl v9 =>
  some v9
 | Sum.inr () =>
  some (-1)

def slices_Contains_int (a1 : List Int) (a2 : Int) : Option (Bool) :=
 (slices_Index_int a1 a2).bind fun r3 =>
 some (decide (r3 ≥ 0))

def names_judge_peer (a1 : Names_judge) (a2 : Int) (a3 : Api_Domain) (a4 : Int) : Option (Bool) :=
 (names_place_Domain a1.n.domains a4).bind fun r5 =>
 if (!r5) = true then
  some false
 else
  if (a4 == a2) = true then
   some false
  else
   (nth a1.n.domains a4).bind fun x9 =>
   (names_place_Device a1.n.devices x9.dev).bind fun r11 =>
   if (r11) = true then
    if (x9.dev != a3.dev) = true then
     if (x9.vni == a3.vni) = true then
      if (a3.vni != 0) = true then
       (names_judge_vtep a1 x9).bind fun r17 =>
       if (r17) = true then
        (names_judge_vtep a1 a3).bind fun r20 =>
        if (r20) = true then
         (slices_Contains_int x9.peers a2).bind fun r23 =>
         some r23
        else
         some false
       else
        some false
      else
       some false
     else
      some false
    else
     some false
   else
    some false

def names_judge_peers_1 (a1 : Int) (a2 : Int) (a3 : Names_judge) (a4 : Int) (a5 : Api_Domain) : Option (Bool) :=
 (names_judge_peer a3 a4 a5 a2).bind fun r6 =>
 if (r6) = true then
  (slices_Index_int a5.peers a2).bind fun r9 =>
  some (r9 == a1)
 else
  some false

def names_all_int_judge_peers_1_L1 (a1 : List Int) (a2 : Names_judge) (a3 : Int) (a4 : Api_Domain) (v5 : Int) : Option ((Int) ⊕ (Unit ⊕ Unit)) :=
 if (decide (v5 < (a1.length : Int))) = true then
  (nth a1 v5).bind fun x7 =>
  (names_judge_peers_1 v5 x7 a2 a3 a4).bind fun r9 =>
  if (!r9) = true then
   some (Sum.inr (Sum.inl ()))
  else
   some (Sum.inl (wr_i64 (v5 + 1)))
 else
  some (Sum.inr (Sum.inr ()))

def names_all_int_judge_peers_1 (a1 : List Int) (a2 : Names_judge) (a3 : Int) (a4 : Api_Domain) : Option (Bool) :=
 (loopM (names_all_int_judge_peers_1_L1 a1 a2 a3 a4) 0).bind fun r13 => match r13 with
 | Sum.inl () =>
  some false
 | Sum.inr () =>
  some true

def names_judge_peers (a1 : Names_judge) (a2 : Int) (a3 : Api_Domain) : Option (Bool) :=
 (names_all_int_judge_peers_1 a3.peers a1 a2 a3).bind fun r4 =>
 some r4

def names_all_Domain_judge_peers_L1 (a1 : List Api_Domain) (a2 : Names_judge) (v3 : Int) : Option ((Int) ⊕ (Unit ⊕ Unit)) :=
 if (decide (v3 < (a1.length : Int))) = true then
  (nth a1 v3).bind fun x5 =>
  (names_judge_peers a2 v3 x5).bind fun r7 =>
  if (!r7) = true then
   some (Sum.inr (Sum.inl ()))
  else
   some (Sum.inl (wr_i64 (v3 + 1)))
 else
  some (Sum.inr (Sum.inr ()))

def names_all_Domain_judge_peers (a1 : List Api_Domain) (a2 : Names_judge) : Option (Bool) :=
 (loopM (names_all_Domain_judge_peers_L1 a1 a2) 0).bind fun r11 => match r11 with
 | Sum.inl () =>
  some false
 | Sum.inr () =>
  some true

def num_Rising_L1 (a1 : List Int) (a2 : Int) (a3 : Int) (v4 : Int) : Option ((Int) ⊕ (Unit ⊕ Unit)) :=
 if (decide (v4 < (a1.length : Int))) = true then
  (nth a1 v4).bind fun x6 =>
  if (decide (x6 < a2)) = true then
   some (Sum.inr (Sum.inl ()))
  else
   if (decide (x6 > a3)) = true then
    some (Sum.inr (Sum.inl ()))
   else
    if (decide (v4 > 0)) = true then
     (nth a1 (wr_i64 (v4 - 1))).bind fun x11 =>
     if (decide (x11 ≥ x6)) = true then
      some (Sum.inr (Sum.inl ()))
     else
      some (Sum.inl (wr_i64 (v4 + 1)))
    else
     some (Sum.inl (wr_i64 (v4 + 1)))
 else
  some (Sum.inr (Sum.inr ()))

def num_Rising (a1 : List Int) (a2 : Int) (a3 : Int) : Option (Bool) :=
 (loopM (num_Rising_L1 a1 a2 a3) 0).bind fun r15 => match r15 with
 | Sum.inl () =>
  some false
 | Sum.inr () =>
  if (decide ((a1.length : Int) > 0)) = true then
   some (decide ((a1.length : Int) ≤ 16))
  else
   some false

def names_rising (a1 : List Int) (a2 : Int) : Option (Bool) :=
 if ((a1.length : Int) == 0) = true then
  some true
 else
  (num_Rising a1 1 a2).bind fun r4 =>
  some r4

def names_place_Link (a1 : List Api_Link) (a2 : Int) : Option (Bool) :=
 if (decide (a2 ≥ 0)) = true then
  some (decide (a2 < (a1.length : Int)))
 else
  some false

def names_judge_port_J1 (a1 : Names_judge) (a2 : Int) (a3 : Api_Port) : Option (Unit ⊕ Unit) :=
 (names_place_Device a1.n.devices a3.dev).bind fun r4 =>
 if (!r4) = true then
  some (Sum.inl ())
 else
  if (decide (a3.native < 0)) = true then
   some (Sum.inl ())
  else
   if (decide (a3.native > 4094)) = true then
    some (Sum.inl ())
   else
    (names_rising a3.tagged 4094).bind fun r9 =>
    if (!r9) = true then
     some (Sum.inl ())
    else
     (slices_Contains_int a3.tagged a3.native).bind fun r12 =>
     if (r12) = true then
      some (Sum.inl ())
     else
      if (a3.native == 0) = true then
       if ((a3.tagged.length : Int) == 0) = true then
        some (Sum.inl ())
       else
        some (Sum.inr ())
      else
       some (Sum.inr ())

def names_judge_port_L2 (a1 : Names_judge) (a2 : Int) (a3 : Api_Port) (v19 : Int) : Option ((Int) ⊕ (Unit ⊕ Unit)) :=
 if (decide (v19 < (a3.tagged.length : Int))) = true then
  (nth a3.tagged v19).bind fun x21 =>
  (names_judge_domain a1 a3.dev x21).bind fun r23 =>
  if (decide (r23 < 0)) = true then
   some (Sum.inr (Sum.inl ()))
  else
   some (Sum.inl (wr_i64 (v19 + 1)))
 else
  some (Sum.inr (Sum.inr ()))

def names_judge_port_J3 (a1 : Names_judge) (a2 : Int) (a3 : Api_Port) : Option (Unit ⊕ Unit) :=
 if (decide (a3.native > 0)) = true then
  (names_judge_domain a1 a3.dev a3.native).bind fun r29 =>
  if (decide (r29 < 0)) = true then
   some (Sum.inl ())
  else
   some (Sum.inr ())
 else
  some (Sum.inr ())

def names_judge_port (a1 : Names_judge) (a2 : Int) (a3 : Api_Port) : Option (Bool) :=
 (names_judge_port_J1 a1 a2 a3).bind fun r18 => match r18 with
 | Sum.inl () =>
  some false
 | Sum.inr () =>
  (loopM (names_judge_port_L2 a1 a2 a3) 0).bind fun r27 => match r27 with
  | Sum.inl () =>
   some false
  | Sum.inr () =>
   (names_judge_port_J3 a1 a2 a3).bind fun r33 => match r33 with
   | Sum.inl () =>
    some false
   | Sum.inr () =>
    if (a3.link == (-1)) = true then
     some true
    else
     (names_place_Link a1.n.links a3.link).bind fun r35 =>
     if (r35) = true then
      (nth a1.n.links a3.link).bind fun x38 =>
      if (x38.a == a2) = true then
       some true
      else
       (nth a1.n.links a3.link).bind fun x41 =>
       some (x41.b == a2)
     else
      some false

def names_all_Port_judge_port_L1 (a1 : List Api_Port) (a2 : Names_judge) (v3 : Int) : Option ((Int) ⊕ (Unit ⊕ Unit)) :=
 if (decide (v3 < (a1.length : Int))) = true then
  (nth a1 v3).bind fun x5 =>
  (names_judge_port a2 v3 x5).bind fun r7 =>
  if (!r7) = true then
   some (Sum.inr (Sum.inl ()))
  else
   some (Sum.inl (wr_i64 (v3 + 1)))
 else
  some (Sum.inr (Sum.inr ()))

def names_all_Port_judge_port (a1 : List Api_Port) (a2 : Names_judge) : Option (Bool) :=
 (loopM (names_all_Port_judge_port_L1 a1 a2) 0).bind fun r11 => match r11 with
 | Sum.inl () =>
  some false
 | Sum.inr () =>
  some true

def names_place_Port (a1 : List Api_Port) (a2 : Int) : Option (Bool) :=
 if (decide (a2 ≥ 0)) = true then
  some (decide (a2 < (a1.length : Int)))
 else
  some false

def names_judge_link (a1 : Names_judge) (a2 : Int) (a3 : Api_Link) : Option (Bool) :=
 (names_place_Port a1.n.ports a3.a).bind fun r4 =>
 if (!r4) = true then
  some false
 else
  (names_place_Port a1.n.ports a3.b).bind fun r7 =>
  if (!r7) = true then
   some false
  else
   (nth a1.n.ports a3.a).bind fun x10 =>
   (nth a1.n.ports a3.b).bind fun x12 =>
   if (x10.dev != x12.dev) = true then
    if (x10.link == a2) = true then
     some (x12.link == a2)
    else
     some false
   else
    some false

def names_all_Link_judge_link_L1 (a1 : List Api_Link) (a2 : Names_judge) (v3 : Int) : Option ((Int) ⊕ (Unit ⊕ Unit)) :=
 if (decide (v3 < (a1.length : Int))) = true then
  (nth a1 v3).bind fun x5 =>
  (names_judge_link a2 v3 x5).bind fun r7 =>
  if (!r7) = true then
   some (Sum.inr (Sum.inl ()))
  else
   some (Sum.inl (wr_i64 (v3 + 1)))
 else
  some (Sum.inr (Sum.inr ()))

def names_all_Link_judge_link (a1 : List Api_Link) (a2 : Names_judge) : Option (Bool) :=
 (loopM (names_all_Link_judge_link_L1 a1 a2) 0).bind fun r11 => match r11 with
 | Sum.inl () =>
  some false
 | Sum.inr () =>
  some true

def names_Member (a1 : Api_Port) (a2 : Int) : Option (Bool) :=
 if (a2 != 0) = true then
  if (a2 == a1.native) = true then
   some true
  else
   (slices_Contains_int a1.tagged a2).bind fun r5 =>
   some r5
 else
  some false

def names_judge_static (a1 : Names_judge) (a2 : Int) (a3 : Api_Static) : Option (Bool) :=
 (names_place_Domain a1.n.domains a3.domain).bind fun r4 =>
 if (!r4) = true then
  some false
 else
  (names_place_Port a1.n.ports a3.port).bind fun r7 =>
  if (!r7) = true then
   some false
  else
   (nth a1.n.ports a3.port).bind fun x10 =>
   (nth a1.n.domains a3.domain).bind fun x12 =>
   if (x10.dev == x12.dev) = true then
    (names_Member x10 x12.vlan).bind fun r15 =>
    some r15
   else
    some false

def names_all_Static_judge_static_L1 (a1 : List Api_Static) (a2 : Names_judge) (v3 : Int) : Option ((Int) ⊕ (Unit ⊕ Unit)) :=
 if (decide (v3 < (a1.length : Int))) = true then
  (nth a1 v3).bind fun x5 =>
  (names_judge_static a2 v3 x5).bind fun r7 =>
  if (!r7) = true then
   some (Sum.inr (Sum.inl ()))
  else
   some (Sum.inl (wr_i64 (v3 + 1)))
 else
  some (Sum.inr (Sum.inr ()))

def names_all_Static_judge_static (a1 : List Api_Static) (a2 : Names_judge) : Option (Bool) :=
 (loopM (names_all_Static_judge_static_L1 a1 a2) 0).bind fun r11 => match r11 with
 | Sum.inl () =>
  some false
 | Sum.inr () =>
  some true

def names_Right_1 (a1 : Int) (a2 : Api_Flood) (a3 : Api_Net) : Option (Bool) :=
 (names_place_Device a3.devices a2.dev).bind fun r4 =>
 if (r4) = true then
  some (decide ((a2.addrs.length : Int) ≤ 16))
 else
  some false

def names_all_Flood_Right_1_L1 (a1 : List Api_Flood) (a2 : Api_Net) (v3 : Int) : Option ((Int) ⊕ (Unit ⊕ Unit)) :=
 if (decide (v3 < (a1.length : Int))) = true then
  (nth a1 v3).bind fun x5 =>
  (names_Right_1 v3 x5 a2).bind fun r7 =>
  if (!r7) = true then
   some (Sum.inr (Sum.inl ()))
  else
   some (Sum.inl (wr_i64 (v3 + 1)))
 else
  some (Sum.inr (Sum.inr ()))

def names_all_Flood_Right_1 (a1 : List Api_Flood) (a2 : Api_Net) : Option (Bool) :=
 (loopM (names_all_Flood_Right_1_L1 a1 a2) 0).bind fun r11 => match r11 with
 | Sum.inl () =>
  some false
 | Sum.inr () =>
  some true

def names_Right_2 (a1 : Int) (a2 : Api_Vrf) (a3 : Api_Net) : Option (Bool) :=
 (names_place_Device a3.devices a2.dev).bind fun r4 =>
 if (r4) = true then
  (names_rising a2.imports 65535).bind fun r7 =>
  if (r7) = true then
   (names_rising a2.exports 65535).bind fun r10 =>
   some r10
  else
   some false
 else
  some false

def names_all_Vrf_Right_2_L1 (a1 : List Api_Vrf) (a2 : Api_Net) (v3 : Int) : Option ((Int) ⊕ (Unit ⊕ Unit)) :=
 if (decide (v3 < (a1.length : Int))) = true then
  (nth a1 v3).bind fun x5 =>
  (names_Right_2 v3 x5 a2).bind fun r7 =>
  if (!r7) = true then
   some (Sum.inr (Sum.inl ()))
  else
   some (Sum.inl (wr_i64 (v3 + 1)))
 else
  some (Sum.inr (Sum.inr ()))

def names_all_Vrf_Right_2 (a1 : List Api_Vrf) (a2 : Api_Net) : Option (Bool) :=
 (loopM (names_all_Vrf_Right_2_L1 a1 a2) 0).bind fun r11 => match r11 with
 | Sum.inl () =>
  some false
 | Sum.inr () =>
  some true

def names_place_Vrf (a1 : List Api_Vrf) (a2 : Int) : Option (Bool) :=
 if (decide (a2 ≥ 0)) = true then
  some (decide (a2 < (a1.length : Int)))
 else
  some false

def names_judge_irb (a1 : Names_judge) (a2 : Int) (a3 : Api_Irb) : Option (Bool) :=
 (names_place_Domain a1.n.domains a3.domain).bind fun r4 =>
 if (r4) = true then
  (names_place_Vrf a1.n.vrfs a3.vrf).bind fun r7 =>
  if (r7) = true then
   (nth a1.n.domains a3.domain).bind fun x10 =>
   (nth a1.n.vrfs a3.vrf).bind fun x12 =>
   if (x10.dev == x12.dev) = true then
    (nth a1.n.domains a3.domain).bind fun x15 =>
    if (x15.irb == a2) = true then
     if (decide (a3.net.bits ≥ 1)) = true then
      some (decide (a3.net.bits ≤ 30))
     else
      some false
    else
     some false
   else
    some false
  else
   some false
 else
  some false

def names_all_Irb_judge_irb_L1 (a1 : List Api_Irb) (a2 : Names_judge) (v3 : Int) : Option ((Int) ⊕ (Unit ⊕ Unit)) :=
 if (decide (v3 < (a1.length : Int))) = true then
  (nth a1 v3).bind fun x5 =>
  (names_judge_irb a2 v3 x5).bind fun r7 =>
  if (!r7) = true then
   some (Sum.inr (Sum.inl ()))
  else
   some (Sum.inl (wr_i64 (v3 + 1)))
 else
  some (Sum.inr (Sum.inr ()))

def names_all_Irb_judge_irb (a1 : List Api_Irb) (a2 : Names_judge) : Option (Bool) :=
 (loopM (names_all_Irb_judge_irb_L1 a1 a2) 0).bind fun r11 => match r11 with
 | Sum.inl () =>
  some false
 | Sum.inr () =>
  some true

def names_Right (a1 : Api_Net) : Option (Bool) :=
 (names_judge_few (⟨a1⟩ : Names_judge)).bind fun r2 =>
 if (r2) = true then
  (names_all_Domain_judge_bare a1.domains (⟨a1⟩ : Names_judge)).bind fun r5 =>
  if (r5) = true then
   (names_all_Domain_judge_peers a1.domains (⟨a1⟩ : Names_judge)).bind fun r8 =>
   if (r8) = true then
    (names_all_Port_judge_port a1.ports (⟨a1⟩ : Names_judge)).bind fun r11 =>
    if (r11) = true then
     (names_all_Link_judge_link a1.links (⟨a1⟩ : Names_judge)).bind fun r14 =>
     if (r14) = true then
      (names_all_Static_judge_static a1.statics (⟨a1⟩ : Names_judge)).bind fun r17 =>
      if (r17) = true then
       (names_all_Flood_Right_1 a1.floods a1).bind fun r20 =>
       if (r20) = true then
        (names_all_Vrf_Right_2 a1.vrfs a1).bind fun r23 =>
        if (r23) = true then
         (names_all_Irb_judge_irb a1.irbs (⟨a1⟩ : Names_judge)).bind fun r26 =>
         some r26
        else
         some false
       else
        some false
      else
       some false
     else
      some false
    else
     some false
   else
    some false
  else
   some false
 else
  some false

def owners_Right_L1 (a1 : Api_Net) (a2 : List Int) (v7 : Int) : Option ((Int) ⊕ (Unit ⊕ Unit)) :=
 if (decide (v7 < (a2.length : Int))) = true then
  (nth a2 v7).bind fun x9 =>
  (nth a1.ports v7).bind fun x11 =>
  if (decide (x11.link ≥ 0)) = true then
   if (x9 != (-1)) = true then
    some (Sum.inr (Sum.inl ()))
   else
    if (!(decide (x11.link ≥ 0))) = true then
     if (decide (x9 < 0)) = true then
      some (Sum.inr (Sum.inl ()))
     else
      if (decide (x9 ≥ 10)) = true then
       some (Sum.inr (Sum.inl ()))
      else
       some (Sum.inl (wr_i64 (v7 + 1)))
    else
     some (Sum.inl (wr_i64 (v7 + 1)))
  else
   if (!(decide (x11.link ≥ 0))) = true then
    if (decide (x9 < 0)) = true then
     some (Sum.inr (Sum.inl ()))
    else
     if (decide (x9 ≥ 10)) = true then
      some (Sum.inr (Sum.inl ()))
     else
      some (Sum.inl (wr_i64 (v7 + 1)))
   else
    some (Sum.inl (wr_i64 (v7 + 1)))
 else
  some (Sum.inr (Sum.inr ()))

def owners_Right (a1 : Api_Net) (a2 : List Int) : Option (Bool) :=
 if ((a2.length : Int) != (a1.ports.length : Int)) = true then
  some false
 else
  (names_Right a1).bind fun r4 =>
  if (!r4) = true then
   some false
  else
   (loopM (owners_Right_L1 a1 a2) 0).bind fun r22 => match r22 with
   | Sum.inl () =>
    some false
   | Sum.inr () =>
    some true

def matrix_fits_1 (a1 : Int) (a2 : Int) : Option (Bool) :=
 some (decide (a1 ≥ a2))

def slices_IndexFunc_int_fits_1_L1 (a1 : List Int) (a2 : Int) (v3 : Int) : Option ((Int) ⊕ (Int ⊕ Unit)) :=
 if (decide (v3 < (a1.length : Int))) = true then
  (nth a1 v3).bind fun x5 =>
  (matrix_fits_1 x5 a2).bind fun r7 =>
  if (r7) = true then
   some (Sum.inr (Sum.inl v3))
  else
   some (Sum.inl (wr_i64 (v3 + 1)))
 else
  some (Sum.inr (Sum.inr ()))

def slices_IndexFunc_int_fits_1 (a1 : List Int) (a2 : Int) : Option (Int) :=
 (loopM (slices_IndexFunc_int_fits_1_L1 a1 a2) 0).bind fun r13 => match r13 with
 | Sum.inl v11 =>
  some v11
 | Sum.inr () =>
  some (-1)

def slices_ContainsFunc_int_fits_1 (a1 : List Int) (a2 : Int) : Option (Bool) :=
 (slices_IndexFunc_int_fits_1 a1 a2).bind fun r3 =>
 some (decide (r3 ≥ 0))

def matrix_fits (a1 : Api_Net) (a2 : List Int) (a3 : Int) : Option (Bool) :=
 if (decide (a3 < 0)) = true then
  some false
 else
  if (decide (a3 > 10)) = true then
   some false
  else
   (owners_Right a1 a2).bind fun r6 =>
   if (!r6) = true then
    some false
   else
    (slices_ContainsFunc_int_fits_1 a2 a3).bind fun r9 =>
    some (!r9)

def reach_place (a1 : Api_Net) (a2 : Int) : Option (Bool) :=
 if (decide (a2 ≥ 0)) = true then
  if (decide (a2 < (a1.domains.length : Int))) = true then
   (names_Right a1).bind fun r5 =>
   some r5
  else
   some false
 else
  some false

def names_Members_L1 (a1 : Api_Net) (a2 : Int) (l9 : List Int) (v10 : Int) : Option (((List Int) × Int) ⊕ ((List Int))) :=
 if (decide (v10 < (a1.ports.length : Int))) = true then
  (nth a1.ports v10).bind fun x12 =>
  (nth a1.domains a2).bind fun x14 =>
  if (x12.dev == x14.dev) = true then
   (nth a1.domains a2).bind fun x17 =>
   (names_Member x12 x17.vlan).bind fun r19 =>
   if (r19) = true then
    if (roomy 8 (l9 ++ [v10])) = true then
     some (Sum.inl (l9 ++ [v10], wr_i64 (v10 + 1)))
    else
     none
   else
    some (Sum.inl (l9, wr_i64 (v10 + 1)))
  else
   some (Sum.inl (l9, wr_i64 (v10 + 1)))
 else
  some (Sum.inr l9)

def names_Members (a1 : Api_Net) (a2 : Int) : Option (((List Int))) :=
 (names_Right a1).bind fun r3 =>
 if (!r3) = true then
  some []
 else
  (names_place_Domain a1.domains a2).bind fun r6 =>
  if (!r6) = true then
   some []
  else
   (loopM (fun s : (List Int) × Int => match s with | (l9, v10) => names_Members_L1 a1 a2 l9 v10) ([], 0)).bind fun r27 => match r27 with
   | l25 =>
    some l25

def links_Other (a1 : Api_Net) (a2 : Int) : Option (Int) :=
 if (decide (a2 < 0)) = true then
  some (-1)
 else
  if (decide (a2 ≥ (a1.ports.length : Int))) = true then
   some (-1)
  else
   (nth a1.ports a2).bind fun x5 =>
   if (decide (x5.link < 0)) = true then
    some (-1)
   else
    (names_Right a1).bind fun r8 =>
    if (!r8) = true then
     some (-1)
    else
     (nth a1.ports a2).bind fun x11 =>
     (nth a1.links x11.link).bind fun x13 =>
     if (x13.a == a2) = true then
      some x13.b
     else
      some x13.a

def links_Cross (a1 : Api_Net) (a2 : Int) (a3 : Int) : Option (Int × Int × Bool) :=
 (links_Other a1 a2).bind fun r4 =>
 if (decide (r4 < 0)) = true then
  some (0, 0, false)
 else
  (nth a1.ports a2).bind fun x7 =>
  (names_Member x7 a3).bind fun r9 =>
  if (!r9) = true then
   some (0, 0, false)
  else
   (nth a1.ports r4).bind fun x12 =>
   (nth a1.ports a2).bind fun x14 =>
   if (a3 == x14.native) = true then
    if (x12.native == 0) = true then
     some (0, 0, false)
    else
     some (r4, x12.native, true)
   else
    (slices_Contains_int x12.tagged a3).bind fun r18 =>
    if (r18) = true then
     if (a3 == 0) = true then
      some (0, 0, false)
     else
      some (r4, a3, true)
    else
     if (0 == 0) = true then
      some (0, 0, false)
     else
      some (r4, 0, true)

def names_Domain_1 (a1 : Api_Domain) (a2 : Int) (a3 : Int) : Option (Bool) :=
 if (a1.dev == a2) = true then
  some (a1.vlan == a3)
 else
  some false

def slices_IndexFunc_Domain_Domain_1_L1 (a1 : List Api_Domain) (a2 : Int) (a3 : Int) (v4 : Int) : Option ((Int) ⊕ (Int ⊕ Unit)) :=
 if (decide (v4 < (a1.length : Int))) = true then
  (nth a1 v4).bind fun x6 =>
  (names_Domain_1 x6 a2 a3).bind fun r8 =>
  if (r8) = true then
   some (Sum.inr (Sum.inl v4))
  else
   some (Sum.inl (wr_i64 (v4 + 1)))
 else
  some (Sum.inr (Sum.inr ()))

def slices_IndexFunc_Domain_Domain_1 (a1 : List Api_Domain) (a2 : Int) (a3 : Int) : Option (Int) :=
 (loopM (slices_IndexFunc_Domain_Domain_1_L1 a1 a2 a3) 0).bind fun r14 => match r14 with
 | Sum.inl v12 =>
  some v12
 | Sum.inr () =>
  some (-1)

def names_find_Domain_Domain_1 (a1 : Api_Net) (a2 : List Api_Domain) (a3 : Int) (a4 : Int) : Option (Int) :=
 (names_Right a1).bind fun r5 =>
 if (!r5) = true then
  some (-1)
 else
  (slices_IndexFunc_Domain_Domain_1 a2 a3 a4).bind fun r8 =>
  some r8

def names_Domain (a1 : Api_Net) (a2 : Int) (a3 : Int) : Option (Int) :=
 (names_find_Domain_Domain_1 a1 a1.domains a2 a3).bind fun r4 =>
 some r4

def links_Domain (a1 : Api_Net) (a2 : Int) (a3 : Int) : Option (Int × Bool) :=
 (links_Cross a1 a2 a3).bind fun r4 =>
 if (!r4.2.2) = true then
  some (0, false)
 else
  (nth a1.ports r4.1).bind fun x7 =>
  (names_Domain a1 x7.dev r4.2.1).bind fun r9 =>
  some (r9, true)

def reach_Hops_L1 (a1 : Api_Net) (a2 : Int) (l8 : List Int) (l9 : List Reach_Hop) (v10 : Int) : Option (((List Reach_Hop) × Int) ⊕ ((List Reach_Hop))) :=
 if (decide (v10 < ((List.length l8) : Int))) = true then
  if (lin l8 v10) = true then
   (l8[(Int.toNat v10)]?).bind fun x13 =>
   (nth a1.domains a2).bind fun x15 =>
   (links_Domain a1 x13 x15.vlan).bind fun r17 =>
   if (r17.2) = true then
    if (roomy 32 (l9 ++ [(⟨1, x13, r17.1, 0⟩ : Reach_Hop)])) = true then
     some (Sum.inl (l9 ++ [(⟨1, x13, r17.1, 0⟩ : Reach_Hop)], wr_i64 (v10 + 1)))
    else
     none
   else
    some (Sum.inl (l9, wr_i64 (v10 + 1)))
  else
   none
 else
  some (Sum.inr l9)

def reach_Hops_L2 (x28 : Api_Domain) (l30 : List Reach_Hop) (v31 : Int) : Option (((List Reach_Hop) × Int) ⊕ ((List Reach_Hop))) :=
 if (decide (v31 < (x28.peers.length : Int))) = true then
  (nth x28.peers v31).bind fun x33 =>
  if (roomy 32 (l30 ++ [(⟨2, 0, x33, 0⟩ : Reach_Hop)])) = true then
   some (Sum.inl (l30 ++ [(⟨2, 0, x33, 0⟩ : Reach_Hop)], wr_i64 (v31 + 1)))
  else
   none
 else
  some (Sum.inr l30)

def reach_Hops (a1 : Api_Net) (a2 : Int) : Option (((List Reach_Hop))) :=
 (reach_place a1 a2).bind fun r3 =>
 if (!r3) = true then
  some []
 else
  (names_Members a1 a2).bind fun r6 => match r6 with
  | l8 =>
   (loopM (fun s : (List Reach_Hop) × Int => match s with | (l9, v10) => reach_Hops_L1 a1 a2 l8 l9 v10) ([], 0)).bind fun r27 => match r27 with
   | l25 =>
    (nth a1.domains a2).bind fun x28 =>
    (loopM (fun s : (List Reach_Hop) × Int => match s with | (l30, v31) => reach_Hops_L2 x28 l30 v31) (l25, 0)).bind fun r40 => match r40 with
    | l38 =>
     some l38

def labels_hops_L1 (l5 : List Reach_Hop) (l6 : List Int) (v7 : Int) : Option (((List Int) × Int) ⊕ ((List Int))) :=
 if (decide (v7 < ((List.length l5) : Int))) = true then
  if (lin l5 v7) = true then
   (l5[(Int.toNat v7)]?).bind fun x10 =>
   if (roomy 8 (l6 ++ [x10.domain])) = true then
    some (Sum.inl (l6 ++ [x10.domain], wr_i64 (v7 + 1)))
   else
    none
  else
   none
 else
  some (Sum.inr l6)

def labels_hops (a1 : Api_Net) (a2 : Int) : Option (((List Int))) :=
 (reach_Hops a1 a2).bind fun r3 => match r3 with
 | l5 =>
  (loopM (fun s : (List Int) × Int => match s with | (l6, v7) => labels_hops_L1 l5 l6 v7) ([], 0)).bind fun r17 => match r17 with
  | l15 =>
   some l15

def addr_Right (a1 : Api_Prefix) : Option (Bool) :=
 if (decide (a1.bits ≥ 0)) = true then
  some (decide (a1.bits ≤ 32))
 else
  some false

def addr_rest (a1 : Api_Prefix) : Option (Int) :=
 if (decide (0 ≤ (wr_i64 (32 - a1.bits)))) = true then
  some (wr_u32 ((wr_u32 (1 * 2 ^ (min (Int.toNat (wr_i64 (32 - a1.bits))) 32))) - 1))
 else
  none

def addr_First (a1 : Api_Prefix) : Option (Int) :=
 (addr_Right a1).bind fun r2 =>
 if (!r2) = true then
  some 0
 else
  (addr_rest a1).bind fun r5 =>
  some (bits_andNot .u32 a1.addr r5)

def addr_Last (a1 : Api_Prefix) : Option (Int) :=
 (addr_Right a1).bind fun r2 =>
 if (!r2) = true then
  some 0
 else
  (addr_rest a1).bind fun r5 =>
  some (bits_or .u32 a1.addr r5)

def route_device (a1 : Api_Net) (a2 : Int) : Option (Int) :=
 (nth a1.irbs a2).bind fun x3 =>
 (nth a1.domains x3.domain).bind fun x5 =>
 some x5.dev

def addr_Has (a1 : Api_Prefix) (a2 : Int) : Option (Bool) :=
 (addr_Right a1).bind fun r3 =>
 if (r3) = true then
  (addr_rest a1).bind fun r6 =>
  some ((bits_andNot .u32 (bits_xor .u32 a1.addr a2) r6) == 0)
 else
  some false

def vrfs_Leaks_1 (a1 : Int) (a2 : Api_Vrf) : Option (Bool) :=
 (slices_Contains_int a2.imports a1).bind fun r3 =>
 some r3

def slices_IndexFunc_int_Leaks_1_L1 (a1 : List Int) (a2 : Api_Vrf) (v3 : Int) : Option ((Int) ⊕ (Int ⊕ Unit)) :=
 if (decide (v3 < (a1.length : Int))) = true then
  (nth a1 v3).bind fun x5 =>
  (vrfs_Leaks_1 x5 a2).bind fun r7 =>
  if (r7) = true then
   some (Sum.inr (Sum.inl v3))
  else
   some (Sum.inl (wr_i64 (v3 + 1)))
 else
  some (Sum.inr (Sum.inr ()))

def slices_IndexFunc_int_Leaks_1 (a1 : List Int) (a2 : Api_Vrf) : Option (Int) :=
 (loopM (slices_IndexFunc_int_Leaks_1_L1 a1 a2) 0).bind fun r13 => match r13 with
 | Sum.inl v11 =>
  some v11
 | Sum.inr () =>
  some (-1)

def slices_ContainsFunc_int_Leaks_1 (a1 : List Int) (a2 : Api_Vrf) : Option (Bool) :=
 (slices_IndexFunc_int_Leaks_1 a1 a2).bind fun r3 =>
 some (decide (r3 ≥ 0))

def vrfs_Leaks (a1 : Api_Net) (a2 : Int) (a3 : Int) : Option (Bool) :=
 if (decide (a2 < 0)) = true then
  some false
 else
  if (decide (a3 < 0)) = true then
   some false
  else
   if (decide (a2 ≥ (a1.vrfs.length : Int))) = true then
    some false
   else
    if (decide (a3 ≥ (a1.vrfs.length : Int))) = true then
     some false
    else
     (names_Right a1).bind fun r8 =>
     if (!r8) = true then
      some false
     else
      (nth a1.vrfs a2).bind fun x11 =>
      (nth a1.vrfs a3).bind fun x13 =>
      if (a2 == a3) = true then
       some true
      else
       if (x11.dev == x13.dev) = true then
        (slices_ContainsFunc_int_Leaks_1 x11.exports x13).bind fun r17 =>
        some r17
       else
        some false

def route_sees (a1 : Api_Net) (a2 : Int) (a3 : Int) : Option (Bool) :=
 (route_device a1 a2).bind fun r4 =>
 (route_device a1 a3).bind fun r6 =>
 if (r4 == r6) = true then
  (nth a1.irbs a3).bind fun x9 =>
  (nth a1.irbs a2).bind fun x11 =>
  (vrfs_Leaks a1 x9.vrf x11.vrf).bind fun r13 =>
  some r13
 else
  some false

def route_lookup_1 (a1 : Int) (a2 : Api_Net) (a3 : Int) : Option (Int) :=
 (nth a2.irbs a1).bind fun x4 =>
 (nth a2.irbs a3).bind fun x6 =>
 if (x4.vrf == x6.vrf) = true then
  some 1
 else
  some 0

def route_lookup_2 (a1 : Int) (a2 : Int) (a3 : Api_Net) (a4 : Api_Net) (a5 : Int) : Option (Int) :=
 (nth a3.irbs a1).bind fun x6 =>
 (nth a3.irbs a2).bind fun x8 =>
 if (x6.net.bits != x8.net.bits) = true then
  some (wr_i64 (x6.net.bits - x8.net.bits))
 else
  (route_lookup_1 a1 a4 a5).bind fun r11 =>
  (route_lookup_1 a2 a4 a5).bind fun r13 =>
  some (wr_i64 (r11 - r13))

def slices_MaxFunc_int_lookup_2_L1 (a1 : List Int) (a2 : Api_Net) (a3 : Api_Net) (a4 : Int) (v8 : Int) (v9 : Int) : Option ((Int × Int) ⊕ (Int)) :=
 if (decide (v9 < (a1.length : Int))) = true then
  (nth a1 v9).bind fun x11 =>
  (route_lookup_2 x11 v8 a2 a3 a4).bind fun r13 =>
  if (decide (r13 > 0)) = true then
   (nth a1 v9).bind fun x16 =>
   some (Sum.inl (x16, wr_i64 (v9 + 1)))
  else
   some (Sum.inl (v8, wr_i64 (v9 + 1)))
 else
  some (Sum.inr v8)

def slices_MaxFunc_int_lookup_2 (a1 : List Int) (a2 : Api_Net) (a3 : Api_Net) (a4 : Int) : Option (Int) :=
 if (decide ((a1.length : Int) < 1)) = true then
  none
 else
  (nth a1 0).bind fun x6 =>
  (loopM (fun s : Int × Int => match s with | (v8, v9) => slices_MaxFunc_int_lookup_2_L1 a1 a2 a3 a4 v8 v9) (x6, 1)).bind fun r21 => match r21 with
  | v19 =>
   some v19

def route_lookup_J2 (a1 : Api_Net) (a2 : Int) (a3 : Int) (l4 : List Int) (v5 : Int) (x7 : Api_Irb) : Option (Unit ⊕ Unit) :=
 (route_device a1 v5).bind fun r9 =>
 (route_device a1 a2).bind fun r11 =>
 if (r9 == r11) = true then
  if (x7.net.addr == a3) = true then
   some (Sum.inl ())
  else
   some (Sum.inr ())
 else
  some (Sum.inr ())

def route_lookup_L1 (a1 : Api_Net) (a2 : Int) (a3 : Int) (l4 : List Int) (v5 : Int) : Option (((List Int) × Int) ⊕ (Unit ⊕ (List Int))) :=
 if (decide (v5 < (a1.irbs.length : Int))) = true then
  (nth a1.irbs v5).bind fun x7 =>
  (route_lookup_J2 a1 a2 a3 l4 v5 x7).bind fun r16 => match r16 with
  | Sum.inl () =>
   some (Sum.inr (Sum.inl ()))
  | Sum.inr () =>
   (addr_Has x7.net a3).bind fun r17 =>
   if (r17) = true then
    (route_sees a1 a2 v5).bind fun r20 =>
    if (r20) = true then
     if (roomy 8 (l4 ++ [v5])) = true then
      some (Sum.inl (l4 ++ [v5], wr_i64 (v5 + 1)))
     else
      none
    else
     some (Sum.inl (l4, wr_i64 (v5 + 1)))
   else
    some (Sum.inl (l4, wr_i64 (v5 + 1)))
 else
  some (Sum.inr (Sum.inr l4))

def route_lookup (a1 : Api_Net) (a2 : Int) (a3 : Int) : Option (Int × Bool) :=
 (loopM (fun s : (List Int) × Int => match s with | (l4, v5) => route_lookup_L1 a1 a2 a3 l4 v5) ([], 0)).bind fun r31 => match r31 with
 | Sum.inl () =>
  some (0, false)
 | Sum.inr l29 =>
  if (((List.length l29) : Int) == 0) = true then
   some (0, false)
  else
   (slices_MaxFunc_int_lookup_2 l29 a1 a1 a2).bind fun r33 =>
   some (r33, true)

def route_Lookup (a1 : Api_Net) (a2 : Int) (a3 : Int) : Option (Int × Bool) :=
 if (decide (a2 < 0)) = true then
  some (0, false)
 else
  if (decide (a2 ≥ (a1.irbs.length : Int))) = true then
   some (0, false)
  else
   (names_Right a1).bind fun r6 =>
   if (!r6) = true then
    some (0, false)
   else
    (route_lookup a1 a2 a3).bind fun r9 =>
    some (r9.1, r9.2)

def choose_Address_1 (a1 : Api_Irb) (a2 : Int) : Option (Bool) :=
 some (a1.net.addr == a2)

def slices_IndexFunc_Irb_Address_1_L1 (a1 : List Api_Irb) (a2 : Int) (v3 : Int) : Option ((Int) ⊕ (Int ⊕ Unit)) :=
 if (decide (v3 < (a1.length : Int))) = true then
  (nth a1 v3).bind fun x5 =>
  (choose_Address_1 x5 a2).bind fun r7 =>
  if (r7) = true then
   some (Sum.inr (Sum.inl v3))
  else
   some (Sum.inl (wr_i64 (v3 + 1)))
 else
  some (Sum.inr (Sum.inr ()))

def slices_IndexFunc_Irb_Address_1 (a1 : List Api_Irb) (a2 : Int) : Option (Int) :=
 (loopM (slices_IndexFunc_Irb_Address_1_L1 a1 a2) 0).bind fun r13 => match r13 with
 | Sum.inl v11 =>
  some v11
 | Sum.inr () =>
  some (-1)

def slices_ContainsFunc_Irb_Address_1 (a1 : List Api_Irb) (a2 : Int) : Option (Bool) :=
 (slices_IndexFunc_Irb_Address_1 a1 a2).bind fun r3 =>
 some (decide (r3 ≥ 0))

def choose_past_1 (a1 : Api_Irb) (a2 : Int) : Option (Bool) :=
 some (a1.net.addr == a2)

def slices_IndexFunc_Irb_past_1_L1 (a1 : List Api_Irb) (a2 : Int) (v3 : Int) : Option ((Int) ⊕ (Int ⊕ Unit)) :=
 if (decide (v3 < (a1.length : Int))) = true then
  (nth a1 v3).bind fun x5 =>
  (choose_past_1 x5 a2).bind fun r7 =>
  if (r7) = true then
   some (Sum.inr (Sum.inl v3))
  else
   some (Sum.inl (wr_i64 (v3 + 1)))
 else
  some (Sum.inr (Sum.inr ()))

def slices_IndexFunc_Irb_past_1 (a1 : List Api_Irb) (a2 : Int) : Option (Int) :=
 (loopM (slices_IndexFunc_Irb_past_1_L1 a1 a2) 0).bind fun r13 => match r13 with
 | Sum.inl v11 =>
  some v11
 | Sum.inr () =>
  some (-1)

def slices_ContainsFunc_Irb_past_1 (a1 : List Api_Irb) (a2 : Int) : Option (Bool) :=
 (slices_IndexFunc_Irb_past_1 a1 a2).bind fun r3 =>
 some (decide (r3 ≥ 0))

def choose_past (a1 : Api_Net) (a2 : Int) (a3 : Int) : Option (Int) :=
 (slices_ContainsFunc_Irb_past_1 a1.irbs a2).bind fun r4 =>
 if (r4) = true then
  some (wr_i64 ((wr_i64 a2) + 1))
 else
  (nth a1.irbs a3).bind fun x7 =>
  (addr_Last x7.net).bind fun r9 =>
  some (wr_i64 ((wr_i64 r9) + 1))

def choose_Address_L1 (a1 : Api_Net) (a2 : Int) (a3 : Int) (r15 : Int) (v17 : Int) : Option ((Int) ⊕ (Int ⊕ Unit)) :=
 if (decide (v17 ≤ (wr_i64 r15))) = true then
  (route_Lookup a1 a2 (wr_u32 v17)).bind fun r19 =>
  (slices_ContainsFunc_Irb_Address_1 a1.irbs (wr_u32 v17)).bind fun r21 =>
  if (r19.2) = true then
   if (r19.1 == a3) = true then
    if (!r21) = true then
     some (Sum.inr (Sum.inl (wr_u32 v17)))
    else
     if (!r19.2) = true then
      (choose_past a1 (wr_u32 v17) r19.1).bind fun r27 =>
      some (Sum.inl r27)
     else
      (choose_past a1 (wr_u32 v17) r19.1).bind fun r29 =>
      some (Sum.inl r29)
   else
    if (!r19.2) = true then
     if (!r21) = true then
      some (Sum.inr (Sum.inr ()))
     else
      (choose_past a1 (wr_u32 v17) r19.1).bind fun r33 =>
      some (Sum.inl r33)
    else
     (choose_past a1 (wr_u32 v17) r19.1).bind fun r35 =>
     some (Sum.inl r35)
  else
   if (!r19.2) = true then
    if (!r21) = true then
     some (Sum.inr (Sum.inr ()))
    else
     (choose_past a1 (wr_u32 v17) r19.1).bind fun r39 =>
     some (Sum.inl r39)
   else
    (choose_past a1 (wr_u32 v17) r19.1).bind fun r41 =>
    some (Sum.inl r41)
 else
  some (Sum.inr (Sum.inr ()))

def choose_Address (a1 : Api_Net) (a2 : Int) (a3 : Int) : Option (Int × Bool) :=
 if (decide (a2 < 0)) = true then
  some (0, false)
 else
  if (decide (a3 < 0)) = true then
   some (0, false)
  else
   if (decide (a2 ≥ (a1.irbs.length : Int))) = true then
    some (0, false)
   else
    if (decide (a3 ≥ (a1.irbs.length : Int))) = true then
     some (0, false)
    else
     (names_Right a1).bind fun r8 =>
     if (!r8) = true then
      some (0, false)
     else
      (nth a1.irbs a3).bind fun x11 =>
      (addr_First x11.net).bind fun r13 =>
      (addr_Last x11.net).bind fun r15 =>
      (loopM (choose_Address_L1 a1 a2 a3 r15) (wr_i64 r13)).bind fun r46 => match r46 with
      | Sum.inl v44 =>
       some (v44, true)
      | Sum.inr () =>
       some (0, false)

def choose_Routes_L1 (a1 : Api_Net) (a2 : Int) (l11 : List Choose_Lead) (v12 : Int) : Option (((List Choose_Lead) × Int) ⊕ ((List Choose_Lead))) :=
 if (decide (v12 < (a1.irbs.length : Int))) = true then
  (nth a1.irbs v12).bind fun x14 =>
  (nth a1.domains a2).bind fun x16 =>
  (choose_Address a1 x16.irb v12).bind fun r18 =>
  if (r18.2) = true then
   if (roomy 24 (l11 ++ [(⟨v12, x14.domain, r18.1⟩ : Choose_Lead)])) = true then
    some (Sum.inl (l11 ++ [(⟨v12, x14.domain, r18.1⟩ : Choose_Lead)], wr_i64 (v12 + 1)))
   else
    none
  else
   some (Sum.inl (l11, wr_i64 (v12 + 1)))
 else
  some (Sum.inr l11)

def choose_Routes (a1 : Api_Net) (a2 : Int) : Option (((List Choose_Lead))) :=
 if (decide (a2 < 0)) = true then
  some []
 else
  if (decide (a2 ≥ (a1.domains.length : Int))) = true then
   some []
  else
   (nth a1.domains a2).bind fun x5 =>
   if (decide (x5.irb < 0)) = true then
    some []
   else
    (names_Right a1).bind fun r8 =>
    if (!r8) = true then
     some []
    else
     (loopM (fun s : (List Choose_Lead) × Int => match s with | (l11, v12) => choose_Routes_L1 a1 a2 l11 v12) ([], 0)).bind fun r26 => match r26 with
     | l24 =>
      some l24

def labels_routes_L1 (l5 : List Choose_Lead) (l6 : List Int) (v7 : Int) : Option (((List Int) × Int) ⊕ ((List Int))) :=
 if (decide (v7 < ((List.length l5) : Int))) = true then
  if (lin l5 v7) = true then
   (l5[(Int.toNat v7)]?).bind fun x10 =>
   if (roomy 8 (l6 ++ [x10.domain])) = true then
    some (Sum.inl (l6 ++ [x10.domain], wr_i64 (v7 + 1)))
   else
    none
  else
   none
 else
  some (Sum.inr l6)

def labels_routes (a1 : Api_Net) (a2 : Int) : Option (((List Int))) :=
 (choose_Routes a1 a2).bind fun r3 => match r3 with
 | l5 =>
  (loopM (fun s : (List Int) × Int => match s with | (l6, v7) => labels_routes_L1 l5 l6 v7) ([], 0)).bind fun r17 => match r17 with
  | l15 =>
   some l15

def labels_begin_L1 (a1 : Api_Net) (l3 : List (List Int)) (l4 : List (List Int)) (v5 : Int) : Option (((List (List Int)) × (List (List Int)) × Int) ⊕ (((List (List Int)) × (List (List Int))))) :=
 if (decide (v5 < (a1.domains.length : Int))) = true then
  (labels_hops a1 v5).bind fun r7 => match r7 with
  | l9 =>
   if (roomy 24 (l3 ++ [l9])) = true then
    (labels_routes a1 v5).bind fun r11 => match r11 with
    | l13 =>
     if (roomy 24 (l4 ++ [l13])) = true then
      some (Sum.inl (l3 ++ [l9], l4 ++ [l13], wr_i64 (v5 + 1)))
     else
      none
   else
    none
 else
  some (Sum.inr (l3, l4))

def labels_begin (a1 : Api_Net) : Option (((List (List Int)) × (List (List Int)))) :=
 if (mkok 16 (a1.domains.length : Int) (a1.domains.length : Int)) = true then
  (loopM (fun s : (List (List Int)) × (List (List Int)) × Int => match s with | (l3, l4, v5) => labels_begin_L1 a1 l3 l4 v5) ([], [], 0)).bind fun r22 => match r22 with
  | (l19, l20) =>
   some (l19, l20)
 else
  none

def labels_spread_grow_own (a1 : List Api_Device) (a2 : List Api_Port) (a3 : List Api_Link) (a4 : List Api_Domain) (a5 : List Api_Static) (a6 : List Api_Flood) (a7 : List Api_Vrf) (a8 : List Api_Irb) (a9 : List Labels_Label) (n10 : Nat) (a11 : List Labels_queued) (a12 : List (List Int)) (a13 : List (List Int)) (a14 : Int) (a15 : Labels_Label) : Option (((List Labels_Label) × (List Labels_queued))) :=
 if (lin a9 a14) = true then
  (a9[(Int.toNat a14)]?).bind fun x17 =>
  if (!(eq_Labels_Label (⟨bits_or .i64 x17.plain a15.plain, bits_or .i64 x17.led a15.led⟩ : Labels_Label) x17)) = true then
   (a9[(Int.toNat a14)]?).bind fun x20 =>
   if (roomy 16 (a11 ++ [(⟨(⟨a14⟩ : Labels_task), false⟩ : Labels_queued)])) = true then
    some (List.set a9 (Int.toNat a14) (⟨bits_or .i64 x17.plain a15.plain, bits_or .i64 x17.led a15.led⟩ : Labels_Label), a11 ++ [(⟨(⟨a14⟩ : Labels_task), false⟩ : Labels_queued)])
   else
    none
  else
   some (a9, a11)
 else
  none

def labels_spread_grow_ownx (a1 : List Api_Device) (a2 : List Api_Port) (a3 : List Api_Link) (a4 : List Api_Domain) (a5 : List Api_Static) (a6 : List Api_Flood) (a7 : List Api_Vrf) (a8 : List Api_Irb) (a9 : List Labels_Label) (n10 : Nat) (a11 : List Labels_queued) (n12 : Nat) (a13 : List (List Int)) (a14 : List (List Int)) (a15 : Int) (a16 : Labels_Label) : Option (((List Labels_Label) × (List Labels_queued) × Nat)) :=
 if (lin a9 a15) = true then
  (a9[(Int.toNat a15)]?).bind fun x18 =>
  if (!(eq_Labels_Label (⟨bits_or .i64 x18.plain a16.plain, bits_or .i64 x18.led a16.led⟩ : Labels_Label) x18)) = true then
   (a9[(Int.toNat a15)]?).bind fun x21 =>
   if (roomy 16 (a11 ++ [(⟨(⟨a15⟩ : Labels_task), false⟩ : Labels_queued)])) = true then
    some (List.set a9 (Int.toNat a15) (⟨bits_or .i64 x18.plain a16.plain, bits_or .i64 x18.led a16.led⟩ : Labels_Label), a11 ++ [(⟨(⟨a15⟩ : Labels_task), false⟩ : Labels_queued)], (List.length (a11 ++ [(⟨(⟨a15⟩ : Labels_task), false⟩ : Labels_queued)])))
   else
    none
  else
   some (a9, a11, n12)
 else
  none

def labels_spread_run_own_L2 (a1 : List Api_Device) (a2 : List Api_Port) (a3 : List Api_Link) (a4 : List Api_Domain) (a5 : List Api_Static) (a6 : List Api_Flood) (a7 : List Api_Vrf) (a8 : List Api_Irb) (n10 : Nat) (a12 : List (List Int)) (a13 : List (List Int)) (v17 : Int) (x26 : Labels_queued) (x29 : Labels_Label) (x32 : List Int) (l34 : List Labels_Label) (l35 : List Labels_queued) (n36 : Nat) (v37 : Int) : Option (((List Labels_Label) × (List Labels_queued) × Nat × Int) ⊕ (((List Labels_Label) × (List Labels_queued) × Nat))) :=
 if (decide (v37 < (x32.length : Int))) = true then
  (nth x32 v37).bind fun x39 =>
  (labels_spread_grow_ownx a1 a2 a3 a4 a5 a6 a7 a8 l34 n10 l35 n36 a12 a13 x39 x29).bind fun r41 => match r41 with
  | (l43, l44, n45) =>
   some (Sum.inl (l43, l44, n45, wr_i64 (v37 + 1)))
 else
  some (Sum.inr (l34, l35, n36))

def labels_spread_run_own_L3 (a1 : List Api_Device) (a2 : List Api_Port) (a3 : List Api_Link) (a4 : List Api_Domain) (a5 : List Api_Static) (a6 : List Api_Flood) (a7 : List Api_Vrf) (a8 : List Api_Irb) (n10 : Nat) (a12 : List (List Int)) (a13 : List (List Int)) (v17 : Int) (x29 : Labels_Label) (x64 : List Int) (l66 : List Labels_Label) (l67 : List Labels_queued) (n68 : Nat) (v69 : Int) : Option (((List Labels_Label) × (List Labels_queued) × Nat × Int) ⊕ (((List Labels_Label) × (List Labels_queued) × Nat))) :=
 if (decide (v69 < (x64.length : Int))) = true then
  (nth x64 v69).bind fun x71 =>
  (labels_spread_grow_ownx a1 a2 a3 a4 a5 a6 a7 a8 l66 n10 l67 n68 a12 a13 x71 (⟨0, x29.plain⟩ : Labels_Label)).bind fun r73 => match r73 with
  | (l75, l76, n77) =>
   some (Sum.inl (l75, l76, n77, wr_i64 (v69 + 1)))
 else
  some (Sum.inr (l66, l67, n68))

def labels_spread_run_own_L1 (a1 : List Api_Device) (a2 : List Api_Port) (a3 : List Api_Link) (a4 : List Api_Domain) (a5 : List Api_Static) (a6 : List Api_Flood) (a7 : List Api_Vrf) (a8 : List Api_Irb) (n10 : Nat) (a12 : List (List Int)) (a13 : List (List Int)) (l14 : List Labels_Label) (l15 : List Labels_queued) (n16 : Nat) (v17 : Int) : Option (((List Labels_Label) × (List Labels_queued) × Nat × Int) ⊕ (((List Labels_Label) × (List Labels_queued) × Nat))) :=
 if (decide (v17 < (n16 : Int))) = true then
  if (lin l15 v17) = true then
   (l15[(Int.toNat v17)]?).bind fun x20 =>
   if (x20.done) = true then
    some (Sum.inl (l14, l15, n16, wr_i64 (v17 + 1)))
   else
    (l15[(Int.toNat v17)]?).bind fun x23 =>
    if (lin (List.set l15 (Int.toNat v17) (⟨x23.task, true⟩ : Labels_queued)) v17) = true then
     ((List.set l15 (Int.toNat v17) (⟨x23.task, true⟩ : Labels_queued))[(Int.toNat v17)]?).bind fun x26 =>
     if (lin l14 x26.task.domain) = true then
      (l14[(Int.toNat x26.task.domain)]?).bind fun x29 =>
      if (lin a12 x26.task.domain) = true then
       (a12[(Int.toNat x26.task.domain)]?).bind fun x32 =>
       (loopM (fun s : (List Labels_Label) × (List Labels_queued) × Nat × Int => match s with | (l34, l35, n36, v37) => labels_spread_run_own_L2 a1 a2 a3 a4 a5 a6 a7 a8 n10 a12 a13 v17 x26 x29 x32 l34 l35 n36 v37) (l14, List.set l15 (Int.toNat v17) (⟨x23.task, true⟩ : Labels_queued), n16, 0)).bind fun r62 => match r62 with
       | (l58, l59, n60) =>
        if (lin a13 x26.task.domain) = true then
         (a13[(Int.toNat x26.task.domain)]?).bind fun x64 =>
         (loopM (fun s : (List Labels_Label) × (List Labels_queued) × Nat × Int => match s with | (l66, l67, n68, v69) => labels_spread_run_own_L3 a1 a2 a3 a4 a5 a6 a7 a8 n10 a12 a13 v17 x29 x64 l66 l67 n68 v69) (l58, l59, n60, 0)).bind fun r88 => match r88 with
         | (l84, l85, n86) =>
          some (Sum.inl (l84, l85, n86, wr_i64 (v17 + 1)))
        else
         none
      else
       none
     else
      none
    else
     none
  else
   none
 else
  some (Sum.inr (l14, l15, n16))

def labels_spread_run_own (a1 : List Api_Device) (a2 : List Api_Port) (a3 : List Api_Link) (a4 : List Api_Domain) (a5 : List Api_Static) (a6 : List Api_Flood) (a7 : List Api_Vrf) (a8 : List Api_Irb) (a9 : List Labels_Label) (n10 : Nat) (a11 : List Labels_queued) (a12 : List (List Int)) (a13 : List (List Int)) : Option (((List Labels_Label) × (List Labels_queued) × Nat)) :=
 (loopM (fun s : (List Labels_Label) × (List Labels_queued) × Nat × Int => match s with | (l14, l15, n16, v17) => labels_spread_run_own_L1 a1 a2 a3 a4 a5 a6 a7 a8 n10 a12 a13 l14 l15 n16 v17) (a9, a11, (List.length a11), 0)).bind fun r93 => match r93 with
 | (l89, l90, n91) =>
  some (l89, l90, n91)

def labels_All_L2 (a1 : Api_Net) (a2 : List Int) (l8 : List (List Int)) (l9 : List (List Int)) (v12 : Int) (l16 : List Int) (l17 : List Labels_Label) (l18 : List Labels_queued) (v19 : Int) : Option (((List Labels_Label) × (List Labels_queued) × Int) ⊕ (((List Labels_Label) × (List Labels_queued)))) :=
 if (decide (v19 < ((List.length l16) : Int))) = true then
  if (lin l16 v19) = true then
   (l16[(Int.toNat v19)]?).bind fun x22 =>
   (nth a2 x22).bind fun x24 =>
   if (decide (x24 ≥ 0)) = true then
    (nth a2 x22).bind fun x27 =>
    if (decide (0 ≤ x27)) = true then
     (labels_spread_grow_own a1.devices a1.ports a1.links a1.domains a1.statics a1.floods a1.vrfs a1.irbs l17 (Int.toNat (a1.domains.length : Int)) l18 l8 l9 v12 (⟨wr_i64 (1 * 2 ^ (min (Int.toNat x27) 64)), 0⟩ : Labels_Label)).bind fun r30 => match r30 with
     | (l32, l33) =>
      some (Sum.inl (l32, l33, wr_i64 (v19 + 1)))
    else
     none
   else
    some (Sum.inl (l17, l18, wr_i64 (v19 + 1)))
  else
   none
 else
  some (Sum.inr (l17, l18))

def labels_All_L1 (a1 : Api_Net) (a2 : List Int) (l8 : List (List Int)) (l9 : List (List Int)) (l10 : List Labels_Label) (l11 : List Labels_queued) (v12 : Int) : Option (((List Labels_Label) × (List Labels_queued) × Int) ⊕ (((List Labels_Label) × (List Labels_queued)))) :=
 if (decide (v12 < (a1.domains.length : Int))) = true then
  (names_Members a1 v12).bind fun r14 => match r14 with
  | l16 =>
   (loopM (fun s : (List Labels_Label) × (List Labels_queued) × Int => match s with | (l17, l18, v19) => labels_All_L2 a1 a2 l8 l9 v12 l16 l17 l18 v19) (l10, l11, 0)).bind fun r51 => match r51 with
   | (l48, l49) =>
    some (Sum.inl (l48, l49, wr_i64 (v12 + 1)))
 else
  some (Sum.inr (l10, l11))

def labels_All (a1 : Api_Net) (a2 : List Int) : Option (((List Labels_Label) × Nat × Bool)) :=
 (owners_Right a1 a2).bind fun r3 =>
 if (!r3) = true then
  some ([], 0, false)
 else
  (labels_begin a1).bind fun r6 => match r6 with
  | (l8, l9) =>
   (loopM (fun s : (List Labels_Label) × (List Labels_queued) × Int => match s with | (l10, l11, v12) => labels_All_L1 a1 a2 l8 l9 l10 l11 v12) (List.replicate (Int.toNat (a1.domains.length : Int)) (⟨0, 0⟩ : Labels_Label), [], 0)).bind fun r61 => match r61 with
   | (l58, l59) =>
    (labels_spread_run_own a1.devices a1.ports a1.links a1.domains a1.statics a1.floods a1.vrfs a1.irbs l58 (Int.toNat (a1.domains.length : Int)) l59 l8 l9).bind fun r62 => match r62 with
    | (l64, l65, n66) =>
     some (l64, (Int.toNat (a1.domains.length : Int)), true)

def labels_Ports_L2 (a1 : Api_Net) (a2 : List Int) (l5 : List Labels_Label) (n6 : Nat) (v11 : Int) (x14 : Labels_Label) (l18 : List Int) (l19 : List Int) (v20 : Int) : Option (((List Int) × Int) ⊕ ((List Int))) :=
 if (decide (v20 < ((List.length l18) : Int))) = true then
  if (lin l18 v20) = true then
   (l18[(Int.toNat v20)]?).bind fun x23 =>
   (nth a2 x23).bind fun x25 =>
   if (decide (x25 ≥ 0)) = true then
    if (lin l19 x23) = true then
     (l19[(Int.toNat x23)]?).bind fun x29 =>
     (l19[(Int.toNat x23)]?).bind fun x31 =>
     some (Sum.inl (List.set l19 (Int.toNat x23) (bits_or .i64 x29 (bits_or .i64 x14.plain x14.led) : Int), wr_i64 (v20 + 1)))
    else
     none
   else
    some (Sum.inl (l19, wr_i64 (v20 + 1)))
  else
   none
 else
  some (Sum.inr l19)

def labels_Ports_L1 (a1 : Api_Net) (a2 : List Int) (l5 : List Labels_Label) (n6 : Nat) (l10 : List Int) (v11 : Int) : Option (((List Int) × Int) ⊕ ((List Int))) :=
 if (decide (v11 < (n6 : Int))) = true then
  if (lin l5 v11) = true then
   (l5[(Int.toNat v11)]?).bind fun x14 =>
   (names_Members a1 v11).bind fun r16 => match r16 with
   | l18 =>
    (loopM (fun s : (List Int) × Int => match s with | (l19, v20) => labels_Ports_L2 a1 a2 l5 n6 v11 x14 l18 l19 v20) (l10, 0)).bind fun r43 => match r43 with
    | l41 =>
     some (Sum.inl (l41, wr_i64 (v11 + 1)))
  else
   none
 else
  some (Sum.inr l10)

def labels_Ports (a1 : Api_Net) (a2 : List Int) : Option (((List Int) × Nat × Bool)) :=
 (labels_All a1 a2).bind fun r3 => match r3 with
 | (l5, n6, v7) =>
  if (!v7) = true then
   some ([], 0, false)
  else
   if (mkok 8 (a1.ports.length : Int) (a1.ports.length : Int)) = true then
    (loopM (fun s : (List Int) × Int => match s with | (l10, v11) => labels_Ports_L1 a1 a2 l5 n6 l10 v11) (List.replicate (Int.toNat (a1.ports.length : Int)) (0 : Int), 0)).bind fun r49 => match r49 with
    | l47 =>
     some (l47, (Int.toNat (a1.ports.length : Int)), true)
   else
    none

def matrix_none : Option (Matrix_Cell) :=
 some (⟨0, (-1), (-1)⟩ : Matrix_Cell)

def math_bits_Mul64 (a1 : Int) (a2 : Int) : Option (Int × Int) :=
 some (wr_u64 ((wr_u64 ((wr_u64 ((Int.fdiv a1 (2 ^ 32)) * (Int.fdiv a2 (2 ^ 32)))) + (Int.fdiv (wr_u64 ((wr_u64 ((Int.fdiv a1 (2 ^ 32)) * (bits_and .u64 a2 4294967295))) + (Int.fdiv (wr_u64 ((bits_and .u64 a1 4294967295) * (bits_and .u64 a2 4294967295))) (2 ^ 32)))) (2 ^ 32)))) + (Int.fdiv (wr_u64 ((bits_and .u64 (wr_u64 ((wr_u64 ((Int.fdiv a1 (2 ^ 32)) * (bits_and .u64 a2 4294967295))) + (Int.fdiv (wr_u64 ((bits_and .u64 a1 4294967295) * (bits_and .u64 a2 4294967295))) (2 ^ 32)))) 4294967295) + (wr_u64 ((bits_and .u64 a1 4294967295) * (Int.fdiv a2 (2 ^ 32)))))) (2 ^ 32))), wr_u64 (a1 * a2))

def math_bits_Mul (a1 : Int) (a2 : Int) : Option (Int × Int) :=
 (math_bits_Mul64 a1 a2).bind fun r3 =>
 some (r3.1, r3.2)

def slices_Repeat_Cell_L1 (r4 : Int × Int) (l9 : List Matrix_Cell) (v10 : Int) : Option (((List Matrix_Cell) × Int) ⊕ ((List Matrix_Cell))) :=
 if (decide (v10 < ((Int.toNat (wr_i64 r4.2)) : Int))) = true then
  if (slok (List.length l9) v10 ((List.length l9) : Int)) = true then
   if (slok (List.length l9) 0 v10) = true then
    some (Sum.inl (List.take (Int.toNat v10) l9 ++ (List.take (min (List.length (List.drop (Int.toNat 0) (List.take (Int.toNat v10) l9))) ((Int.toNat ((List.length l9) : Int)) - (Int.toNat v10))) (List.drop (Int.toNat 0) (List.take (Int.toNat v10) l9)) ++ List.drop ((Int.toNat v10) + (min (List.length (List.drop (Int.toNat 0) (List.take (Int.toNat v10) l9))) ((Int.toNat ((List.length l9) : Int)) - (Int.toNat v10)))) l9), wr_i64 (v10 + (((min (List.length (List.drop (Int.toNat 0) (List.take (Int.toNat v10) l9))) ((Int.toNat ((List.length l9) : Int)) - (Int.toNat v10))) : Nat) : Int))))
   else
    none
  else
   none
 else
  some (Sum.inr l9)

def slices_Repeat_Cell (a1 : List Matrix_Cell) (a2 : Int) : Option (((List Matrix_Cell) × Nat)) :=
 if (decide (a2 < 0)) = true then
  none
 else
  (math_bits_Mul (wr_u64 (a1.length : Int)) (wr_u64 a2)).bind fun r4 =>
  if (decide (r4.1 > 0)) = true then
   none
  else
   if (decide (r4.2 > 9223372036854775807)) = true then
    none
   else
    if (mkok 24 (wr_i64 r4.2) (wr_i64 r4.2)) = true then
     (loopM (fun s : (List Matrix_Cell) × Int => match s with | (l9, v10) => slices_Repeat_Cell_L1 r4 l9 v10) (List.take 0 (List.replicate (Int.toNat (wr_i64 r4.2)) (⟨0, 0, 0⟩ : Matrix_Cell)) ++ (List.take (min (List.length a1) ((List.length (List.replicate (Int.toNat (wr_i64 r4.2)) (⟨0, 0, 0⟩ : Matrix_Cell))) - 0)) a1 ++ List.drop (0 + (min (List.length a1) ((List.length (List.replicate (Int.toNat (wr_i64 r4.2)) (⟨0, 0, 0⟩ : Matrix_Cell))) - 0))) (List.replicate (Int.toNat (wr_i64 r4.2)) (⟨0, 0, 0⟩ : Matrix_Cell))), (((min (List.length a1) ((List.length (List.replicate (Int.toNat (wr_i64 r4.2)) (⟨0, 0, 0⟩ : Matrix_Cell))) - 0)) : Nat) : Int))).bind fun r18 => match r18 with
     | l16 =>
      some (l16, (Int.toNat (wr_i64 r4.2)))
    else
     none

def labels_has (a1 : Int) (a2 : Int) : Option (Bool) :=
 if (decide (a2 ≥ 0)) = true then
  if (decide (a2 < 10)) = true then
   if (decide (0 ≤ a2)) = true then
    some ((bits_and .i64 (Int.fdiv a1 (2 ^ (min (Int.toNat a2) 64))) 1) == 1)
   else
    none
  else
   some false
 else
  some false

def labels_Names_L1 (a1 : Int) (l2 : List Int) (v3 : Int) : Option (((List Int) × Int) ⊕ ((List Int))) :=
 if (decide (v3 < 10)) = true then
  (labels_has a1 v3).bind fun r5 =>
  if (r5) = true then
   if (roomy 8 (l2 ++ [v3])) = true then
    some (Sum.inl (l2 ++ [v3], wr_i64 (v3 + 1)))
   else
    none
  else
   some (Sum.inl (l2, wr_i64 (v3 + 1)))
 else
  some (Sum.inr l2)

def labels_Names (a1 : Int) : Option (((List Int))) :=
 (loopM (fun s : (List Int) × Int => match s with | (l2, v3) => labels_Names_L1 a1 l2 v3) ([], 0)).bind fun r13 => match r13 with
 | l11 =>
  some l11

def matrix_Of_L1 (a2 : List Int) (a3 : Int) (l9 : List Int) (n10 : Nat) (l13 : List (List Matrix_Cell)) (p14 : List Bool) (v15 : Int) : Option (((List (List Matrix_Cell)) × (List Bool) × Int) ⊕ (((List (List Matrix_Cell)) × (List Bool)))) :=
 if (decide (v15 < ((Int.toNat a3) : Int))) = true then
  (l13[(Int.toNat v15)]?).bind fun x17 =>
  if (pmis p14 (Int.toNat v15) false) = true then
   (matrix_none).bind fun r20 =>
   (slices_Repeat_Cell [r20] a3).bind fun r22 => match r22 with
   | (l24, n25) =>
    if (lin l13 v15) = true then
     some (Sum.inl (List.set l13 (Int.toNat v15) l24, (List.set p14 (Int.toNat v15) true), wr_i64 (v15 + 1)))
    else
     none
  else
   none
 else
  some (Sum.inr (l13, p14))

def matrix_Of_L3 (a2 : List Int) (a3 : Int) (l9 : List Int) (n10 : Nat) (v43 : Int) (x45 : Int) (l53 : List Int) (l54 : List (List Matrix_Cell)) (p55 : List Bool) (v56 : Int) : Option (((List (List Matrix_Cell)) × (List Bool) × Int) ⊕ (((List (List Matrix_Cell)) × (List Bool)))) :=
 if (decide (v56 < ((List.length l53) : Int))) = true then
  if (lin l53 v56) = true then
   (l53[(Int.toNat v56)]?).bind fun x59 =>
   (l54[(Int.toNat x59)]?).bind fun x61 =>
   if (pmis p55 (Int.toNat x59) true) = true then
    if (lin l54 x59) = true then
     if (lin x61 x45) = true then
      (x61[(Int.toNat x45)]?).bind fun x66 =>
      (matrix_none).bind fun r68 =>
      if (eq_Matrix_Cell x66 r68) = true then
       (slices_Index_int a2 x59).bind fun r71 =>
       (x61[(Int.toNat x45)]?).bind fun x73 =>
       ((List.set x61 (Int.toNat x45) (⟨x73.ports, r71, x73.to⟩ : Matrix_Cell))[(Int.toNat x45)]?).bind fun x75 =>
       ((List.set (List.set x61 (Int.toNat x45) (⟨x73.ports, r71, x73.to⟩ : Matrix_Cell)) (Int.toNat x45) (⟨x75.ports, x75.from_, v43⟩ : Matrix_Cell))[(Int.toNat x45)]?).bind fun x77 =>
       ((List.set (List.set x61 (Int.toNat x45) (⟨x73.ports, r71, x73.to⟩ : Matrix_Cell)) (Int.toNat x45) (⟨x75.ports, x75.from_, v43⟩ : Matrix_Cell))[(Int.toNat x45)]?).bind fun x79 =>
       some (Sum.inl (List.set l54 (Int.toNat x59) (List.set (List.set (List.set x61 (Int.toNat x45) (⟨x73.ports, r71, x73.to⟩ : Matrix_Cell)) (Int.toNat x45) (⟨x75.ports, x75.from_, v43⟩ : Matrix_Cell)) (Int.toNat x45) (⟨wr_i64 (x77.ports + 1), x79.from_, x79.to⟩ : Matrix_Cell)), (List.set p55 (Int.toNat x59) true), wr_i64 (v56 + 1)))
      else
       (x61[(Int.toNat x45)]?).bind fun x81 =>
       (x61[(Int.toNat x45)]?).bind fun x83 =>
       some (Sum.inl (List.set l54 (Int.toNat x59) (List.set x61 (Int.toNat x45) (⟨wr_i64 (x81.ports + 1), x83.from_, x83.to⟩ : Matrix_Cell)), (List.set p55 (Int.toNat x59) true), wr_i64 (v56 + 1)))
     else
      none
    else
     none
   else
    none
  else
   none
 else
  some (Sum.inr (l54, p55))

def matrix_Of_L2 (a2 : List Int) (a3 : Int) (l9 : List Int) (n10 : Nat) (l41 : List (List Matrix_Cell)) (p42 : List Bool) (v43 : Int) : Option (((List (List Matrix_Cell)) × (List Bool) × Int) ⊕ (((List (List Matrix_Cell)) × (List Bool)))) :=
 if (decide (v43 < (a2.length : Int))) = true then
  (nth a2 v43).bind fun x45 =>
  if (decide (x45 < 0)) = true then
   some (Sum.inl (l41, p42, wr_i64 (v43 + 1)))
  else
   if (lin l9 v43) = true then
    (l9[(Int.toNat v43)]?).bind fun x49 =>
    (labels_Names x49).bind fun r51 => match r51 with
    | l53 =>
     (loopM (fun s : (List (List Matrix_Cell)) × (List Bool) × Int => match s with | (l54, p55, v56) => matrix_Of_L3 a2 a3 l9 n10 v43 x45 l53 l54 p55 v56) (l41, p42, 0)).bind fun r104 => match r104 with
     | (l101, p102) =>
      some (Sum.inl (l101, p102, wr_i64 (v43 + 1)))
   else
    none
 else
  some (Sum.inr (l41, p42))

def matrix_Of (a1 : Api_Net) (a2 : List Int) (a3 : Int) : Option (((List (List Matrix_Cell)) × Nat × Bool)) :=
 (matrix_fits a1 a2 a3).bind fun r4 =>
 if (!r4) = true then
  some ([], 0, false)
 else
  (labels_Ports a1 a2).bind fun r7 => match r7 with
  | (l9, n10, v11) =>
   if (mkok 24 a3 a3) = true then
    (loopM (fun s : (List (List Matrix_Cell)) × (List Bool) × Int => match s with | (l13, p14, v15) => matrix_Of_L1 a2 a3 l9 n10 l13 p14 v15) (List.replicate (Int.toNat a3) [], (List.replicate (List.length (List.replicate (Int.toNat a3) [] : List (List Matrix_Cell))) false), 0)).bind fun r40 => match r40 with
    | (l37, p38) =>
     (loopM (fun s : (List (List Matrix_Cell)) × (List Bool) × Int => match s with | (l41, p42, v43) => matrix_Of_L2 a2 a3 l9 n10 l41 p42 v43) (l37, p38, 0)).bind fun r114 => match r114 with
     | (l111, p112) =>
      some (l111, (Int.toNat a3), true)
   else
    none

def matrix_Text_1 (a1 : List Matrix_Cell) (a2 : List (List Matrix_Cell)) : Option (Bool) :=
 some ((a1.length : Int) != (a2.length : Int))

def slices_IndexFunc_Cell_Text_1_L1 (a1 : List (List Matrix_Cell)) (a2 : List (List Matrix_Cell)) (v3 : Int) : Option ((Int) ⊕ (Int ⊕ Unit)) :=
 if (decide (v3 < (a1.length : Int))) = true then
  (nth a1 v3).bind fun x5 =>
  (matrix_Text_1 x5 a2).bind fun r7 =>
  if (r7) = true then
   some (Sum.inr (Sum.inl v3))
  else
   some (Sum.inl (wr_i64 (v3 + 1)))
 else
  some (Sum.inr (Sum.inr ()))

def slices_IndexFunc_Cell_Text_1 (a1 : List (List Matrix_Cell)) (a2 : List (List Matrix_Cell)) : Option (Int) :=
 (loopM (slices_IndexFunc_Cell_Text_1_L1 a1 a2) 0).bind fun r13 => match r13 with
 | Sum.inl v11 =>
  some v11
 | Sum.inr () =>
  some (-1)

def slices_ContainsFunc_Cell_Text_1 (a1 : List (List Matrix_Cell)) (a2 : List (List Matrix_Cell)) : Option (Bool) :=
 (slices_IndexFunc_Cell_Text_1 a1 a2).bind fun r3 =>
 some (decide (r3 ≥ 0))

def num_Name_L1 (a1 : ByteArray) (v2 : Int) : Option ((Int) ⊕ (Unit ⊕ Unit)) :=
 if (decide (v2 < (a1.size : Int))) = true then
  if (decide (0 ≤ (v2 : Int) ∧ (v2 : Int) < (a1.size : Int))) = true then
   if (decide ((byteAt a1 v2) ≥ 97)) = true then
    if (decide ((byteAt a1 v2) ≥ 48)) = true then
     if (!(decide ((byteAt a1 v2) ≤ 122))) = true then
      if (!(decide ((byteAt a1 v2) ≤ 57))) = true then
       some (Sum.inr (Sum.inl ()))
      else
       if (v2 == 0) = true then
        some (Sum.inr (Sum.inl ()))
       else
        some (Sum.inl (wr_i64 (v2 + 1)))
     else
      some (Sum.inl (wr_i64 (v2 + 1)))
    else
     if (!(decide ((byteAt a1 v2) ≤ 122))) = true then
      some (Sum.inr (Sum.inl ()))
     else
      some (Sum.inl (wr_i64 (v2 + 1)))
   else
    if (decide ((byteAt a1 v2) ≥ 48)) = true then
     if (!(decide ((byteAt a1 v2) ≤ 57))) = true then
      some (Sum.inr (Sum.inl ()))
     else
      if (v2 == 0) = true then
       some (Sum.inr (Sum.inl ()))
      else
       some (Sum.inl (wr_i64 (v2 + 1)))
    else
     some (Sum.inr (Sum.inl ()))
  else
   none
 else
  some (Sum.inr (Sum.inr ()))

def num_Name (a1 : ByteArray) : Option (Bool) :=
 (loopM (num_Name_L1 a1) 0).bind fun r15 => match r15 with
 | Sum.inl () =>
  some false
 | Sum.inr () =>
  if (decide ((a1.size : Int) > 0)) = true then
   some (decide ((a1.size : Int) ≤ 12))
  else
   some false

def matrix_named_1 (a1 : ByteArray) : Option (Bool) :=
 (num_Name a1).bind fun r2 =>
 some (!r2)

def slices_IndexFunc_string_named_1_L1 (a1 : List ByteArray) (v2 : Int) : Option ((Int) ⊕ (Int ⊕ Unit)) :=
 if (decide (v2 < (a1.length : Int))) = true then
  (nth a1 v2).bind fun x4 =>
  (matrix_named_1 x4).bind fun r6 =>
  if (r6) = true then
   some (Sum.inr (Sum.inl v2))
  else
   some (Sum.inl (wr_i64 (v2 + 1)))
 else
  some (Sum.inr (Sum.inr ()))

def slices_IndexFunc_string_named_1 (a1 : List ByteArray) : Option (Int) :=
 (loopM (slices_IndexFunc_string_named_1_L1 a1) 0).bind fun r12 => match r12 with
 | Sum.inl v10 =>
  some v10
 | Sum.inr () =>
  some (-1)

def slices_ContainsFunc_string_named_1 (a1 : List ByteArray) : Option (Bool) :=
 (slices_IndexFunc_string_named_1 a1).bind fun r2 =>
 some (decide (r2 ≥ 0))

def matrix_named (a1 : List ByteArray) : Option (Bool) :=
 (slices_ContainsFunc_string_named_1 a1).bind fun r2 =>
 some (!r2)

def strings_Builder_copyCheck_own : Option ((Unit)) :=
 some ()

def strings_Builder_WriteString_own (a1 : ByteArray) : Option ((Unit)) :=
 (strings_Builder_copyCheck_own).bind fun r2 => match r2 with
 | () =>
  if (decide (0 < a1.size)) = true then
   if (roomy 1 (bts a1)) = true then
    some ()
   else
    none
  else
   none

def num_Text_J1 (a1 : Int) : Option (Int) :=
 if (decide (a1 < 0)) = true then
  some (wr_u64 (0 - (wr_u64 a1)))
 else
  some (wr_u64 a1)

def num_Text_L2 (a1 : Int) (l7 : List Int) (v8 : Int) (v9 : Bool) : Option (((List Int) × Int × Bool) ⊕ ((List Int))) :=
 if (v9) = true then
  if (roomy 1 (l7 ++ [(wr_u8 (wr_u64 (48 + (Int.tmod v8 10))) : Int)])) = true then
   some (Sum.inl (l7 ++ [(wr_u8 (wr_u64 (48 + (Int.tmod v8 10))) : Int)], wr_u64 (Int.tdiv v8 10), decide ((wr_u64 (Int.tdiv v8 10)) > 0)))
  else
   none
 else
  some (Sum.inr l7)

def num_Text_J3 (a1 : Int) (l15 : List Int) : Option ((List Int)) :=
 if (decide (a1 < 0)) = true then
  if (roomy 1 (l15 ++ [(45 : Int)])) = true then
   some (l15 ++ [(45 : Int)])
  else
   none
 else
  some l15

def num_Text_L4 (l22 : List Int) (l25 : List Int) (v26 : Int) (v27 : Int) : Option (((List Int) × Int × Int) ⊕ ((List Int))) :=
 if (decide (v26 < v27)) = true then
  if (lin l25 v27) = true then
   (l25[(Int.toNat v27)]?).bind fun x30 =>
   if (lin l25 v26) = true then
    (l25[(Int.toNat v26)]?).bind fun x33 =>
    (l25[(Int.toNat v26)]?).bind fun x35 =>
    if (lin (List.set l25 (Int.toNat v26) x30) v27) = true then
     ((List.set l25 (Int.toNat v26) x30)[(Int.toNat v27)]?).bind fun x38 =>
     some (Sum.inl (List.set (List.set l25 (Int.toNat v26) x30) (Int.toNat v27) x33, wr_i64 (v26 + 1), wr_i64 (v27 - 1)))
    else
     none
   else
    none
  else
   none
 else
  some (Sum.inr l25)

def num_Text (a1 : Int) : Option (ByteArray) :=
 (num_Text_J1 a1).bind fun r6 => match r6 with
 | v4 =>
  (loopM (fun s : (List Int) × Int × Bool => match s with | (l7, v8, v9) => num_Text_L2 a1 l7 v8 v9) ([], v4, true)).bind fun r17 => match r17 with
  | l15 =>
   (num_Text_J3 a1 l15).bind fun r24 => match r24 with
   | l22 =>
    (loopM (fun s : (List Int) × Int × Int => match s with | (l25, v26, v27) => num_Text_L4 l22 l25 v26 v27) (l22, 0, wr_i64 (((List.length l22) : Int) - 1))).bind fun r44 => match r44 with
    | l42 =>
     some (bstr l42)

def strings_Builder_copyCheck_ownx (a1 : List Int) : Option ((Unit)) :=
 some ()

def strings_Builder_WriteString_ownx (a1 : List Int) (a2 : ByteArray) : Option ((Unit)) :=
 (strings_Builder_copyCheck_ownx a1).bind fun r3 => match r3 with
 | () =>
  if (roomy 1 (a1 ++ bts a2)) = true then
   some ()
  else
   none

def strings_Builder_WriteByte_own (a1 : List Int) (a2 : Int) : Option ((Unit)) :=
 (strings_Builder_copyCheck_ownx a1).bind fun r3 => match r3 with
 | () =>
  if (roomy 1 (a1 ++ [a2])) = true then
   some ()
  else
   none

def strings_Builder_String_own : Option ((Unit)) :=
 some ()

def strings_Builder_String_ownx (a1 : List Int) : Option ((Unit)) :=
 if (decide (0 < (List.length a1))) = true then
  if (bytok a1) = true then
   some ()
  else
   none
 else
  none

def matrix_Text_L2 (a1 : List ByteArray) (a2 : List (List Matrix_Cell)) (x14 : List Matrix_Cell) (l21 : List Int) (v22 : Int) : Option (((List Int) × Int) ⊕ ((List Int))) :=
 if (decide (v22 < (x14.length : Int))) = true then
  (nth x14 v22).bind fun x24 =>
  (num_Text x24.ports).bind fun r26 =>
  if (sadok (⟨#[32]⟩ : ByteArray) r26) = true then
   (strings_Builder_WriteString_ownx l21 ((⟨#[32]⟩ : ByteArray) ++ r26)).bind fun r29 => match r29 with
   | () =>
    some (Sum.inl (l21 ++ bts ((⟨#[32]⟩ : ByteArray) ++ r26), wr_i64 (v22 + 1)))
  else
   none
 else
  some (Sum.inr l21)

def matrix_Text_L3 (a1 : List ByteArray) (a2 : List (List Matrix_Cell)) (v12 : Int) (x44 : List Matrix_Cell) (l51 : List Int) (v52 : Int) : Option (((List Int) × Int) ⊕ ((List Int))) :=
 if (decide (v52 < (x44.length : Int))) = true then
  (nth x44 v52).bind fun x54 =>
  (num_Text x54.ports).bind fun r56 =>
  if (sadok (⟨#[32]⟩ : ByteArray) r56) = true then
   (strings_Builder_WriteString_ownx l51 ((⟨#[32]⟩ : ByteArray) ++ r56)).bind fun r59 => match r59 with
   | () =>
    some (Sum.inl (l51 ++ bts ((⟨#[32]⟩ : ByteArray) ++ r56), wr_i64 (v52 + 1)))
  else
   none
 else
  some (Sum.inr l51)

def matrix_Text_L1 (a1 : List ByteArray) (a2 : List (List Matrix_Cell)) (l11 : List Int) (v12 : Int) : Option (((List Int) × Int) ⊕ (Unit ⊕ (List Int))) :=
 if (decide (v12 < (a2.length : Int))) = true then
  (nth a2 v12).bind fun x44 =>
  (nth a1 v12).bind fun x46 =>
  if (sadok x46 (⟨#[58]⟩ : ByteArray)) = true then
   (strings_Builder_WriteString_ownx l11 (x46 ++ (⟨#[58]⟩ : ByteArray))).bind fun r49 => match r49 with
   | () =>
    (loopM (fun s : (List Int) × Int => match s with | (l51, v52) => matrix_Text_L3 a1 a2 v12 x44 l51 v52) (l11 ++ bts (x46 ++ (⟨#[58]⟩ : ByteArray)), 0)).bind fun r70 => match r70 with
    | l68 =>
     (strings_Builder_WriteByte_own l68 10).bind fun r71 => match r71 with
     | () =>
      some (Sum.inl (l68 ++ [10], wr_i64 (v12 + 1)))
  else
   none
 else
  some (Sum.inr (Sum.inr l11))

def matrix_Text_L1z (a1 : List ByteArray) (a2 : List (List Matrix_Cell)) : Option (((List Int) × Int) ⊕ (Unit ⊕ (List Int))) :=
 if (decide (0 < (a2.length : Int))) = true then
  (nth a2 0).bind fun x14 =>
  (nth a1 0).bind fun x16 =>
  if (sadok x16 (⟨#[58]⟩ : ByteArray)) = true then
   (strings_Builder_WriteString_own (x16 ++ (⟨#[58]⟩ : ByteArray))).bind fun r19 => match r19 with
   | () =>
    (loopM (fun s : (List Int) × Int => match s with | (l21, v22) => matrix_Text_L2 a1 a2 x14 l21 v22) (bts (x16 ++ (⟨#[58]⟩ : ByteArray)), 0)).bind fun r40 => match r40 with
    | l38 =>
     (strings_Builder_WriteByte_own l38 10).bind fun r41 => match r41 with
     | () =>
      some (Sum.inl (l38 ++ [10], wr_i64 (0 + 1)))
  else
   none
 else
  some (Sum.inr (Sum.inl ()))

def matrix_Text (a1 : List ByteArray) (a2 : List (List Matrix_Cell)) : Option (ByteArray × Int) :=
 (slices_ContainsFunc_Cell_Text_1 a2 a2).bind fun r3 =>
 if ((a1.length : Int) != (a2.length : Int)) = true then
  some ((⟨#[]⟩ : ByteArray), 2)
 else
  if (!(!r3)) = true then
   some ((⟨#[]⟩ : ByteArray), 2)
  else
   (matrix_named a1).bind fun r7 =>
   if (!r7) = true then
    some ((⟨#[]⟩ : ByteArray), 2)
   else
    if (decide ((a2.length : Int) > 10)) = true then
     some ((⟨#[]⟩ : ByteArray), 3)
    else
     (loopP (matrix_Text_L1z a1 a2) (fun s : (List Int) × Int => match s with | (l11, v12) => matrix_Text_L1 a1 a2 l11 v12)).bind fun r78 => match r78 with
     | Sum.inl () =>
      (strings_Builder_String_own).bind fun r79 => match r79 with
      | () =>
       some ((⟨#[]⟩ : ByteArray), 0)
     | Sum.inr l76 =>
      (strings_Builder_String_ownx l76).bind fun r81 => match r81 with
      | () =>
       some (bstr l76, 0)

def labels_Domains_L1 (a3 : Int) (l6 : List Labels_Label) (n7 : Nat) (l9 : List Int) (l10 : List Int) (v11 : Int) : Option (((List Int) × (List Int) × Int) ⊕ (((List Int) × (List Int)))) :=
 if (decide (v11 < (n7 : Int))) = true then
  if (lin l6 v11) = true then
   (l6[(Int.toNat v11)]?).bind fun x14 =>
   (labels_has x14.plain a3).bind fun r16 =>
   if (r16) = true then
    if (roomy 8 (l9 ++ [v11])) = true then
     (labels_has x14.led a3).bind fun r20 =>
     if (r20) = true then
      if (roomy 8 (l10 ++ [v11])) = true then
       some (Sum.inl (l9 ++ [v11], l10 ++ [v11], wr_i64 (v11 + 1)))
      else
       none
     else
      some (Sum.inl (l9 ++ [v11], l10, wr_i64 (v11 + 1)))
    else
     none
   else
    (labels_has x14.led a3).bind fun r24 =>
    if (r24) = true then
     if (roomy 8 (l10 ++ [v11])) = true then
      some (Sum.inl (l9, l10 ++ [v11], wr_i64 (v11 + 1)))
     else
      none
    else
     some (Sum.inl (l9, l10, wr_i64 (v11 + 1)))
  else
   none
 else
  some (Sum.inr (l9, l10))

def labels_Domains (a1 : Api_Net) (a2 : List Int) (a3 : Int) : Option (((List Int) × (List Int))) :=
 (labels_All a1 a2).bind fun r4 => match r4 with
 | (l6, n7, v8) =>
  (loopM (fun s : (List Int) × (List Int) × Int => match s with | (l9, l10, v11) => labels_Domains_L1 a3 l6 n7 l9 l10 v11) ([], [], 0)).bind fun r35 => match r35 with
  | (l32, l33) =>
   some (l32, l33)

def strings_Join (a1 : List ByteArray) (a2 : ByteArray) : Option (ByteArray) :=
 if joinok a1 a2 = true then some (joinTx a1 a2) else none

def domains_joined (a1 : List ByteArray) : Option (ByteArray) :=
 (strings_Join a1 (⟨#[]⟩ : ByteArray)).bind fun r2 =>
 some r2

def domains_Text (a1 : Api_Net) (a2 : Int) : Option (ByteArray) :=
 if (decide (a2 < 0)) = true then
  some (⟨#[]⟩ : ByteArray)
 else
  if (decide (a2 ≥ (a1.domains.length : Int))) = true then
   some (⟨#[]⟩ : ByteArray)
  else
   (names_Right a1).bind fun r5 =>
   if (!r5) = true then
    some (⟨#[]⟩ : ByteArray)
   else
    (nth a1.domains a2).bind fun x8 =>
    (nth a1.devices x8.dev).bind fun x10 =>
    (num_Text x8.vlan).bind fun r12 =>
    (domains_joined [x10.name, (⟨#[47]⟩ : ByteArray), r12]).bind fun r14 =>
    some r14

def matrix_list_L1 (a1 : Api_Net) (a2 : List Int) (v3 : ByteArray) (v4 : Int) : Option ((ByteArray × Int) ⊕ (ByteArray)) :=
 if (decide (v4 < (a2.length : Int))) = true then
  (nth a2 v4).bind fun x6 =>
  (domains_Text a1 x6).bind fun r8 =>
  if (sadok (⟨#[32]⟩ : ByteArray) r8) = true then
   if (sadok v3 ((⟨#[32]⟩ : ByteArray) ++ r8)) = true then
    some (Sum.inl (v3 ++ ((⟨#[32]⟩ : ByteArray) ++ r8), wr_i64 (v4 + 1)))
   else
    none
  else
   none
 else
  some (Sum.inr v3)

def matrix_list (a1 : Api_Net) (a2 : List Int) : Option (ByteArray) :=
 (loopM (fun s : ByteArray × Int => match s with | (v3, v4) => matrix_list_L1 a1 a2 v3 v4) ((⟨#[]⟩ : ByteArray), 0)).bind fun r15 => match r15 with
 | v13 =>
  some v13

def matrix_Floods_L1 (a1 : Api_Net) (a2 : List Int) (a3 : List ByteArray) (l14 : List Int) (v15 : Int) : Option (((List Int) × Int) ⊕ (Unit ⊕ (List Int))) :=
 if (decide (v15 < (a3.length : Int))) = true then
  (nth a3 v15).bind fun x40 =>
  (labels_Domains a1 a2 v15).bind fun r42 => match r42 with
  | (l44, l45) =>
   if (sadok x40 (⟨#[58]⟩ : ByteArray)) = true then
    (matrix_list a1 l44).bind fun r47 =>
    if (sadok (x40 ++ (⟨#[58]⟩ : ByteArray)) r47) = true then
     (strings_Builder_WriteString_ownx l14 ((x40 ++ (⟨#[58]⟩ : ByteArray)) ++ r47)).bind fun r50 => match r50 with
     | () =>
      if (decide (((List.length l45) : Int) > 0)) = true then
       (matrix_list a1 l45).bind fun r53 =>
       if (sadok (⟨#[32, 124]⟩ : ByteArray) r53) = true then
        (strings_Builder_WriteString_ownx (l14 ++ bts ((x40 ++ (⟨#[58]⟩ : ByteArray)) ++ r47)) ((⟨#[32, 124]⟩ : ByteArray) ++ r53)).bind fun r56 => match r56 with
        | () =>
         (strings_Builder_WriteByte_own ((l14 ++ bts ((x40 ++ (⟨#[58]⟩ : ByteArray)) ++ r47)) ++ bts ((⟨#[32, 124]⟩ : ByteArray) ++ r53)) 10).bind fun r58 => match r58 with
         | () =>
          some (Sum.inl (((l14 ++ bts ((x40 ++ (⟨#[58]⟩ : ByteArray)) ++ r47)) ++ bts ((⟨#[32, 124]⟩ : ByteArray) ++ r53)) ++ [10], wr_i64 (v15 + 1)))
       else
        none
      else
       (strings_Builder_WriteByte_own (l14 ++ bts ((x40 ++ (⟨#[58]⟩ : ByteArray)) ++ r47)) 10).bind fun r60 => match r60 with
       | () =>
        some (Sum.inl ((l14 ++ bts ((x40 ++ (⟨#[58]⟩ : ByteArray)) ++ r47)) ++ [10], wr_i64 (v15 + 1)))
    else
     none
   else
    none
 else
  some (Sum.inr (Sum.inr l14))

def matrix_Floods_L1z (a1 : Api_Net) (a2 : List Int) (a3 : List ByteArray) : Option (((List Int) × Int) ⊕ (Unit ⊕ (List Int))) :=
 if (decide (0 < (a3.length : Int))) = true then
  (nth a3 0).bind fun x17 =>
  (labels_Domains a1 a2 0).bind fun r19 => match r19 with
  | (l21, l22) =>
   if (sadok x17 (⟨#[58]⟩ : ByteArray)) = true then
    (matrix_list a1 l21).bind fun r24 =>
    if (sadok (x17 ++ (⟨#[58]⟩ : ByteArray)) r24) = true then
     (strings_Builder_WriteString_own ((x17 ++ (⟨#[58]⟩ : ByteArray)) ++ r24)).bind fun r27 => match r27 with
     | () =>
      if (decide (((List.length l22) : Int) > 0)) = true then
       (matrix_list a1 l22).bind fun r30 =>
       if (sadok (⟨#[32, 124]⟩ : ByteArray) r30) = true then
        (strings_Builder_WriteString_ownx (bts ((x17 ++ (⟨#[58]⟩ : ByteArray)) ++ r24)) ((⟨#[32, 124]⟩ : ByteArray) ++ r30)).bind fun r33 => match r33 with
        | () =>
         (strings_Builder_WriteByte_own ((bts ((x17 ++ (⟨#[58]⟩ : ByteArray)) ++ r24)) ++ bts ((⟨#[32, 124]⟩ : ByteArray) ++ r30)) 10).bind fun r35 => match r35 with
         | () =>
          some (Sum.inl (((bts ((x17 ++ (⟨#[58]⟩ : ByteArray)) ++ r24)) ++ bts ((⟨#[32, 124]⟩ : ByteArray) ++ r30)) ++ [10], wr_i64 (0 + 1)))
       else
        none
      else
       (strings_Builder_WriteByte_own (bts ((x17 ++ (⟨#[58]⟩ : ByteArray)) ++ r24)) 10).bind fun r37 => match r37 with
       | () =>
        some (Sum.inl ((bts ((x17 ++ (⟨#[58]⟩ : ByteArray)) ++ r24)) ++ [10], wr_i64 (0 + 1)))
    else
     none
   else
    none
 else
  some (Sum.inr (Sum.inl ()))

def matrix_Floods (a1 : Api_Net) (a2 : List Int) (a3 : List ByteArray) : Option (ByteArray × Int) :=
 (labels_All a1 a2).bind fun r4 => match r4 with
 | (l6, n7, v8) =>
  if (!v8) = true then
   some ((⟨#[]⟩ : ByteArray), 2)
  else
   if (decide ((a3.length : Int) > 10)) = true then
    some ((⟨#[]⟩ : ByteArray), 2)
   else
    (matrix_named a3).bind fun r11 =>
    if (!r11) = true then
     some ((⟨#[]⟩ : ByteArray), 2)
    else
     (loopP (matrix_Floods_L1z a1 a2 a3) (fun s : (List Int) × Int => match s with | (l14, v15) => matrix_Floods_L1 a1 a2 a3 l14 v15)).bind fun r67 => match r67 with
     | Sum.inl () =>
      (strings_Builder_String_own).bind fun r68 => match r68 with
      | () =>
       some ((⟨#[]⟩ : ByteArray), 0)
     | Sum.inr l65 =>
      (strings_Builder_String_ownx l65).bind fun r70 => match r70 with
      | () =>
       some (bstr l65, 0)

def matrix_Apart_L2 (a1 : List (List Matrix_Cell)) (v2 : Int) (x4 : List Matrix_Cell) (v6 : Int) : Option ((Int) ⊕ (Unit ⊕ Unit)) :=
 if (decide (v6 < (x4.length : Int))) = true then
  (nth x4 v6).bind fun x8 =>
  if (v2 != v6) = true then
   if (x8.ports != 0) = true then
    some (Sum.inr (Sum.inl ()))
   else
    some (Sum.inl (wr_i64 (v6 + 1)))
  else
   some (Sum.inl (wr_i64 (v6 + 1)))
 else
  some (Sum.inr (Sum.inr ()))

def matrix_Apart_L1 (a1 : List (List Matrix_Cell)) (v2 : Int) : Option ((Int) ⊕ (Unit ⊕ Unit)) :=
 if (decide (v2 < (a1.length : Int))) = true then
  (nth a1 v2).bind fun x4 =>
  (loopM (matrix_Apart_L2 a1 v2 x4) 0).bind fun r13 => match r13 with
  | Sum.inl () =>
   some (Sum.inr (Sum.inl ()))
  | Sum.inr () =>
   some (Sum.inl (wr_i64 (v2 + 1)))
 else
  some (Sum.inr (Sum.inr ()))

def matrix_Apart (a1 : List (List Matrix_Cell)) : Option (Bool) :=
 (loopM (matrix_Apart_L1 a1) 0).bind fun r15 => match r15 with
 | Sum.inl () =>
  some false
 | Sum.inr () =>
  some true

def palinglaw43_works : Option (Bool) :=
 (matrix_Of (⟨[(⟨0, 0, (⟨#[97]⟩ : ByteArray), 0, 0⟩ : Api_Device)], [(⟨0, 0, 10, 0, (-1), (⟨#[112]⟩ : ByteArray), []⟩ : Api_Port), (⟨0, 0, 10, 0, (-1), (⟨#[113]⟩ : ByteArray), []⟩ : Api_Port), (⟨0, 0, 20, 0, (-1), (⟨#[114]⟩ : ByteArray), []⟩ : Api_Port)], [], [(⟨0, 10, 0, (-1), 0, []⟩ : Api_Domain), (⟨0, 20, 0, (-1), 0, []⟩ : Api_Domain)], [], [], [], []⟩ : Api_Net) [(0 : Int), (0 : Int), (1 : Int)] 2).bind fun r1 => match r1 with
 | (l3, n4, v5) =>
  (matrix_Text [(⟨#[120]⟩ : ByteArray), (⟨#[121]⟩ : ByteArray)] l3).bind fun r6 =>
  (matrix_Floods (⟨[(⟨0, 0, (⟨#[97]⟩ : ByteArray), 0, 0⟩ : Api_Device)], [(⟨0, 0, 10, 0, (-1), (⟨#[112]⟩ : ByteArray), []⟩ : Api_Port), (⟨0, 0, 10, 0, (-1), (⟨#[113]⟩ : ByteArray), []⟩ : Api_Port), (⟨0, 0, 20, 0, (-1), (⟨#[114]⟩ : ByteArray), []⟩ : Api_Port)], [], [(⟨0, 10, 0, (-1), 0, []⟩ : Api_Domain), (⟨0, 20, 0, (-1), 0, []⟩ : Api_Domain)], [], [], [], []⟩ : Api_Net) [(0 : Int), (0 : Int), (1 : Int)] [(⟨#[120]⟩ : ByteArray), (⟨#[121]⟩ : ByteArray)]).bind fun r8 =>
  if (v5) = true then
   if (r6.2 == 0) = true then
    if (seqB r6.1 (⟨#[120, 58, 32, 50, 32, 48, 10, 121, 58, 32, 48, 32, 49, 10]⟩ : ByteArray)) = true then
     (matrix_Apart l3).bind fun r13 =>
     if (r13) = true then
      if (r8.2 == 0) = true then
       some (seqB r8.1 (⟨#[120, 58, 32, 97, 47, 49, 48, 10, 121, 58, 32, 97, 47, 50, 48, 10]⟩ : ByteArray))
      else
       some false
     else
      some false
    else
     some false
   else
    some false
  else
   some false

def palinglaw15_Great_L1 (a1 : Api_Net) (v10 : Int) : Option ((Int) ⊕ (Unit ⊕ Unit)) :=
 if (decide (v10 < (a1.ports.length : Int))) = true then
  (nth a1.ports v10).bind fun x12 =>
  if (decide ((x12.tagged.length : Int) > 100)) = true then
   some (Sum.inr (Sum.inl ()))
  else
   some (Sum.inl (wr_i64 (v10 + 1)))
 else
  some (Sum.inr (Sum.inr ()))

def palinglaw15_Great_L2 (a1 : Api_Net) (v17 : Int) : Option ((Int) ⊕ (Unit ⊕ Unit)) :=
 if (decide (v17 < (a1.domains.length : Int))) = true then
  (nth a1.domains v17).bind fun x19 =>
  if (decide ((x19.peers.length : Int) > 100)) = true then
   some (Sum.inr (Sum.inl ()))
  else
   some (Sum.inl (wr_i64 (v17 + 1)))
 else
  some (Sum.inr (Sum.inr ()))

def palinglaw15_Great_L3 (a1 : Api_Net) (v24 : Int) : Option ((Int) ⊕ (Unit ⊕ Unit)) :=
 if (decide (v24 < (a1.floods.length : Int))) = true then
  (nth a1.floods v24).bind fun x26 =>
  if (decide ((x26.addrs.length : Int) > 100)) = true then
   some (Sum.inr (Sum.inl ()))
  else
   some (Sum.inl (wr_i64 (v24 + 1)))
 else
  some (Sum.inr (Sum.inr ()))

def palinglaw15_Great_L4 (a1 : Api_Net) (v31 : Int) : Option ((Int) ⊕ (Unit ⊕ Unit)) :=
 if (decide (v31 < (a1.vrfs.length : Int))) = true then
  (nth a1.vrfs v31).bind fun x33 =>
  if (decide ((x33.imports.length : Int) > 100)) = true then
   some (Sum.inr (Sum.inl ()))
  else
   (nth a1.vrfs v31).bind fun x36 =>
   if (decide ((x36.exports.length : Int) > 100)) = true then
    some (Sum.inr (Sum.inl ()))
   else
    some (Sum.inl (wr_i64 (v31 + 1)))
 else
  some (Sum.inr (Sum.inr ()))

def palinglaw15_Great (a1 : Api_Net) : Option (Bool) :=
 if (decide ((a1.devices.length : Int) > 200)) = true then
  some true
 else
  if (decide ((a1.ports.length : Int) > 200)) = true then
   some true
  else
   if (decide ((a1.links.length : Int) > 200)) = true then
    some true
   else
    if (decide ((a1.domains.length : Int) > 200)) = true then
     some true
    else
     if (decide ((a1.statics.length : Int) > 200)) = true then
      some true
     else
      if (decide ((a1.floods.length : Int) > 200)) = true then
       some true
      else
       if (decide ((a1.vrfs.length : Int) > 200)) = true then
        some true
       else
        if (decide ((a1.irbs.length : Int) > 200)) = true then
         some true
        else
         (loopM (palinglaw15_Great_L1 a1) 0).bind fun r16 => match r16 with
         | Sum.inl () =>
          some true
         | Sum.inr () =>
          (loopM (palinglaw15_Great_L2 a1) 0).bind fun r23 => match r23 with
          | Sum.inl () =>
           some true
          | Sum.inr () =>
           (loopM (palinglaw15_Great_L3 a1) 0).bind fun r30 => match r30 with
           | Sum.inl () =>
            some true
           | Sum.inr () =>
            (loopM (palinglaw15_Great_L4 a1) 0).bind fun r40 => match r40 with
            | Sum.inl () =>
             some true
            | Sum.inr () =>
             some false

def witness_host (a1 : Api_Net) (a2 : Int) : Option (Bool) :=
 if (decide (a2 ≥ 0)) = true then
  if (decide (a2 < (a1.ports.length : Int))) = true then
   (nth a1.ports a2).bind fun x5 =>
   some (decide (x5.link < 0))
  else
   some false
 else
  some false

def witness_search_meet_own_J1 (a1 : List Api_Device) (a2 : List Api_Port) (a3 : List Api_Link) (a4 : List Api_Domain) (a5 : List Api_Static) (a6 : List Api_Flood) (a7 : List Api_Vrf) (a8 : List Api_Irb) (a9 : List Bool) (n10 : Nat) (a11 : List Bool) (n12 : Nat) (a13 : List Witness_found) (a14 : Witness_state) (a15 : Reach_Hop) (a16 : Int) : Option (Bool) :=
 if (a14.kind == 0) = true then
  if (lin a9 a14.domain) = true then
   (a9[(Int.toNat a14.domain)]?).bind fun x19 =>
   some (!x19)
  else
   none
 else
  if (a14.kind == 1) = true then
   if (lin a11 a14.domain) = true then
    (a11[(Int.toNat a14.domain)]?).bind fun x23 =>
    some (!x23)
   else
    none
  else
   none

def witness_search_meet_own_J2 (a1 : List Api_Device) (a2 : List Api_Port) (a3 : List Api_Link) (a4 : List Api_Domain) (a5 : List Api_Static) (a6 : List Api_Flood) (a7 : List Api_Vrf) (a8 : List Api_Irb) (a9 : List Bool) (n10 : Nat) (a11 : List Bool) (n12 : Nat) (a13 : List Witness_found) (a14 : Witness_state) (a15 : Reach_Hop) (a16 : Int) : Option (((List Bool) × (List Bool))) :=
 if (a14.kind == 0) = true then
  if (lin a9 a14.domain) = true then
   (a9[(Int.toNat a14.domain)]?).bind fun x32 =>
   some (List.set a9 (Int.toNat a14.domain) true, a11)
  else
   none
 else
  if (a14.kind == 1) = true then
   if (lin a11 a14.domain) = true then
    (a11[(Int.toNat a14.domain)]?).bind fun x36 =>
    some (a9, List.set a11 (Int.toNat a14.domain) true)
   else
    none
  else
   none

def witness_search_meet_own (a1 : List Api_Device) (a2 : List Api_Port) (a3 : List Api_Link) (a4 : List Api_Domain) (a5 : List Api_Static) (a6 : List Api_Flood) (a7 : List Api_Vrf) (a8 : List Api_Irb) (a9 : List Bool) (n10 : Nat) (a11 : List Bool) (n12 : Nat) (a13 : List Witness_found) (a14 : Witness_state) (a15 : Reach_Hop) (a16 : Int) : Option (((List Bool) × (List Bool) × (List Witness_found))) :=
 (witness_search_meet_own_J1 a1 a2 a3 a4 a5 a6 a7 a8 a9 n10 a11 n12 a13 a14 a15 a16).bind fun r28 => match r28 with
 | v26 =>
  if (v26) = true then
   (witness_search_meet_own_J2 a1 a2 a3 a4 a5 a6 a7 a8 a9 n10 a11 n12 a13 a14 a15 a16).bind fun r49 => match r49 with
   | (l46, l47) =>
    if (roomy 56 (a13 ++ [(⟨a14, a15, a16⟩ : Witness_found)])) = true then
     some (l46, l47, a13 ++ [(⟨a14, a15, a16⟩ : Witness_found)])
    else
     none
  else
   some (a9, a11, a13)

def witness_search_begin_own_L1 (a1 : List Api_Device) (a2 : List Api_Port) (a3 : List Api_Link) (a4 : List Api_Domain) (a5 : List Api_Static) (a6 : List Api_Flood) (a7 : List Api_Vrf) (a8 : List Api_Irb) (a9 : List Bool) (a10 : List Bool) (x13 : Api_Port) (l17 : List Witness_found) (l18 : List Bool) (l19 : List Bool) (v20 : Int) : Option (((List Witness_found) × (List Bool) × (List Bool) × Int) ⊕ (((List Witness_found) × (List Bool) × (List Bool)))) :=
 if (decide (v20 < ((List.length ([x13.native] ++ x13.tagged)) : Int))) = true then
  if (lin ([x13.native] ++ x13.tagged) v20) = true then
   (([x13.native] ++ x13.tagged)[(Int.toNat v20)]?).bind fun x23 =>
   if (x23 != 0) = true then
    (names_Domain (⟨a1, a2, a3, a4, a5, a6, a7, a8⟩ : Api_Net) x13.dev x23).bind fun r26 =>
    (witness_search_meet_own a1 a2 a3 a4 a5 a6 a7 a8 l18 (Int.toNat (a4.length : Int)) l19 (Int.toNat (a4.length : Int)) l17 (⟨r26, 0⟩ : Witness_state) (⟨0, 0, r26, 0⟩ : Reach_Hop) (-1)).bind fun r28 => match r28 with
    | (l30, l31, l32) =>
     some (Sum.inl (l32, l30, l31, wr_i64 (v20 + 1)))
   else
    some (Sum.inl (l17, l18, l19, wr_i64 (v20 + 1)))
  else
   none
 else
  some (Sum.inr (l17, l18, l19))

def witness_search_begin_own (a1 : List Api_Device) (a2 : List Api_Port) (a3 : List Api_Link) (a4 : List Api_Domain) (a5 : List Api_Static) (a6 : List Api_Flood) (a7 : List Api_Vrf) (a8 : List Api_Irb) (a9 : List Bool) (a10 : List Bool) (a11 : List Witness_found) (a12 : Int) : Option (((List Witness_found) × (List Bool) × (List Bool))) :=
 (nth a2 a12).bind fun x13 =>
 if (mkok 1 (a4.length : Int) (a4.length : Int)) = true then
  if (roomy 8 ([x13.native] ++ x13.tagged)) = true then
   (loopM (fun s : (List Witness_found) × (List Bool) × (List Bool) × Int => match s with | (l17, l18, l19, v20) => witness_search_begin_own_L1 a1 a2 a3 a4 a5 a6 a7 a8 a9 a10 x13 l17 l18 l19 v20) (a11, List.replicate (Int.toNat (a4.length : Int)) false, List.replicate (Int.toNat (a4.length : Int)) false, 0)).bind fun r37 => match r37 with
   | (l33, l34, l35) =>
    some (l33, l34, l35)
  else
   none
 else
  none

def slices_Reverse_Hop_own_L1 (a1 : List Reach_Hop) (l2 : List Reach_Hop) (v3 : Int) (v4 : Int) : Option (((List Reach_Hop) × Int × Int) ⊕ ((List Reach_Hop))) :=
 if (decide (v3 < v4)) = true then
  if (lin l2 v4) = true then
   (l2[(Int.toNat v4)]?).bind fun x7 =>
   if (lin l2 v3) = true then
    (l2[(Int.toNat v3)]?).bind fun x10 =>
    (l2[(Int.toNat v3)]?).bind fun x12 =>
    if (lin (List.set l2 (Int.toNat v3) x7) v4) = true then
     ((List.set l2 (Int.toNat v3) x7)[(Int.toNat v4)]?).bind fun x15 =>
     some (Sum.inl (List.set (List.set l2 (Int.toNat v3) x7) (Int.toNat v4) x10, wr_i64 (v3 + 1), wr_i64 (v4 - 1)))
    else
     none
   else
    none
  else
   none
 else
  some (Sum.inr l2)

def slices_Reverse_Hop_own (a1 : List Reach_Hop) : Option (((List Reach_Hop))) :=
 (loopM (fun s : (List Reach_Hop) × Int × Int => match s with | (l2, v3, v4) => slices_Reverse_Hop_own_L1 a1 l2 v3 v4) (a1, 0, wr_i64 (((List.length a1) : Int) - 1))).bind fun r19 => match r19 with
 | l17 =>
  some l17

def witness_search_back_L1 (a1 : List Api_Device) (a2 : List Api_Port) (a3 : List Api_Link) (a4 : List Api_Domain) (a5 : List Api_Static) (a6 : List Api_Flood) (a7 : List Api_Vrf) (a8 : List Api_Irb) (a9 : List Bool) (a10 : List Bool) (a11 : List Witness_found) (l13 : List Reach_Hop) (v14 : Int) : Option (((List Reach_Hop) × Int) ⊕ ((List Reach_Hop))) :=
 if (decide (v14 ≥ 0)) = true then
  (nth a11 v14).bind fun x16 =>
  if (roomy 32 (l13 ++ [x16.hop])) = true then
   (nth a11 v14).bind fun x19 =>
   some (Sum.inl (l13 ++ [x16.hop], x19.ahead))
  else
   none
 else
  some (Sum.inr l13)

def witness_search_back (a1 : List Api_Device) (a2 : List Api_Port) (a3 : List Api_Link) (a4 : List Api_Domain) (a5 : List Api_Static) (a6 : List Api_Flood) (a7 : List Api_Vrf) (a8 : List Api_Irb) (a9 : List Bool) (a10 : List Bool) (a11 : List Witness_found) (a12 : Int) : Option (((List Reach_Hop) × Nat)) :=
 (loopM (fun s : (List Reach_Hop) × Int => match s with | (l13, v14) => witness_search_back_L1 a1 a2 a3 a4 a5 a6 a7 a8 a9 a10 a11 l13 v14) ([], a12)).bind fun r25 => match r25 with
 | l23 =>
  (slices_Reverse_Hop_own l23).bind fun r26 => match r26 with
  | l28 =>
   some (l28, (List.length l23))

def witness_search_extend_own_L1 (a1 : List Api_Device) (a2 : List Api_Port) (a3 : List Api_Link) (a4 : List Api_Domain) (a5 : List Api_Static) (a6 : List Api_Flood) (a7 : List Api_Vrf) (a8 : List Api_Irb) (n10 : Nat) (n12 : Nat) (a14 : Int) (x16 : Witness_found) (l20 : List Reach_Hop) (l21 : List Bool) (l22 : List Bool) (l23 : List Witness_found) (v24 : Int) : Option (((List Bool) × (List Bool) × (List Witness_found) × Int) ⊕ (((List Bool) × (List Bool) × (List Witness_found)))) :=
 if (decide (v24 < ((List.length l20) : Int))) = true then
  if (lin l20 v24) = true then
   (l20[(Int.toNat v24)]?).bind fun x27 =>
   (witness_search_meet_own a1 a2 a3 a4 a5 a6 a7 a8 l21 n10 l22 n12 l23 (⟨x27.domain, x16.state.kind⟩ : Witness_state) x27 a14).bind fun r29 => match r29 with
   | (l31, l32, l33) =>
    some (Sum.inl (l31, l32, l33, wr_i64 (v24 + 1)))
  else
   none
 else
  some (Sum.inr (l21, l22, l23))

def witness_search_extend_own_L2 (a1 : List Api_Device) (a2 : List Api_Port) (a3 : List Api_Link) (a4 : List Api_Domain) (a5 : List Api_Static) (a6 : List Api_Flood) (a7 : List Api_Vrf) (a8 : List Api_Irb) (n10 : Nat) (n12 : Nat) (a14 : Int) (l51 : List Choose_Lead) (l52 : List Bool) (l53 : List Bool) (l54 : List Witness_found) (v55 : Int) : Option (((List Bool) × (List Bool) × (List Witness_found) × Int) ⊕ (((List Bool) × (List Bool) × (List Witness_found)))) :=
 if (decide (v55 < ((List.length l51) : Int))) = true then
  if (lin l51 v55) = true then
   (l51[(Int.toNat v55)]?).bind fun x58 =>
   (witness_search_meet_own a1 a2 a3 a4 a5 a6 a7 a8 l52 n10 l53 n12 l54 (⟨x58.domain, 1⟩ : Witness_state) (⟨3, 0, x58.domain, x58.addr⟩ : Reach_Hop) a14).bind fun r60 => match r60 with
   | (l62, l63, l64) =>
    some (Sum.inl (l62, l63, l64, wr_i64 (v55 + 1)))
  else
   none
 else
  some (Sum.inr (l52, l53, l54))

def witness_search_extend_own (a1 : List Api_Device) (a2 : List Api_Port) (a3 : List Api_Link) (a4 : List Api_Domain) (a5 : List Api_Static) (a6 : List Api_Flood) (a7 : List Api_Vrf) (a8 : List Api_Irb) (a9 : List Bool) (n10 : Nat) (a11 : List Bool) (n12 : Nat) (a13 : List Witness_found) (a14 : Int) : Option (((List Bool) × (List Bool) × (List Witness_found))) :=
 if (lin a13 a14) = true then
  (a13[(Int.toNat a14)]?).bind fun x16 =>
  (reach_Hops (⟨a1, a2, a3, a4, a5, a6, a7, a8⟩ : Api_Net) x16.state.domain).bind fun r18 => match r18 with
  | l20 =>
   (loopM (fun s : (List Bool) × (List Bool) × (List Witness_found) × Int => match s with | (l21, l22, l23, v24) => witness_search_extend_own_L1 a1 a2 a3 a4 a5 a6 a7 a8 n10 n12 a14 x16 l20 l21 l22 l23 v24) (a9, a11, a13, 0)).bind fun r47 => match r47 with
   | (l43, l44, l45) =>
    if (x16.state.kind == 0) = true then
     (choose_Routes (⟨a1, a2, a3, a4, a5, a6, a7, a8⟩ : Api_Net) x16.state.domain).bind fun r49 => match r49 with
     | l51 =>
      (loopM (fun s : (List Bool) × (List Bool) × (List Witness_found) × Int => match s with | (l52, l53, l54, v55) => witness_search_extend_own_L2 a1 a2 a3 a4 a5 a6 a7 a8 n10 n12 a14 l51 l52 l53 l54 v55) (l43, l44, l45, 0)).bind fun r69 => match r69 with
      | (l65, l66, l67) =>
       some (l65, l66, l67)
    else
     some (l43, l44, l45)
 else
  none

def witness_Way_L1 (a1 : Api_Net) (a3 : Int) (l19 : List Bool) (l20 : List Bool) (l21 : List Witness_found) (v22 : Int) : Option (((List Bool) × (List Bool) × (List Witness_found) × Int) ⊕ (((List Reach_Hop) × Nat) ⊕ Unit)) :=
 if (decide (v22 < ((List.length l21) : Int))) = true then
  if (lin l21 v22) = true then
   (l21[(Int.toNat v22)]?).bind fun x25 =>
   (names_Members a1 x25.state.domain).bind fun r27 => match r27 with
   | l29 =>
    (slices_Contains_int l29 a3).bind fun r30 =>
    if (r30) = true then
     (witness_search_back a1.devices a1.ports a1.links a1.domains a1.statics a1.floods a1.vrfs a1.irbs l19 l20 l21 v22).bind fun r33 => match r33 with
     | (l35, n36) =>
      some (Sum.inr (Sum.inl (l35, n36)))
    else
     (witness_search_extend_own a1.devices a1.ports a1.links a1.domains a1.statics a1.floods a1.vrfs a1.irbs l19 (Int.toNat (a1.domains.length : Int)) l20 (Int.toNat (a1.domains.length : Int)) l21 v22).bind fun r37 => match r37 with
     | (l39, l40, l41) =>
      some (Sum.inl (l39, l40, l41, wr_i64 (v22 + 1)))
  else
   none
 else
  some (Sum.inr (Sum.inr ()))

def witness_Way (a1 : Api_Net) (a2 : Int) (a3 : Int) : Option (((List Reach_Hop) × Nat × Bool)) :=
 (witness_host a1 a2).bind fun r4 =>
 if (!r4) = true then
  some ([], 0, false)
 else
  (witness_host a1 a3).bind fun r7 =>
  if (!r7) = true then
   some ([], 0, false)
  else
   if (a2 == a3) = true then
    some ([], 0, false)
   else
    (names_Right a1).bind fun r11 =>
    if (!r11) = true then
     some ([], 0, false)
    else
     (witness_search_begin_own a1.devices a1.ports a1.links a1.domains a1.statics a1.floods a1.vrfs a1.irbs [] [] [] a2).bind fun r14 => match r14 with
     | (l16, l17, l18) =>
      (loopM (fun s : (List Bool) × (List Bool) × (List Witness_found) × Int => match s with | (l19, l20, l21, v22) => witness_Way_L1 a1 a3 l19 l20 l21 v22) (l17, l18, l16, 0)).bind fun r49 => match r49 with
      | Sum.inl (l46, n47) =>
       some (l46, n47, true)
      | Sum.inr () =>
       some ([], 0, false)

def verdict_Leaks_L2 (a1 : Api_Net) (a2 : List Int) (v6 : Int) (x8 : Int) (v10 : Int) : Option ((Int) ⊕ (Int ⊕ Unit)) :=
 if (decide (v10 < (a2.length : Int))) = true then
  (nth a2 v10).bind fun x12 =>
  if (decide (x8 < 0)) = true then
   some (Sum.inl (wr_i64 (v10 + 1)))
  else
   if (decide (x12 < 0)) = true then
    some (Sum.inl (wr_i64 (v10 + 1)))
   else
    if (x8 == x12) = true then
     some (Sum.inl (wr_i64 (v10 + 1)))
    else
     (witness_Way a1 v6 v10).bind fun r17 => match r17 with
     | (l19, n20, v21) =>
      if (v21) = true then
       some (Sum.inr (Sum.inl v10))
      else
       some (Sum.inl (wr_i64 (v10 + 1)))
 else
  some (Sum.inr (Sum.inr ()))

def verdict_Leaks_L1 (a1 : Api_Net) (a2 : List Int) (v6 : Int) : Option ((Int) ⊕ ((Int × Int) ⊕ Unit)) :=
 if (decide (v6 < (a2.length : Int))) = true then
  (nth a2 v6).bind fun x8 =>
  (loopM (verdict_Leaks_L2 a1 a2 v6 x8) 0).bind fun r26 => match r26 with
  | Sum.inl v24 =>
   some (Sum.inr (Sum.inl (v6, v24)))
  | Sum.inr () =>
   some (Sum.inl (wr_i64 (v6 + 1)))
 else
  some (Sum.inr (Sum.inr ()))

def verdict_Leaks (a1 : Api_Net) (a2 : List Int) : Option (Int × Int × Bool) :=
 (owners_Right a1 a2).bind fun r3 =>
 if (!r3) = true then
  some (0, 0, false)
 else
  (loopM (verdict_Leaks_L1 a1 a2) 0).bind fun r32 => match r32 with
  | Sum.inl (v29, v30) =>
   some (v29, v30, true)
  | Sum.inr () =>
   some (0, 0, false)

def owners_Of_L1 (a1 : List Int) (a2 : Int) (l3 : List Int) (v4 : Int) : Option (((List Int) × Int) ⊕ ((List Int))) :=
 if (decide (v4 < (a1.length : Int))) = true then
  (nth a1 v4).bind fun x6 =>
  if (x6 == a2) = true then
   if (roomy 8 (l3 ++ [v4])) = true then
    some (Sum.inl (l3 ++ [v4], wr_i64 (v4 + 1)))
   else
    none
  else
   some (Sum.inl (l3, wr_i64 (v4 + 1)))
 else
  some (Sum.inr l3)

def owners_Of (a1 : List Int) (a2 : Int) : Option (((List Int))) :=
 (loopM (fun s : (List Int) × Int => match s with | (l3, v4) => owners_Of_L1 a1 a2 l3 v4) ([], 0)).bind fun r14 => match r14 with
 | l12 =>
  some l12

def palinglaw43_MatrixApart_L2 (a1 : Api_Net) (a2 : List Int) (l12 : List (List Matrix_Cell)) (n13 : Nat) (v22 : Int) (x25 : List Matrix_Cell) (v34 : Int) : Option ((Int) ⊕ (Unit ⊕ Unit)) :=
 if (decide (v34 < (x25.length : Int))) = true then
  (nth x25 v34).bind fun x36 =>
  if (x36.ports == 0) = true then
   if (x36.from_ != (-1)) = true then
    some (Sum.inr (Sum.inl ()))
   else
    if (x36.to != (-1)) = true then
     some (Sum.inr (Sum.inl ()))
    else
     some (Sum.inl (wr_i64 (v34 + 1)))
  else
   if (decide (x36.from_ < 0)) = true then
    some (Sum.inr (Sum.inl ()))
   else
    if (decide (x36.to < 0)) = true then
     some (Sum.inr (Sum.inl ()))
    else
     if (decide (x36.from_ ≥ (a2.length : Int))) = true then
      some (Sum.inr (Sum.inl ()))
     else
      if (decide (x36.to ≥ (a2.length : Int))) = true then
       some (Sum.inr (Sum.inl ()))
      else
       (nth a2 x36.from_).bind fun x45 =>
       if (x45 != v22) = true then
        some (Sum.inr (Sum.inl ()))
       else
        (nth a2 x36.to).bind fun x48 =>
        if (x48 != v34) = true then
         some (Sum.inr (Sum.inl ()))
        else
         (witness_Way a1 x36.from_ x36.to).bind fun r51 => match r51 with
         | (l53, n54, v55) =>
          if (v22 != v34) = true then
           (owners_Of a2 v22).bind fun r57 => match r57 with
           | l59 =>
            if (((List.length l59) : Int) == 1) = true then
             if (!v55) = true then
              some (Sum.inr (Sum.inl ()))
             else
              some (Sum.inl (wr_i64 (v34 + 1)))
            else
             some (Sum.inl (wr_i64 (v34 + 1)))
          else
           some (Sum.inl (wr_i64 (v34 + 1)))
 else
  some (Sum.inr (Sum.inr ()))

def palinglaw43_MatrixApart_L1 (a1 : Api_Net) (a2 : List Int) (l12 : List (List Matrix_Cell)) (n13 : Nat) (v22 : Int) : Option ((Int) ⊕ (Unit ⊕ Unit)) :=
 if (decide (v22 < (n13 : Int))) = true then
  if (lin l12 v22) = true then
   (l12[(Int.toNat v22)]?).bind fun x25 =>
   if ((x25.length : Int) != 10) = true then
    some (Sum.inr (Sum.inl ()))
   else
    (nth x25 v22).bind fun x28 =>
    (owners_Of a2 v22).bind fun r30 => match r30 with
    | l32 =>
     if (x28.ports != ((List.length l32) : Int)) = true then
      some (Sum.inr (Sum.inl ()))
     else
      (loopM (palinglaw43_MatrixApart_L2 a1 a2 l12 n13 v22 x25) 0).bind fun r63 => match r63 with
      | Sum.inl () =>
       some (Sum.inr (Sum.inl ()))
      | Sum.inr () =>
       some (Sum.inl (wr_i64 (v22 + 1)))
  else
   none
 else
  some (Sum.inr (Sum.inr ()))

def palinglaw43_MatrixApart (a1 : Api_Net) (a2 : List Int) : Option (Bool) :=
 (palinglaw43_works).bind fun r3 =>
 if (!r3) = true then
  some false
 else
  (palinglaw15_Great a1).bind fun r6 =>
  if (r6) = true then
   some true
  else
   if (decide ((a2.length : Int) > 300)) = true then
    some true
   else
    (matrix_Of a1 a2 10).bind fun r10 => match r10 with
    | (l12, n13, v14) =>
     (verdict_Leaks a1 a2).bind fun r15 =>
     if (!v14) = true then
      some ((n13 : Int) == 0)
     else
      if ((n13 : Int) != 10) = true then
       some false
      else
       (matrix_Apart l12).bind fun r19 =>
       if (r19 == r15.2.2) = true then
        some false
       else
        (loopM (palinglaw43_MatrixApart_L1 a1 a2 l12 n13) 0).bind fun r65 => match r65 with
        | Sum.inl () =>
         some false
        | Sum.inr () =>
         some true

def palinglaw36_works : Option (Bool) :=
 (choose_Address (⟨[(⟨0, 0, (⟨#[97]⟩ : ByteArray), 0, 0⟩ : Api_Device)], [], [], [(⟨0, 10, 0, 0, 0, []⟩ : Api_Domain), (⟨0, 20, 0, 1, 0, []⟩ : Api_Domain)], [], [], [(⟨0, 0, (⟨#[114, 101, 100]⟩ : ByteArray), [], []⟩ : Api_Vrf)], [(⟨0, 0, 0, (⟨167772161, 24⟩ : Api_Prefix)⟩ : Api_Irb), (⟨0, 1, 0, (⟨167772417, 24⟩ : Api_Prefix)⟩ : Api_Irb)]⟩ : Api_Net) 0 1).bind fun r1 =>
 (choose_Routes (⟨[(⟨0, 0, (⟨#[97]⟩ : ByteArray), 0, 0⟩ : Api_Device)], [], [], [(⟨0, 10, 0, 0, 0, []⟩ : Api_Domain), (⟨0, 20, 0, 1, 0, []⟩ : Api_Domain)], [], [], [(⟨0, 0, (⟨#[114, 101, 100]⟩ : ByteArray), [], []⟩ : Api_Vrf)], [(⟨0, 0, 0, (⟨167772161, 24⟩ : Api_Prefix)⟩ : Api_Irb), (⟨0, 1, 0, (⟨167772417, 24⟩ : Api_Prefix)⟩ : Api_Irb)]⟩ : Api_Net) 0).bind fun r3 => match r3 with
 | l5 =>
  (choose_Address (⟨[(⟨0, 0, (⟨#[97]⟩ : ByteArray), 0, 0⟩ : Api_Device)], [], [], [(⟨0, 10, 0, 0, 0, []⟩ : Api_Domain), (⟨0, 20, 0, 1, 0, []⟩ : Api_Domain)], [], [], [(⟨0, 0, (⟨#[114, 101, 100]⟩ : ByteArray), [], []⟩ : Api_Vrf)], [(⟨0, 0, 0, (⟨167772161, 24⟩ : Api_Prefix)⟩ : Api_Irb), (⟨0, 1, 0, (⟨167772417, 24⟩ : Api_Prefix)⟩ : Api_Irb)]⟩ : Api_Net) 0 2).bind fun r6 =>
  if (r1.2) = true then
   if (r1.1 == 167772416) = true then
    if (((List.length l5) : Int) == 2) = true then
     if (lin l5 1) = true then
      (l5[(Int.toNat 1)]?).bind fun x12 =>
      if (x12.domain == 1) = true then
       if (lin l5 0) = true then
        (l5[(Int.toNat 0)]?).bind fun x16 =>
        if (x16.addr == 167772160) = true then
         some (!r6.2)
        else
         some false
       else
        none
      else
       some false
     else
      none
    else
     some false
   else
    some false
  else
   some false

def palingref15_Place (a1 : Int) (a2 : Int) : Option (Bool) :=
 if (decide (a1 ≥ 0)) = true then
  some (decide (a1 < a2))
 else
  some false

def palingref15_At_L1 (a1 : Api_Net) (a2 : Int) (a3 : Int) (v4 : Int) : Option ((Int) ⊕ (Int ⊕ Unit)) :=
 if (decide (v4 < (a1.domains.length : Int))) = true then
  (nth a1.domains v4).bind fun x6 =>
  if (x6.dev == a2) = true then
   (nth a1.domains v4).bind fun x9 =>
   if (x9.vlan == a3) = true then
    some (Sum.inr (Sum.inl v4))
   else
    some (Sum.inl (wr_i64 (v4 + 1)))
  else
   some (Sum.inl (wr_i64 (v4 + 1)))
 else
  some (Sum.inr (Sum.inr ()))

def palingref15_At (a1 : Api_Net) (a2 : Int) (a3 : Int) : Option (Int) :=
 (loopM (palingref15_At_L1 a1 a2 a3) 0).bind fun r15 => match r15 with
 | Sum.inl v13 =>
  some v13
 | Sum.inr () =>
  some (-1)

def palingref15_In_L1 (a1 : List Int) (a2 : Int) (v3 : Int) : Option ((Int) ⊕ (Unit ⊕ Unit)) :=
 if (decide (v3 < (a1.length : Int))) = true then
  (nth a1 v3).bind fun x5 =>
  if (x5 == a2) = true then
   some (Sum.inr (Sum.inl ()))
  else
   some (Sum.inl (wr_i64 (v3 + 1)))
 else
  some (Sum.inr (Sum.inr ()))

def palingref15_In (a1 : List Int) (a2 : Int) : Option (Bool) :=
 (loopM (palingref15_In_L1 a1 a2) 0).bind fun r9 => match r9 with
 | Sum.inl () =>
  some true
 | Sum.inr () =>
  some false

def palingref15_peer (a1 : Api_Net) (a2 : Int) (a3 : Int) : Option (Bool) :=
 (palingref15_Place a3 (a1.domains.length : Int)).bind fun r4 =>
 if (!r4) = true then
  some false
 else
  if (a3 == a2) = true then
   some false
  else
   (nth a1.domains a2).bind fun x8 =>
   (nth a1.domains a3).bind fun x10 =>
   if (x8.dev != x10.dev) = true then
    if (x8.vni == x10.vni) = true then
     if (x8.vni != 0) = true then
      (nth a1.devices x8.dev).bind fun x15 =>
      if (x15.vtep != 0) = true then
       (nth a1.devices x10.dev).bind fun x18 =>
       if (x18.vtep != 0) = true then
        (palingref15_In x10.peers a2).bind fun r21 =>
        some r21
       else
        some false
      else
       some false
     else
      some false
    else
     some false
   else
    some false

def palingref15_domains_L1 (a1 : Api_Net) (v2 : Int) : Option ((Int) ⊕ (Unit ⊕ Unit)) :=
 if (decide (v2 < (a1.domains.length : Int))) = true then
  (nth a1.domains v2).bind fun x4 =>
  (palingref15_Place x4.dev (a1.devices.length : Int)).bind fun r6 =>
  if (!r6) = true then
   some (Sum.inr (Sum.inl ()))
  else
   if (decide (x4.vlan < 1)) = true then
    some (Sum.inr (Sum.inl ()))
   else
    if (decide (x4.vlan > 4094)) = true then
     some (Sum.inr (Sum.inl ()))
    else
     if (decide (x4.vni < 0)) = true then
      some (Sum.inr (Sum.inl ()))
     else
      if (decide (x4.vni ≥ 16777216)) = true then
       some (Sum.inr (Sum.inl ()))
      else
       (palingref15_At a1 x4.dev x4.vlan).bind fun r13 =>
       if (r13 != v2) = true then
        some (Sum.inr (Sum.inl ()))
       else
        if (x4.irb != (-1)) = true then
         (palingref15_Place x4.irb (a1.irbs.length : Int)).bind fun r17 =>
         if (!r17) = true then
          some (Sum.inr (Sum.inl ()))
         else
          (nth a1.irbs x4.irb).bind fun x20 =>
          if (x20.domain != v2) = true then
           some (Sum.inr (Sum.inl ()))
          else
           some (Sum.inl (wr_i64 (v2 + 1)))
        else
         some (Sum.inl (wr_i64 (v2 + 1)))
 else
  some (Sum.inr (Sum.inr ()))

def palingref15_domains_L3 (a1 : Api_Net) (v25 : Int) (x27 : Api_Domain) (v29 : Int) : Option ((Int) ⊕ (Unit ⊕ Unit)) :=
 if (decide (v29 < (x27.peers.length : Int))) = true then
  (nth x27.peers v29).bind fun x31 =>
  (palingref15_peer a1 v25 x31).bind fun r33 =>
  if (!r33) = true then
   some (Sum.inr (Sum.inl ()))
  else
   if (slok (List.length x27.peers) 0 v29) = true then
    (nth x27.peers v29).bind fun x37 =>
    (palingref15_In (List.drop (Int.toNat 0) (List.take (Int.toNat v29) x27.peers)) x37).bind fun r39 =>
    if (r39) = true then
     some (Sum.inr (Sum.inl ()))
    else
     some (Sum.inl (wr_i64 (v29 + 1)))
   else
    none
 else
  some (Sum.inr (Sum.inr ()))

def palingref15_domains_L2 (a1 : Api_Net) (v25 : Int) : Option ((Int) ⊕ (Unit ⊕ Unit)) :=
 if (decide (v25 < (a1.domains.length : Int))) = true then
  (nth a1.domains v25).bind fun x27 =>
  (loopM (palingref15_domains_L3 a1 v25 x27) 0).bind fun r43 => match r43 with
  | Sum.inl () =>
   some (Sum.inr (Sum.inl ()))
  | Sum.inr () =>
   some (Sum.inl (wr_i64 (v25 + 1)))
 else
  some (Sum.inr (Sum.inr ()))

def palingref15_domains (a1 : Api_Net) : Option (Bool) :=
 (loopM (palingref15_domains_L1 a1) 0).bind fun r24 => match r24 with
 | Sum.inl () =>
  some false
 | Sum.inr () =>
  (loopM (palingref15_domains_L2 a1) 0).bind fun r45 => match r45 with
  | Sum.inl () =>
   some false
  | Sum.inr () =>
   some true

def palingref03_Rising_L1 (a1 : List Int) (a2 : Int) (a3 : Int) (v6 : Int) : Option ((Int) ⊕ (Unit ⊕ Unit)) :=
 if (decide (v6 < (a1.length : Int))) = true then
  (nth a1 v6).bind fun x8 =>
  if (decide (x8 < a2)) = true then
   some (Sum.inr (Sum.inl ()))
  else
   (nth a1 v6).bind fun x11 =>
   if (decide (x11 > a3)) = true then
    some (Sum.inr (Sum.inl ()))
   else
    if (decide (v6 > 0)) = true then
     (nth a1 v6).bind fun x15 =>
     (nth a1 (wr_i64 (v6 - 1))).bind fun x17 =>
     if (decide (x15 ≤ x17)) = true then
      some (Sum.inr (Sum.inl ()))
     else
      some (Sum.inl (wr_i64 (v6 + 1)))
    else
     some (Sum.inl (wr_i64 (v6 + 1)))
 else
  some (Sum.inr (Sum.inr ()))

def palingref03_Rising (a1 : List Int) (a2 : Int) (a3 : Int) : Option (Bool) :=
 if (decide ((a1.length : Int) < 1)) = true then
  some false
 else
  if (decide ((a1.length : Int) > 16)) = true then
   some false
  else
   (loopM (palingref03_Rising_L1 a1 a2 a3) 0).bind fun r21 => match r21 with
   | Sum.inl () =>
    some false
   | Sum.inr () =>
    some true

def palingref15_rising (a1 : List Int) (a2 : Int) : Option (Bool) :=
 if ((a1.length : Int) == 0) = true then
  some true
 else
  (palingref03_Rising a1 1 a2).bind fun r4 =>
  some r4

def palingref15_ports_J2 (a1 : Api_Net) (v2 : Int) (x4 : Api_Port) : Option (Unit ⊕ Unit) :=
 if (x4.native == 0) = true then
  if ((x4.tagged.length : Int) == 0) = true then
   some (Sum.inl ())
  else
   if (decide (x4.native > 0)) = true then
    (palingref15_At a1 x4.dev x4.native).bind fun r20 =>
    if (decide (r20 < 0)) = true then
     some (Sum.inl ())
    else
     some (Sum.inr ())
   else
    some (Sum.inr ())
 else
  if (decide (x4.native > 0)) = true then
   (palingref15_At a1 x4.dev x4.native).bind fun r24 =>
   if (decide (r24 < 0)) = true then
    some (Sum.inl ())
   else
    some (Sum.inr ())
  else
   some (Sum.inr ())

def palingref15_ports_L3 (a1 : Api_Net) (v2 : Int) (x4 : Api_Port) (v29 : Int) : Option ((Int) ⊕ (Unit ⊕ Unit)) :=
 if (decide (v29 < (x4.tagged.length : Int))) = true then
  (nth x4.tagged v29).bind fun x31 =>
  (palingref15_At a1 x4.dev x31).bind fun r33 =>
  if (decide (r33 < 0)) = true then
   some (Sum.inr (Sum.inl ()))
  else
   some (Sum.inl (wr_i64 (v29 + 1)))
 else
  some (Sum.inr (Sum.inr ()))

def palingref15_ports_L1 (a1 : Api_Net) (v2 : Int) : Option ((Int) ⊕ (Unit ⊕ Unit)) :=
 if (decide (v2 < (a1.ports.length : Int))) = true then
  (nth a1.ports v2).bind fun x4 =>
  (palingref15_Place x4.dev (a1.devices.length : Int)).bind fun r6 =>
  if (!r6) = true then
   some (Sum.inr (Sum.inl ()))
  else
   if (decide (x4.native < 0)) = true then
    some (Sum.inr (Sum.inl ()))
   else
    if (decide (x4.native > 4094)) = true then
     some (Sum.inr (Sum.inl ()))
    else
     (palingref15_rising x4.tagged 4094).bind fun r11 =>
     if (!r11) = true then
      some (Sum.inr (Sum.inl ()))
     else
      (palingref15_In x4.tagged x4.native).bind fun r14 =>
      if (r14) = true then
       some (Sum.inr (Sum.inl ()))
      else
       (palingref15_ports_J2 a1 v2 x4).bind fun r28 => match r28 with
       | Sum.inl () =>
        some (Sum.inr (Sum.inl ()))
       | Sum.inr () =>
        (loopM (palingref15_ports_L3 a1 v2 x4) 0).bind fun r37 => match r37 with
        | Sum.inl () =>
         some (Sum.inr (Sum.inl ()))
        | Sum.inr () =>
         if (x4.link == (-1)) = true then
          some (Sum.inl (wr_i64 (v2 + 1)))
         else
          (palingref15_Place x4.link (a1.links.length : Int)).bind fun r39 =>
          if (!r39) = true then
           some (Sum.inr (Sum.inl ()))
          else
           (nth a1.links x4.link).bind fun x42 =>
           if (x42.a != v2) = true then
            (nth a1.links x4.link).bind fun x45 =>
            if (x45.b != v2) = true then
             some (Sum.inr (Sum.inl ()))
            else
             some (Sum.inl (wr_i64 (v2 + 1)))
           else
            some (Sum.inl (wr_i64 (v2 + 1)))
 else
  some (Sum.inr (Sum.inr ()))

def palingref15_ports (a1 : Api_Net) : Option (Bool) :=
 (loopM (palingref15_ports_L1 a1) 0).bind fun r49 => match r49 with
 | Sum.inl () =>
  some false
 | Sum.inr () =>
  some true

def palingref15_links_L1 (a1 : Api_Net) (v2 : Int) : Option ((Int) ⊕ (Unit ⊕ Unit)) :=
 if (decide (v2 < (a1.links.length : Int))) = true then
  (nth a1.links v2).bind fun x4 =>
  (palingref15_Place x4.a (a1.ports.length : Int)).bind fun r6 =>
  if (!r6) = true then
   some (Sum.inr (Sum.inl ()))
  else
   (palingref15_Place x4.b (a1.ports.length : Int)).bind fun r9 =>
   if (!r9) = true then
    some (Sum.inr (Sum.inl ()))
   else
    (nth a1.ports x4.a).bind fun x12 =>
    (nth a1.ports x4.b).bind fun x14 =>
    if (x12.dev == x14.dev) = true then
     some (Sum.inr (Sum.inl ()))
    else
     (nth a1.ports x4.a).bind fun x17 =>
     if (x17.link != v2) = true then
      some (Sum.inr (Sum.inl ()))
     else
      (nth a1.ports x4.b).bind fun x20 =>
      if (x20.link != v2) = true then
       some (Sum.inr (Sum.inl ()))
      else
       some (Sum.inl (wr_i64 (v2 + 1)))
 else
  some (Sum.inr (Sum.inr ()))

def palingref15_links (a1 : Api_Net) : Option (Bool) :=
 (loopM (palingref15_links_L1 a1) 0).bind fun r24 => match r24 with
 | Sum.inl () =>
  some false
 | Sum.inr () =>
  some true

def palingref15_Member (a1 : Api_Port) (a2 : Int) : Option (Bool) :=
 if (a2 != 0) = true then
  if (a1.native == a2) = true then
   some true
  else
   (palingref15_In a1.tagged a2).bind fun r5 =>
   some r5
 else
  some false

def palingref15_rest_L1 (a1 : Api_Net) (v2 : Int) : Option ((Int) ⊕ (Unit ⊕ Unit)) :=
 if (decide (v2 < (a1.statics.length : Int))) = true then
  (nth a1.statics v2).bind fun x4 =>
  (palingref15_Place x4.domain (a1.domains.length : Int)).bind fun r6 =>
  if (!r6) = true then
   some (Sum.inr (Sum.inl ()))
  else
   (palingref15_Place x4.port (a1.ports.length : Int)).bind fun r9 =>
   if (!r9) = true then
    some (Sum.inr (Sum.inl ()))
   else
    (nth a1.domains x4.domain).bind fun x12 =>
    (nth a1.ports x4.port).bind fun x14 =>
    if (x14.dev != x12.dev) = true then
     some (Sum.inr (Sum.inl ()))
    else
     (nth a1.ports x4.port).bind fun x17 =>
     (palingref15_Member x17 x12.vlan).bind fun r19 =>
     if (!r19) = true then
      some (Sum.inr (Sum.inl ()))
     else
      some (Sum.inl (wr_i64 (v2 + 1)))
 else
  some (Sum.inr (Sum.inr ()))

def palingref15_rest_L2 (a1 : Api_Net) (v24 : Int) : Option ((Int) ⊕ (Unit ⊕ Unit)) :=
 if (decide (v24 < (a1.floods.length : Int))) = true then
  (nth a1.floods v24).bind fun x26 =>
  (palingref15_Place x26.dev (a1.devices.length : Int)).bind fun r28 =>
  if (!r28) = true then
   some (Sum.inr (Sum.inl ()))
  else
   (nth a1.floods v24).bind fun x31 =>
   if (decide ((x31.addrs.length : Int) > 16)) = true then
    some (Sum.inr (Sum.inl ()))
   else
    some (Sum.inl (wr_i64 (v24 + 1)))
 else
  some (Sum.inr (Sum.inr ()))

def palingref15_rest_L3 (a1 : Api_Net) (v36 : Int) : Option ((Int) ⊕ (Unit ⊕ Unit)) :=
 if (decide (v36 < (a1.vrfs.length : Int))) = true then
  (nth a1.vrfs v36).bind fun x38 =>
  (palingref15_Place x38.dev (a1.devices.length : Int)).bind fun r40 =>
  if (!r40) = true then
   some (Sum.inr (Sum.inl ()))
  else
   (palingref15_rising x38.imports 65535).bind fun r43 =>
   if (!r43) = true then
    some (Sum.inr (Sum.inl ()))
   else
    (palingref15_rising x38.exports 65535).bind fun r46 =>
    if (!r46) = true then
     some (Sum.inr (Sum.inl ()))
    else
     some (Sum.inl (wr_i64 (v36 + 1)))
 else
  some (Sum.inr (Sum.inr ()))

def palingref15_rest_L4 (a1 : Api_Net) (v51 : Int) : Option ((Int) ⊕ (Unit ⊕ Unit)) :=
 if (decide (v51 < (a1.irbs.length : Int))) = true then
  (nth a1.irbs v51).bind fun x53 =>
  (palingref15_Place x53.domain (a1.domains.length : Int)).bind fun r55 =>
  if (!r55) = true then
   some (Sum.inr (Sum.inl ()))
  else
   (palingref15_Place x53.vrf (a1.vrfs.length : Int)).bind fun r58 =>
   if (!r58) = true then
    some (Sum.inr (Sum.inl ()))
   else
    if (decide (x53.net.bits < 1)) = true then
     some (Sum.inr (Sum.inl ()))
    else
     if (decide (x53.net.bits > 30)) = true then
      some (Sum.inr (Sum.inl ()))
     else
      (nth a1.domains x53.domain).bind fun x63 =>
      (nth a1.vrfs x53.vrf).bind fun x65 =>
      if (x63.dev != x65.dev) = true then
       some (Sum.inr (Sum.inl ()))
      else
       (nth a1.domains x53.domain).bind fun x68 =>
       if (x68.irb != v51) = true then
        some (Sum.inr (Sum.inl ()))
       else
        some (Sum.inl (wr_i64 (v51 + 1)))
 else
  some (Sum.inr (Sum.inr ()))

def palingref15_rest (a1 : Api_Net) : Option (Bool) :=
 (loopM (palingref15_rest_L1 a1) 0).bind fun r23 => match r23 with
 | Sum.inl () =>
  some false
 | Sum.inr () =>
  (loopM (palingref15_rest_L2 a1) 0).bind fun r35 => match r35 with
  | Sum.inl () =>
   some false
  | Sum.inr () =>
   (loopM (palingref15_rest_L3 a1) 0).bind fun r50 => match r50 with
   | Sum.inl () =>
    some false
   | Sum.inr () =>
    (loopM (palingref15_rest_L4 a1) 0).bind fun r72 => match r72 with
    | Sum.inl () =>
     some false
    | Sum.inr () =>
     some true

def palingref15_Right (a1 : Api_Net) : Option (Bool) :=
 if (decide ((a1.devices.length : Int) > 8)) = true then
  some false
 else
  if (decide ((a1.ports.length : Int) > 40)) = true then
   some false
  else
   if (decide ((a1.links.length : Int) > 20)) = true then
    some false
   else
    if (decide ((a1.domains.length : Int) > 48)) = true then
     some false
    else
     if (decide ((a1.statics.length : Int) > 64)) = true then
      some false
     else
      if (decide ((a1.floods.length : Int) > 48)) = true then
       some false
      else
       if (decide ((a1.vrfs.length : Int) > 16)) = true then
        some false
       else
        if (decide ((a1.irbs.length : Int) > 48)) = true then
         some false
        else
         (palingref15_domains a1).bind fun r10 =>
         if (r10) = true then
          (palingref15_ports a1).bind fun r13 =>
          if (r13) = true then
           (palingref15_links a1).bind fun r16 =>
           if (r16) = true then
            (palingref15_rest a1).bind fun r19 =>
            some r19
           else
            some false
          else
           some false
         else
          some false

def palingref02_Right (a1 : Api_Prefix) : Option (Bool) :=
 if (decide (a1.bits ≥ 0)) = true then
  some (decide (a1.bits ≤ 32))
 else
  some false

def palingref02_size_L1 (v2 : Int) (v3 : Int) : Option ((Int × Int) ⊕ (Int)) :=
 if (decide (v3 < 32)) = true then
  some (Sum.inl (wr_i64 (v2 * 2), wr_i64 (v3 + 1)))
 else
  some (Sum.inr v2)

def palingref02_size (a1 : Api_Prefix) : Option (Int) :=
 (loopM (fun s : Int × Int => match s with | (v2, v3) => palingref02_size_L1 v2 v3) (1, a1.bits)).bind fun r8 => match r8 with
 | v6 =>
  some v6

def palingref02_First (a1 : Api_Prefix) : Option (Int) :=
 (palingref02_Right a1).bind fun r2 =>
 if (!r2) = true then
  some 0
 else
  (palingref02_size a1).bind fun r5 =>
  if (r5 != 0) = true then
   (palingref02_size a1).bind fun r8 =>
   some (wr_u32 (wr_i64 ((wr_i64 (Int.tdiv (wr_i64 a1.addr) r5)) * r8)))
  else
   none

def palingref02_Last (a1 : Api_Prefix) : Option (Int) :=
 (palingref02_Right a1).bind fun r2 =>
 if (!r2) = true then
  some 0
 else
  (palingref02_First a1).bind fun r5 =>
  (palingref02_size a1).bind fun r7 =>
  some (wr_u32 (wr_i64 ((wr_i64 ((wr_i64 r5) + r7)) - 1)))

def palingref30_device (a1 : Api_Net) (a2 : Int) : Option (Int) :=
 (nth a1.irbs a2).bind fun x3 =>
 (nth a1.domains x3.domain).bind fun x5 =>
 some x5.dev

def palingref02_Has (a1 : Api_Prefix) (a2 : Int) : Option (Bool) :=
 (palingref02_Right a1).bind fun r3 =>
 if (r3) = true then
  (palingref02_First a1).bind fun r6 =>
  if (decide (a2 ≥ r6)) = true then
   (palingref02_Last a1).bind fun r9 =>
   some (decide (a2 ≤ r9))
  else
   some false
 else
  some false

def palingref20_Leaks_L1 (a1 : Api_Net) (a2 : Int) (a3 : Int) (v11 : Int) : Option ((Int) ⊕ (Unit ⊕ Unit)) :=
 (nth a1.vrfs a2).bind fun x12 =>
 if (decide (v11 < (x12.exports.length : Int))) = true then
  (nth a1.vrfs a2).bind fun x15 =>
  (nth a1.vrfs a3).bind fun x17 =>
  if (x15.dev == x17.dev) = true then
   (nth a1.vrfs a3).bind fun x20 =>
   (nth a1.vrfs a2).bind fun x22 =>
   (nth x22.exports v11).bind fun x24 =>
   (palingref15_In x20.imports x24).bind fun r26 =>
   if (r26) = true then
    some (Sum.inr (Sum.inl ()))
   else
    some (Sum.inl (wr_i64 (v11 + 1)))
  else
   some (Sum.inl (wr_i64 (v11 + 1)))
 else
  some (Sum.inr (Sum.inr ()))

def palingref20_Leaks (a1 : Api_Net) (a2 : Int) (a3 : Int) : Option (Bool) :=
 (palingref15_Place a2 (a1.vrfs.length : Int)).bind fun r4 =>
 if (!r4) = true then
  some false
 else
  (palingref15_Place a3 (a1.vrfs.length : Int)).bind fun r7 =>
  if (!r7) = true then
   some false
  else
   if (a2 == a3) = true then
    some true
   else
    (loopM (palingref20_Leaks_L1 a1 a2 a3) 0).bind fun r30 => match r30 with
    | Sum.inl () =>
     some true
    | Sum.inr () =>
     some false

def palingref30_better (a1 : Api_Net) (a2 : Int) (a3 : Int) (a4 : Int) : Option (Bool) :=
 (nth a1.irbs a3).bind fun x5 =>
 (nth a1.irbs a4).bind fun x7 =>
 if (x5.net.bits != x7.net.bits) = true then
  (nth a1.irbs a3).bind fun x10 =>
  (nth a1.irbs a4).bind fun x12 =>
  some (decide (x10.net.bits > x12.net.bits))
 else
  (nth a1.irbs a3).bind fun x14 =>
  (nth a1.irbs a2).bind fun x16 =>
  if (x14.vrf == x16.vrf) = true then
   (nth a1.irbs a4).bind fun x19 =>
   (nth a1.irbs a2).bind fun x21 =>
   some (x19.vrf != x21.vrf)
  else
   some false

def palingref30_Lookup_L1 (a1 : Api_Net) (a2 : Int) (a3 : Int) (v7 : Int) (v8 : Int) : Option ((Int × Int) ⊕ (Unit ⊕ Int)) :=
 if (decide (v8 < (a1.irbs.length : Int))) = true then
  (palingref30_device a1 v8).bind fun r10 =>
  (palingref30_device a1 a2).bind fun r12 =>
  if (r10 != r12) = true then
   some (Sum.inl (v7, wr_i64 (v8 + 1)))
  else
   (nth a1.irbs v8).bind fun x15 =>
   if (x15.net.addr == a3) = true then
    some (Sum.inr (Sum.inl ()))
   else
    (nth a1.irbs v8).bind fun x18 =>
    (palingref02_Has x18.net a3).bind fun r20 =>
    if (!r20) = true then
     some (Sum.inl (v7, wr_i64 (v8 + 1)))
    else
     (nth a1.irbs v8).bind fun x23 =>
     (nth a1.irbs a2).bind fun x25 =>
     (palingref20_Leaks a1 x23.vrf x25.vrf).bind fun r27 =>
     if (!r27) = true then
      some (Sum.inl (v7, wr_i64 (v8 + 1)))
     else
      if (decide (v7 < 0)) = true then
       some (Sum.inl (v8, wr_i64 (v8 + 1)))
      else
       (palingref30_better a1 a2 v8 v7).bind fun r31 =>
       if (r31) = true then
        some (Sum.inl (v8, wr_i64 (v8 + 1)))
       else
        some (Sum.inl (v7, wr_i64 (v8 + 1)))
 else
  some (Sum.inr (Sum.inr v7))

def palingref30_Lookup (a1 : Api_Net) (a2 : Int) (a3 : Int) : Option (Int × Bool) :=
 (palingref15_Place a2 (a1.irbs.length : Int)).bind fun r4 =>
 if (!r4) = true then
  some (0, false)
 else
  (loopM (fun s : Int × Int => match s with | (v7, v8) => palingref30_Lookup_L1 a1 a2 a3 v7 v8) ((-1), 0)).bind fun r37 => match r37 with
  | Sum.inl () =>
   some (0, false)
  | Sum.inr v35 =>
   if (decide (v35 < 0)) = true then
    some (0, false)
   else
    some (v35, true)

def palingref36_taken_L1 (a1 : Api_Net) (a2 : Int) (v3 : Int) : Option ((Int) ⊕ (Unit ⊕ Unit)) :=
 if (decide (v3 < (a1.irbs.length : Int))) = true then
  (nth a1.irbs v3).bind fun x5 =>
  if (x5.net.addr == a2) = true then
   some (Sum.inr (Sum.inl ()))
  else
   some (Sum.inl (wr_i64 (v3 + 1)))
 else
  some (Sum.inr (Sum.inr ()))

def palingref36_taken (a1 : Api_Net) (a2 : Int) : Option (Bool) :=
 (loopM (palingref36_taken_L1 a1 a2) 0).bind fun r9 => match r9 with
 | Sum.inl () =>
  some true
 | Sum.inr () =>
  some false

def palingref36_Leads (a1 : Api_Net) (a2 : Int) (a3 : Int) (a4 : Int) : Option (Bool) :=
 (palingref30_Lookup a1 a2 a4).bind fun r5 =>
 if (r5.2) = true then
  if (r5.1 == a3) = true then
   (palingref36_taken a1 a4).bind fun r9 =>
   some (!r9)
  else
   some false
 else
  some false

def palingref36_Address_L1 (a1 : Api_Net) (a2 : Int) (a3 : Int) (l14 : List Int) (v15 : Int) : Option (((List Int) × Int) ⊕ ((List Int))) :=
 if (decide (v15 < (a1.irbs.length : Int))) = true then
  (nth a1.irbs v15).bind fun x17 =>
  (nth a1.irbs v15).bind fun x19 =>
  (palingref02_Last x19.net).bind fun r21 =>
  if (roomy 8 (l14 ++ [(wr_i64 ((wr_i64 x17.net.addr) + 1) : Int), (wr_i64 ((wr_i64 r21) + 1) : Int)])) = true then
   some (Sum.inl (l14 ++ [(wr_i64 ((wr_i64 x17.net.addr) + 1) : Int), (wr_i64 ((wr_i64 r21) + 1) : Int)], wr_i64 (v15 + 1)))
  else
   none
 else
  some (Sum.inr l14)

def palingref36_Address_L2 (a1 : Api_Net) (a2 : Int) (a3 : Int) (l31 : List Int) (v34 : Int) (v35 : Int) : Option ((Int × Int) ⊕ (Int)) :=
 if (decide (v35 < ((List.length l31) : Int))) = true then
  if (lin l31 v35) = true then
   (l31[(Int.toNat v35)]?).bind fun x38 =>
   if (decide (x38 < 4294967296)) = true then
    if (decide (v34 < 0)) = true then
     (palingref36_Leads a1 a2 a3 (wr_u32 x38)).bind fun r42 =>
     if (r42) = true then
      some (Sum.inl (x38, wr_i64 (v35 + 1)))
     else
      some (Sum.inl (v34, wr_i64 (v35 + 1)))
    else
     if (decide (x38 < v34)) = true then
      (palingref36_Leads a1 a2 a3 (wr_u32 x38)).bind fun r46 =>
      if (r46) = true then
       some (Sum.inl (x38, wr_i64 (v35 + 1)))
      else
       some (Sum.inl (v34, wr_i64 (v35 + 1)))
     else
      some (Sum.inl (v34, wr_i64 (v35 + 1)))
   else
    some (Sum.inl (v34, wr_i64 (v35 + 1)))
  else
   none
 else
  some (Sum.inr v34)

def palingref36_Address (a1 : Api_Net) (a2 : Int) (a3 : Int) : Option (Int × Bool) :=
 (palingref15_Place a2 (a1.irbs.length : Int)).bind fun r4 =>
 if (!r4) = true then
  some (0, false)
 else
  (palingref15_Place a3 (a1.irbs.length : Int)).bind fun r7 =>
  if (!r7) = true then
   some (0, false)
  else
   (nth a1.irbs a3).bind fun x10 =>
   (palingref02_First x10.net).bind fun r12 =>
   (loopM (fun s : (List Int) × Int => match s with | (l14, v15) => palingref36_Address_L1 a1 a2 a3 l14 v15) ([(wr_i64 r12 : Int)], 0)).bind fun r33 => match r33 with
   | l31 =>
    (loopM (fun s : Int × Int => match s with | (v34, v35) => palingref36_Address_L2 a1 a2 a3 l31 v34 v35) ((-1), 0)).bind fun r52 => match r52 with
    | v50 =>
     if (decide (v50 < 0)) = true then
      some (0, false)
     else
      some (wr_u32 v50, true)

def palingref36_Routes_L1 (a1 : Api_Net) (a2 : Int) (l9 : List Palingref36_Lead) (v10 : Int) : Option (((List Palingref36_Lead) × Int) ⊕ ((List Palingref36_Lead))) :=
 if (decide (v10 < (a1.irbs.length : Int))) = true then
  (nth a1.domains a2).bind fun x12 =>
  (palingref36_Address a1 x12.irb v10).bind fun r14 =>
  if (r14.2) = true then
   (nth a1.irbs v10).bind fun x17 =>
   if (roomy 24 (l9 ++ [(⟨v10, x17.domain, r14.1⟩ : Palingref36_Lead)])) = true then
    some (Sum.inl (l9 ++ [(⟨v10, x17.domain, r14.1⟩ : Palingref36_Lead)], wr_i64 (v10 + 1)))
   else
    none
  else
   some (Sum.inl (l9, wr_i64 (v10 + 1)))
 else
  some (Sum.inr l9)

def palingref36_Routes (a1 : Api_Net) (a2 : Int) : Option (((List Palingref36_Lead))) :=
 (palingref15_Place a2 (a1.domains.length : Int)).bind fun r3 =>
 if (!r3) = true then
  some []
 else
  (nth a1.domains a2).bind fun x6 =>
  if (x6.irb == (-1)) = true then
   some []
  else
   (loopM (fun s : (List Palingref36_Lead) × Int => match s with | (l9, v10) => palingref36_Routes_L1 a1 a2 l9 v10) ([], 0)).bind fun r24 => match r24 with
   | l22 =>
    some l22

def palinglaw36_ChooseTells_L1 (l13 : List Choose_Lead) (l26 : List Palingref36_Lead) (v30 : Int) : Option ((Int) ⊕ (Unit ⊕ Unit)) :=
 if (decide (v30 < ((List.length l13) : Int))) = true then
  if (lin l13 v30) = true then
   (l13[(Int.toNat v30)]?).bind fun x33 =>
   if (lin l26 v30) = true then
    (l26[(Int.toNat v30)]?).bind fun x36 =>
    if (!(eq_Palingref36_Lead (⟨x33.to, x33.domain, x33.addr⟩ : Palingref36_Lead) x36)) = true then
     some (Sum.inr (Sum.inl ()))
    else
     some (Sum.inl (wr_i64 (v30 + 1)))
   else
    none
  else
   none
 else
  some (Sum.inr (Sum.inr ()))

def palinglaw36_ChooseTells (a1 : Api_Net) (a2 : Int) (a3 : Int) : Option (Bool) :=
 (palinglaw15_Great a1).bind fun r4 =>
 if (r4) = true then
  (palinglaw36_works).bind fun r7 =>
  some r7
 else
  (choose_Address a1 a2 a3).bind fun r9 =>
  (choose_Routes a1 a2).bind fun r11 => match r11 with
  | l13 =>
   (palingref15_Right a1).bind fun r14 =>
   if (!r14) = true then
    if (r9.1 == 0) = true then
     if (!r9.2) = true then
      if (((List.length l13) : Int) == 0) = true then
       (palinglaw36_works).bind fun r20 =>
       some r20
      else
       some false
     else
      some false
    else
     some false
   else
    (palingref36_Address a1 a2 a3).bind fun r22 =>
    (palingref36_Routes a1 a2).bind fun r24 => match r24 with
    | l26 =>
     if (r9.1 != r22.1) = true then
      some false
     else
      if (!(r9.2 == r22.2)) = true then
       some false
      else
       if (((List.length l13) : Int) != ((List.length l26) : Int)) = true then
        some false
       else
        (loopM (palinglaw36_ChooseTells_L1 l13 l26) 0).bind fun r40 => match r40 with
        | Sum.inl () =>
         some false
        | Sum.inr () =>
         (palinglaw36_works).bind fun r41 =>
         some r41

end Go.Eng
