/- Part of the proof of LookupWithin: printed mirrors of the functions, or their contracts. No conditions. -/
import Derived.Test.YthagnfgaibaokaaEng14
set_option linter.unusedVariables false
set_option maxRecDepth 100000
namespace Go.Eng
open Go
structure Api_Device where
  row : Int
  priority : Int
  name : ByteArray
  mac : Int
  vtep : Int
  deriving DecidableEq, Inhabited

def Api_Device.Ok (x : Api_Device) : Prop := (okI .i64) x.row ∧ (okI .i64) x.priority ∧ okS x.name ∧ (okI .u64) x.mac ∧ (okI .u32) x.vtep ∧ True

structure Api_Port where
  row : Int
  dev : Int
  native : Int
  cost : Int
  link : Int
  name : ByteArray
  tagged : List Int
  deriving DecidableEq, Inhabited

def Api_Port.Ok (x : Api_Port) : Prop := (okI .i64) x.row ∧ (okI .i64) x.dev ∧ (okI .i64) x.native ∧ (okI .i64) x.cost ∧ (okI .i64) x.link ∧ okS x.name ∧ (okL (okI .i64)) x.tagged ∧ True

structure Api_Link where
  row : Int
  a : Int
  b : Int
  deriving DecidableEq, Inhabited

def Api_Link.Ok (x : Api_Link) : Prop := (okI .i64) x.row ∧ (okI .i64) x.a ∧ (okI .i64) x.b ∧ True

structure Api_Domain where
  dev : Int
  vlan : Int
  vni : Int
  irb : Int
  row : Int
  peers : List Int
  deriving DecidableEq, Inhabited

def Api_Domain.Ok (x : Api_Domain) : Prop := (okI .i64) x.dev ∧ (okI .i64) x.vlan ∧ (okI .i64) x.vni ∧ (okI .i64) x.irb ∧ (okI .i64) x.row ∧ (okL (okI .i64)) x.peers ∧ True

structure Api_Static where
  row : Int
  domain : Int
  port : Int
  mac : Int
  deriving DecidableEq, Inhabited

def Api_Static.Ok (x : Api_Static) : Prop := (okI .i64) x.row ∧ (okI .i64) x.domain ∧ (okI .i64) x.port ∧ (okI .u64) x.mac ∧ True

structure Api_Flood where
  row : Int
  dev : Int
  vni : Int
  addrs : List Int
  deriving DecidableEq, Inhabited

def Api_Flood.Ok (x : Api_Flood) : Prop := (okI .i64) x.row ∧ (okI .i64) x.dev ∧ (okI .i64) x.vni ∧ (okL (okI .u32)) x.addrs ∧ True

structure Api_Vrf where
  row : Int
  dev : Int
  name : ByteArray
  imports : List Int
  exports : List Int
  deriving DecidableEq, Inhabited

def Api_Vrf.Ok (x : Api_Vrf) : Prop := (okI .i64) x.row ∧ (okI .i64) x.dev ∧ okS x.name ∧ (okL (okI .i64)) x.imports ∧ (okL (okI .i64)) x.exports ∧ True

structure Api_Prefix where
  addr : Int
  bits : Int
  deriving DecidableEq, Inhabited

def Api_Prefix.Ok (x : Api_Prefix) : Prop := (okI .u32) x.addr ∧ (okI .i64) x.bits ∧ True

structure Api_Irb where
  row : Int
  domain : Int
  vrf : Int
  net : Api_Prefix
  deriving DecidableEq, Inhabited

def Api_Irb.Ok (x : Api_Irb) : Prop := (okI .i64) x.row ∧ (okI .i64) x.domain ∧ (okI .i64) x.vrf ∧ Api_Prefix.Ok x.net ∧ True

structure Api_Net where
  devices : List Api_Device
  ports : List Api_Port
  links : List Api_Link
  domains : List Api_Domain
  statics : List Api_Static
  floods : List Api_Flood
  vrfs : List Api_Vrf
  irbs : List Api_Irb
  deriving DecidableEq, Inhabited

def Api_Net.Ok (x : Api_Net) : Prop := (okL Api_Device.Ok) x.devices ∧ (okL Api_Port.Ok) x.ports ∧ (okL Api_Link.Ok) x.links ∧ (okL Api_Domain.Ok) x.domains ∧ (okL Api_Static.Ok) x.statics ∧ (okL Api_Flood.Ok) x.floods ∧ (okL Api_Vrf.Ok) x.vrfs ∧ (okL Api_Irb.Ok) x.irbs ∧ True

structure Api_Entry where
  mac : Int
  where_ : Int
  seen : Int
  deriving DecidableEq, Inhabited

def Api_Entry.Ok (x : Api_Entry) : Prop := (okI .u64) x.mac ∧ (okI .i64) x.where_ ∧ (okI .i64) x.seen ∧ True

structure Names_judge where
  n : Api_Net
  deriving DecidableEq, Inhabited

def Names_judge.Ok (x : Names_judge) : Prop := Api_Net.Ok x.n ∧ True

structure Lookup_room where
  n : Api_Net
  forward : List Bool
  at_ : Int
  from_ : Int
  members : List Int
  deriving DecidableEq, Inhabited

def Lookup_room.Ok (x : Lookup_room) : Prop := Api_Net.Ok x.n ∧ (okL okB) x.forward ∧ (okI .i64) x.at_ ∧ (okI .i64) x.from_ ∧ (okL (okI .i64)) x.members ∧ True

structure Choose_Lead where
  to : Int
  domain : Int
  addr : Int
  deriving DecidableEq, Inhabited

def Choose_Lead.Ok (x : Choose_Lead) : Prop := (okI .i64) x.to ∧ (okI .i64) x.domain ∧ (okI .u32) x.addr ∧ True

structure Palingref36_Lead where
  to : Int
  domain : Int
  addr : Int
  deriving DecidableEq, Inhabited

def Palingref36_Lead.Ok (x : Palingref36_Lead) : Prop := (okI .i64) x.to ∧ (okI .i64) x.domain ∧ (okI .u32) x.addr ∧ True

def eq_Api_Device (x y : Api_Device) : Bool := (x.row == y.row && (x.priority == y.priority && (seqB x.name y.name && (x.mac == y.mac && (x.vtep == y.vtep && true)))))

def eq_Api_Link (x y : Api_Link) : Bool := (x.row == y.row && (x.a == y.a && (x.b == y.b && true)))

def eq_Api_Static (x y : Api_Static) : Bool := (x.row == y.row && (x.domain == y.domain && (x.port == y.port && (x.mac == y.mac && true))))

def eq_Api_Prefix (x y : Api_Prefix) : Bool := (x.addr == y.addr && (x.bits == y.bits && true))

def eq_Api_Irb (x y : Api_Irb) : Bool := (x.row == y.row && (x.domain == y.domain && (x.vrf == y.vrf && (eq_Api_Prefix x.net y.net && true))))

def eq_Palingref36_Lead (x y : Palingref36_Lead) : Bool := (x.to == y.to && (x.domain == y.domain && (x.addr == y.addr && true)))

def names_judge_few (a1 : Names_judge) : Option (Bool) :=
  if (decide ((a1.n.devices.length : Int) ≤ 8)) = true then
    if (decide ((a1.n.ports.length : Int) ≤ 40)) = true then
      if (decide ((a1.n.links.length : Int) ≤ 20)) = true then
        if (decide ((a1.n.domains.length : Int) ≤ 48)) = true then
          if (decide ((a1.n.statics.length : Int) ≤ 64)) = true then
            if (decide ((a1.n.floods.length : Int) ≤ 48)) = true then
              if (decide ((a1.n.vrfs.length : Int) ≤ 16)) = true then
                some (decide ((a1.n.irbs.length : Int) ≤ 48))
              else
                some false
            else
              some false
          else
            some false
        else
          some false
      else
        some false
    else
      some false
  else
    some false

def names_place_Device (a1 : List Api_Device) (a2 : Int) : Option (Bool) :=
  if (decide (a2 ≥ 0)) = true then
    some (decide (a2 < (a1.length : Int)))
  else
    some false

def names_judge_domain_1 (a1 : Api_Domain) (a2 : Int) (a3 : Int) : Option (Bool) :=
  if (a1.dev == a2) = true then
    some (a1.vlan == a3)
  else
    some false

def slices_IndexFunc_Domain_judge_domain_1_L1 (a1 : List Api_Domain) (a2 : Int) (a3 : Int) (v4 : Int) : Option ((Int) ⊕ (Int ⊕ Unit)) :=
  if (decide (v4 < (a1.length : Int))) = true then
    (nth a1 v4).bind fun x6 =>
    (names_judge_domain_1 x6 a2 a3).bind fun r8 =>
    if (r8) = true then
      some (Sum.inr (Sum.inl v4))
    else
      some (Sum.inl (wr_i64 (v4 + 1)))
  else
    some (Sum.inr (Sum.inr ()))

def slices_IndexFunc_Domain_judge_domain_1 (a1 : List Api_Domain) (a2 : Int) (a3 : Int) : Option (Int) :=
  (loopM (slices_IndexFunc_Domain_judge_domain_1_L1 a1 a2 a3) 0).bind fun r14 => match r14 with
  | Sum.inl v12 =>
    some v12
  | Sum.inr () =>
    some (-1)

def names_judge_domain (a1 : Names_judge) (a2 : Int) (a3 : Int) : Option (Int) :=
  (slices_IndexFunc_Domain_judge_domain_1 a1.n.domains a2 a3).bind fun r4 =>
  some r4

def names_place_Irb (a1 : List Api_Irb) (a2 : Int) : Option (Bool) :=
  if (decide (a2 ≥ 0)) = true then
    some (decide (a2 < (a1.length : Int)))
  else
    some false

def names_judge_bare (a1 : Names_judge) (a2 : Int) (a3 : Api_Domain) : Option (Bool) :=
  (names_place_Device a1.n.devices a3.dev).bind fun r4 =>
  if (r4) = true then
    if (decide (a3.vlan ≥ 1)) = true then
      if (decide (a3.vlan ≤ 4094)) = true then
        if (decide (a3.vni ≥ 0)) = true then
          if (decide (a3.vni ≤ 16777215)) = true then
            if (a3.irb == (-1)) = true then
              (names_judge_domain a1 a3.dev a3.vlan).bind fun r12 =>
              some (r12 == a2)
            else
              (names_place_Irb a1.n.irbs a3.irb).bind fun r14 =>
              if (r14) = true then
                (nth a1.n.irbs a3.irb).bind fun x17 =>
                if (x17.domain == a2) = true then
                  (names_judge_domain a1 a3.dev a3.vlan).bind fun r20 =>
                  some (r20 == a2)
                else
                  some false
              else
                some false
          else
            some false
        else
          some false
      else
        some false
    else
      some false
  else
    some false

def names_all_Domain_judge_bare_L1 (a1 : List Api_Domain) (a2 : Names_judge) (v3 : Int) : Option ((Int) ⊕ (Unit ⊕ Unit)) :=
  if (decide (v3 < (a1.length : Int))) = true then
    (nth a1 v3).bind fun x5 =>
    (names_judge_bare a2 v3 x5).bind fun r7 =>
    if (!r7) = true then
      some (Sum.inr (Sum.inl ()))
    else
      some (Sum.inl (wr_i64 (v3 + 1)))
  else
    some (Sum.inr (Sum.inr ()))

def names_all_Domain_judge_bare (a1 : List Api_Domain) (a2 : Names_judge) : Option (Bool) :=
  (loopM (names_all_Domain_judge_bare_L1 a1 a2) 0).bind fun r11 => match r11 with
  | Sum.inl () =>
    some false
  | Sum.inr () =>
    some true

def names_place_Domain (a1 : List Api_Domain) (a2 : Int) : Option (Bool) :=
  if (decide (a2 ≥ 0)) = true then
    some (decide (a2 < (a1.length : Int)))
  else
    some false

def names_judge_vtep (a1 : Names_judge) (a2 : Api_Domain) : Option (Bool) :=
  (nth a1.n.devices a2.dev).bind fun x3 =>
  some (x3.vtep != 0)

def slices_Index_int_L1 (a1 : List Int) (a2 : Int) (v3 : Int) : Option ((Int) ⊕ (Int ⊕ Unit)) :=
  if (decide (v3 < (a1.length : Int))) = true then
    (nth a1 v3).bind fun x5 =>
    if (a2 == x5) = true then
      some (Sum.inr (Sum.inl v3))
    else
      some (Sum.inl (wr_i64 (v3 + 1)))
  else
    some (Sum.inr (Sum.inr ()))

def slices_Index_int (a1 : List Int) (a2 : Int) : Option (Int) :=
  (loopM (slices_Index_int_L1 a1 a2) 0).bind fun r11 => match r11 with
  | Sum.inl v9 =>
    some v9
  | Sum.inr () =>
    some (-1)

def slices_Contains_int (a1 : List Int) (a2 : Int) : Option (Bool) :=
  (slices_Index_int a1 a2).bind fun r3 =>
  some (decide (r3 ≥ 0))

def names_judge_peer (a1 : Names_judge) (a2 : Int) (a3 : Api_Domain) (a4 : Int) : Option (Bool) :=
  (names_place_Domain a1.n.domains a4).bind fun r5 =>
  if (!r5) = true then
    some false
  else
    if (a4 == a2) = true then
      some false
    else
      (nth a1.n.domains a4).bind fun x9 =>
      (names_place_Device a1.n.devices x9.dev).bind fun r11 =>
      if (r11) = true then
        if (x9.dev != a3.dev) = true then
          if (x9.vni == a3.vni) = true then
            if (a3.vni != 0) = true then
              (names_judge_vtep a1 x9).bind fun r17 =>
              if (r17) = true then
                (names_judge_vtep a1 a3).bind fun r20 =>
                if (r20) = true then
                  (slices_Contains_int x9.peers a2).bind fun r23 =>
                  some r23
                else
                  some false
              else
                some false
            else
              some false
          else
            some false
        else
          some false
      else
        some false

def names_judge_peers_1 (a1 : Int) (a2 : Int) (a3 : Names_judge) (a4 : Int) (a5 : Api_Domain) : Option (Bool) :=
  (names_judge_peer a3 a4 a5 a2).bind fun r6 =>
  if (r6) = true then
    (slices_Index_int a5.peers a2).bind fun r9 =>
    some (r9 == a1)
  else
    some false

def names_all_int_judge_peers_1_L1 (a1 : List Int) (a2 : Names_judge) (a3 : Int) (a4 : Api_Domain) (v5 : Int) : Option ((Int) ⊕ (Unit ⊕ Unit)) :=
  if (decide (v5 < (a1.length : Int))) = true then
    (nth a1 v5).bind fun x7 =>
    (names_judge_peers_1 v5 x7 a2 a3 a4).bind fun r9 =>
    if (!r9) = true then
      some (Sum.inr (Sum.inl ()))
    else
      some (Sum.inl (wr_i64 (v5 + 1)))
  else
    some (Sum.inr (Sum.inr ()))

def names_all_int_judge_peers_1 (a1 : List Int) (a2 : Names_judge) (a3 : Int) (a4 : Api_Domain) : Option (Bool) :=
  (loopM (names_all_int_judge_peers_1_L1 a1 a2 a3 a4) 0).bind fun r13 => match r13 with
  | Sum.inl () =>
    some false
  | Sum.inr () =>
    some true

def names_judge_peers (a1 : Names_judge) (a2 : Int) (a3 : Api_Domain) : Option (Bool) :=
  (names_all_int_judge_peers_1 a3.peers a1 a2 a3).bind fun r4 =>
  some r4

def names_all_Domain_judge_peers_L1 (a1 : List Api_Domain) (a2 : Names_judge) (v3 : Int) : Option ((Int) ⊕ (Unit ⊕ Unit)) :=
  if (decide (v3 < (a1.length : Int))) = true then
    (nth a1 v3).bind fun x5 =>
    (names_judge_peers a2 v3 x5).bind fun r7 =>
    if (!r7) = true then
      some (Sum.inr (Sum.inl ()))
    else
      some (Sum.inl (wr_i64 (v3 + 1)))
  else
    some (Sum.inr (Sum.inr ()))

def names_all_Domain_judge_peers (a1 : List Api_Domain) (a2 : Names_judge) : Option (Bool) :=
  (loopM (names_all_Domain_judge_peers_L1 a1 a2) 0).bind fun r11 => match r11 with
  | Sum.inl () =>
    some false
  | Sum.inr () =>
    some true

def num_Rising_L1 (a1 : List Int) (a2 : Int) (a3 : Int) (v4 : Int) : Option ((Int) ⊕ (Unit ⊕ Unit)) :=
  if (decide (v4 < (a1.length : Int))) = true then
    (nth a1 v4).bind fun x6 =>
    if (decide (x6 < a2)) = true then
      some (Sum.inr (Sum.inl ()))
    else
      if (decide (x6 > a3)) = true then
        some (Sum.inr (Sum.inl ()))
      else
        if (decide (v4 > 0)) = true then
          (nth a1 (wr_i64 (v4 - 1))).bind fun x11 =>
          if (decide (x11 ≥ x6)) = true then
            some (Sum.inr (Sum.inl ()))
          else
            some (Sum.inl (wr_i64 (v4 + 1)))
        else
          some (Sum.inl (wr_i64 (v4 + 1)))
  else
    some (Sum.inr (Sum.inr ()))

def num_Rising (a1 : List Int) (a2 : Int) (a3 : Int) : Option (Bool) :=
  (loopM (num_Rising_L1 a1 a2 a3) 0).bind fun r15 => match r15 with
  | Sum.inl () =>
    some false
  | Sum.inr () =>
    if (decide ((a1.length : Int) > 0)) = true then
      some (decide ((a1.length : Int) ≤ 16))
    else
      some false

def names_rising (a1 : List Int) (a2 : Int) : Option (Bool) :=
  if ((a1.length : Int) == 0) = true then
    some true
  else
    (num_Rising a1 1 a2).bind fun r4 =>
    some r4

def names_place_Link (a1 : List Api_Link) (a2 : Int) : Option (Bool) :=
  if (decide (a2 ≥ 0)) = true then
    some (decide (a2 < (a1.length : Int)))
  else
    some false

def names_judge_port_J1 (a1 : Names_judge) (a2 : Int) (a3 : Api_Port) : Option (Unit ⊕ Unit) :=
  (names_place_Device a1.n.devices a3.dev).bind fun r4 =>
  if (!r4) = true then
    some (Sum.inl ())
  else
    if (decide (a3.native < 0)) = true then
      some (Sum.inl ())
    else
      if (decide (a3.native > 4094)) = true then
        some (Sum.inl ())
      else
        (names_rising a3.tagged 4094).bind fun r9 =>
        if (!r9) = true then
          some (Sum.inl ())
        else
          (slices_Contains_int a3.tagged a3.native).bind fun r12 =>
          if (r12) = true then
            some (Sum.inl ())
          else
            if (a3.native == 0) = true then
              if ((a3.tagged.length : Int) == 0) = true then
                some (Sum.inl ())
              else
                some (Sum.inr ())
            else
              some (Sum.inr ())

def names_judge_port_L2 (a1 : Names_judge) (a2 : Int) (a3 : Api_Port) (v19 : Int) : Option ((Int) ⊕ (Unit ⊕ Unit)) :=
  if (decide (v19 < (a3.tagged.length : Int))) = true then
    (nth a3.tagged v19).bind fun x21 =>
    (names_judge_domain a1 a3.dev x21).bind fun r23 =>
    if (decide (r23 < 0)) = true then
      some (Sum.inr (Sum.inl ()))
    else
      some (Sum.inl (wr_i64 (v19 + 1)))
  else
    some (Sum.inr (Sum.inr ()))

def names_judge_port_J3 (a1 : Names_judge) (a2 : Int) (a3 : Api_Port) : Option (Unit ⊕ Unit) :=
  if (decide (a3.native > 0)) = true then
    (names_judge_domain a1 a3.dev a3.native).bind fun r29 =>
    if (decide (r29 < 0)) = true then
      some (Sum.inl ())
    else
      some (Sum.inr ())
  else
    some (Sum.inr ())

def names_judge_port (a1 : Names_judge) (a2 : Int) (a3 : Api_Port) : Option (Bool) :=
  (names_judge_port_J1 a1 a2 a3).bind fun r18 => match r18 with
  | Sum.inl () =>
    some false
  | Sum.inr () =>
    (loopM (names_judge_port_L2 a1 a2 a3) 0).bind fun r27 => match r27 with
    | Sum.inl () =>
      some false
    | Sum.inr () =>
      (names_judge_port_J3 a1 a2 a3).bind fun r33 => match r33 with
      | Sum.inl () =>
        some false
      | Sum.inr () =>
        if (a3.link == (-1)) = true then
          some true
        else
          (names_place_Link a1.n.links a3.link).bind fun r35 =>
          if (r35) = true then
            (nth a1.n.links a3.link).bind fun x38 =>
            if (x38.a == a2) = true then
              some true
            else
              (nth a1.n.links a3.link).bind fun x41 =>
              some (x41.b == a2)
          else
            some false

def names_all_Port_judge_port_L1 (a1 : List Api_Port) (a2 : Names_judge) (v3 : Int) : Option ((Int) ⊕ (Unit ⊕ Unit)) :=
  if (decide (v3 < (a1.length : Int))) = true then
    (nth a1 v3).bind fun x5 =>
    (names_judge_port a2 v3 x5).bind fun r7 =>
    if (!r7) = true then
      some (Sum.inr (Sum.inl ()))
    else
      some (Sum.inl (wr_i64 (v3 + 1)))
  else
    some (Sum.inr (Sum.inr ()))

def names_all_Port_judge_port (a1 : List Api_Port) (a2 : Names_judge) : Option (Bool) :=
  (loopM (names_all_Port_judge_port_L1 a1 a2) 0).bind fun r11 => match r11 with
  | Sum.inl () =>
    some false
  | Sum.inr () =>
    some true

def names_place_Port (a1 : List Api_Port) (a2 : Int) : Option (Bool) :=
  if (decide (a2 ≥ 0)) = true then
    some (decide (a2 < (a1.length : Int)))
  else
    some false

def names_judge_link (a1 : Names_judge) (a2 : Int) (a3 : Api_Link) : Option (Bool) :=
  (names_place_Port a1.n.ports a3.a).bind fun r4 =>
  if (!r4) = true then
    some false
  else
    (names_place_Port a1.n.ports a3.b).bind fun r7 =>
    if (!r7) = true then
      some false
    else
      (nth a1.n.ports a3.a).bind fun x10 =>
      (nth a1.n.ports a3.b).bind fun x12 =>
      if (x10.dev != x12.dev) = true then
        if (x10.link == a2) = true then
          some (x12.link == a2)
        else
          some false
      else
        some false

def names_all_Link_judge_link_L1 (a1 : List Api_Link) (a2 : Names_judge) (v3 : Int) : Option ((Int) ⊕ (Unit ⊕ Unit)) :=
  if (decide (v3 < (a1.length : Int))) = true then
    (nth a1 v3).bind fun x5 =>
    (names_judge_link a2 v3 x5).bind fun r7 =>
    if (!r7) = true then
      some (Sum.inr (Sum.inl ()))
    else
      some (Sum.inl (wr_i64 (v3 + 1)))
  else
    some (Sum.inr (Sum.inr ()))

def names_all_Link_judge_link (a1 : List Api_Link) (a2 : Names_judge) : Option (Bool) :=
  (loopM (names_all_Link_judge_link_L1 a1 a2) 0).bind fun r11 => match r11 with
  | Sum.inl () =>
    some false
  | Sum.inr () =>
    some true

def names_Member (a1 : Api_Port) (a2 : Int) : Option (Bool) :=
  if (a2 != 0) = true then
    if (a2 == a1.native) = true then
      some true
    else
      (slices_Contains_int a1.tagged a2).bind fun r5 =>
      some r5
  else
    some false

def names_judge_static (a1 : Names_judge) (a2 : Int) (a3 : Api_Static) : Option (Bool) :=
  (names_place_Domain a1.n.domains a3.domain).bind fun r4 =>
  if (!r4) = true then
    some false
  else
    (names_place_Port a1.n.ports a3.port).bind fun r7 =>
    if (!r7) = true then
      some false
    else
      (nth a1.n.ports a3.port).bind fun x10 =>
      (nth a1.n.domains a3.domain).bind fun x12 =>
      if (x10.dev == x12.dev) = true then
        (names_Member x10 x12.vlan).bind fun r15 =>
        some r15
      else
        some false

def names_all_Static_judge_static_L1 (a1 : List Api_Static) (a2 : Names_judge) (v3 : Int) : Option ((Int) ⊕ (Unit ⊕ Unit)) :=
  if (decide (v3 < (a1.length : Int))) = true then
    (nth a1 v3).bind fun x5 =>
    (names_judge_static a2 v3 x5).bind fun r7 =>
    if (!r7) = true then
      some (Sum.inr (Sum.inl ()))
    else
      some (Sum.inl (wr_i64 (v3 + 1)))
  else
    some (Sum.inr (Sum.inr ()))

def names_all_Static_judge_static (a1 : List Api_Static) (a2 : Names_judge) : Option (Bool) :=
  (loopM (names_all_Static_judge_static_L1 a1 a2) 0).bind fun r11 => match r11 with
  | Sum.inl () =>
    some false
  | Sum.inr () =>
    some true

def names_Right_1 (a1 : Int) (a2 : Api_Flood) (a3 : Api_Net) : Option (Bool) :=
  (names_place_Device a3.devices a2.dev).bind fun r4 =>
  if (r4) = true then
    some (decide ((a2.addrs.length : Int) ≤ 16))
  else
    some false

def names_all_Flood_Right_1_L1 (a1 : List Api_Flood) (a2 : Api_Net) (v3 : Int) : Option ((Int) ⊕ (Unit ⊕ Unit)) :=
  if (decide (v3 < (a1.length : Int))) = true then
    (nth a1 v3).bind fun x5 =>
    (names_Right_1 v3 x5 a2).bind fun r7 =>
    if (!r7) = true then
      some (Sum.inr (Sum.inl ()))
    else
      some (Sum.inl (wr_i64 (v3 + 1)))
  else
    some (Sum.inr (Sum.inr ()))

def names_all_Flood_Right_1 (a1 : List Api_Flood) (a2 : Api_Net) : Option (Bool) :=
  (loopM (names_all_Flood_Right_1_L1 a1 a2) 0).bind fun r11 => match r11 with
  | Sum.inl () =>
    some false
  | Sum.inr () =>
    some true

def names_Right_2 (a1 : Int) (a2 : Api_Vrf) (a3 : Api_Net) : Option (Bool) :=
  (names_place_Device a3.devices a2.dev).bind fun r4 =>
  if (r4) = true then
    (names_rising a2.imports 65535).bind fun r7 =>
    if (r7) = true then
      (names_rising a2.exports 65535).bind fun r10 =>
      some r10
    else
      some false
  else
    some false

def names_all_Vrf_Right_2_L1 (a1 : List Api_Vrf) (a2 : Api_Net) (v3 : Int) : Option ((Int) ⊕ (Unit ⊕ Unit)) :=
  if (decide (v3 < (a1.length : Int))) = true then
    (nth a1 v3).bind fun x5 =>
    (names_Right_2 v3 x5 a2).bind fun r7 =>
    if (!r7) = true then
      some (Sum.inr (Sum.inl ()))
    else
      some (Sum.inl (wr_i64 (v3 + 1)))
  else
    some (Sum.inr (Sum.inr ()))

def names_all_Vrf_Right_2 (a1 : List Api_Vrf) (a2 : Api_Net) : Option (Bool) :=
  (loopM (names_all_Vrf_Right_2_L1 a1 a2) 0).bind fun r11 => match r11 with
  | Sum.inl () =>
    some false
  | Sum.inr () =>
    some true

def names_place_Vrf (a1 : List Api_Vrf) (a2 : Int) : Option (Bool) :=
  if (decide (a2 ≥ 0)) = true then
    some (decide (a2 < (a1.length : Int)))
  else
    some false

def names_judge_irb (a1 : Names_judge) (a2 : Int) (a3 : Api_Irb) : Option (Bool) :=
  (names_place_Domain a1.n.domains a3.domain).bind fun r4 =>
  if (r4) = true then
    (names_place_Vrf a1.n.vrfs a3.vrf).bind fun r7 =>
    if (r7) = true then
      (nth a1.n.domains a3.domain).bind fun x10 =>
      (nth a1.n.vrfs a3.vrf).bind fun x12 =>
      if (x10.dev == x12.dev) = true then
        (nth a1.n.domains a3.domain).bind fun x15 =>
        if (x15.irb == a2) = true then
          if (decide (a3.net.bits ≥ 1)) = true then
            some (decide (a3.net.bits ≤ 30))
          else
            some false
        else
          some false
      else
        some false
    else
      some false
  else
    some false

def names_all_Irb_judge_irb_L1 (a1 : List Api_Irb) (a2 : Names_judge) (v3 : Int) : Option ((Int) ⊕ (Unit ⊕ Unit)) :=
  if (decide (v3 < (a1.length : Int))) = true then
    (nth a1 v3).bind fun x5 =>
    (names_judge_irb a2 v3 x5).bind fun r7 =>
    if (!r7) = true then
      some (Sum.inr (Sum.inl ()))
    else
      some (Sum.inl (wr_i64 (v3 + 1)))
  else
    some (Sum.inr (Sum.inr ()))

def names_all_Irb_judge_irb (a1 : List Api_Irb) (a2 : Names_judge) : Option (Bool) :=
  (loopM (names_all_Irb_judge_irb_L1 a1 a2) 0).bind fun r11 => match r11 with
  | Sum.inl () =>
    some false
  | Sum.inr () =>
    some true

def names_Right (a1 : Api_Net) : Option (Bool) :=
  (names_judge_few (⟨a1⟩ : Names_judge)).bind fun r2 =>
  if (r2) = true then
    (names_all_Domain_judge_bare a1.domains (⟨a1⟩ : Names_judge)).bind fun r5 =>
    if (r5) = true then
      (names_all_Domain_judge_peers a1.domains (⟨a1⟩ : Names_judge)).bind fun r8 =>
      if (r8) = true then
        (names_all_Port_judge_port a1.ports (⟨a1⟩ : Names_judge)).bind fun r11 =>
        if (r11) = true then
          (names_all_Link_judge_link a1.links (⟨a1⟩ : Names_judge)).bind fun r14 =>
          if (r14) = true then
            (names_all_Static_judge_static a1.statics (⟨a1⟩ : Names_judge)).bind fun r17 =>
            if (r17) = true then
              (names_all_Flood_Right_1 a1.floods a1).bind fun r20 =>
              if (r20) = true then
                (names_all_Vrf_Right_2 a1.vrfs a1).bind fun r23 =>
                if (r23) = true then
                  (names_all_Irb_judge_irb a1.irbs (⟨a1⟩ : Names_judge)).bind fun r26 =>
                  some r26
                else
                  some false
              else
                some false
            else
              some false
          else
            some false
        else
          some false
      else
        some false
    else
      some false
  else
    some false

def names_Members_L1 (a1 : Api_Net) (a2 : Int) (l9 : List Int) (v10 : Int) : Option (((List Int) × Int) ⊕ ((List Int))) :=
  if (decide (v10 < (a1.ports.length : Int))) = true then
    (nth a1.ports v10).bind fun x12 =>
    (nth a1.domains a2).bind fun x14 =>
    if (x12.dev == x14.dev) = true then
      (nth a1.domains a2).bind fun x17 =>
      (names_Member x12 x17.vlan).bind fun r19 =>
      if (r19) = true then
        if (roomy 8 (l9 ++ [v10])) = true then
          some (Sum.inl (l9 ++ [v10], wr_i64 (v10 + 1)))
        else
          none
      else
        some (Sum.inl (l9, wr_i64 (v10 + 1)))
    else
      some (Sum.inl (l9, wr_i64 (v10 + 1)))
  else
    some (Sum.inr l9)

def names_Members (a1 : Api_Net) (a2 : Int) : Option (((List Int))) :=
  (names_Right a1).bind fun r3 =>
  if (!r3) = true then
    some []
  else
    (names_place_Domain a1.domains a2).bind fun r6 =>
    if (!r6) = true then
      some []
    else
      (loopM (fun s : (List Int) × Int => match s with | (l9, v10) => names_Members_L1 a1 a2 l9 v10) ([], 0)).bind fun r27 => match r27 with
      | l25 =>
        some l25

def lookup_open (a1 : Api_Net) (a2 : List Bool) (a3 : Int) (a4 : Int) : Option ((Unit) ⊕ ((List Int) × Bool)) :=
  if (decide (a3 < 0)) = true then
    some (Sum.inl ())
  else
    if (decide (a3 ≥ (a1.domains.length : Int))) = true then
      some (Sum.inl ())
    else
      if ((a2.length : Int) != (a1.links.length : Int)) = true then
        some (Sum.inl ())
      else
        (names_Right a1).bind fun r8 =>
        if (!r8) = true then
          some (Sum.inl ())
        else
          (names_Members a1 a3).bind fun r11 => match r11 with
          | l13 =>
            if (a4 == (-1)) = true then
              some (Sum.inr (l13, true))
            else
              if (a4 == (-2)) = true then
                some (Sum.inr (l13, true))
              else
                (slices_Contains_int l13 a4).bind fun r16 =>
                some (Sum.inr (l13, r16))

def mac_Group (a1 : Int) : Option (Bool) :=
  some ((bits_and .u64 a1 1099511627776) != 0)

def domains_entry_1 (a1 : Api_Static) (a2 : Int) (a3 : Int) : Option (Bool) :=
  if (a1.domain == a2) = true then
    some (a1.mac == a3)
  else
    some false

def slices_IndexFunc_Static_entry_1_L1 (a1 : List Api_Static) (a2 : Int) (a3 : Int) (v4 : Int) : Option ((Int) ⊕ (Int ⊕ Unit)) :=
  if (decide (v4 < (a1.length : Int))) = true then
    (nth a1 v4).bind fun x6 =>
    (domains_entry_1 x6 a2 a3).bind fun r8 =>
    if (r8) = true then
      some (Sum.inr (Sum.inl v4))
    else
      some (Sum.inl (wr_i64 (v4 + 1)))
  else
    some (Sum.inr (Sum.inr ()))

def slices_IndexFunc_Static_entry_1 (a1 : List Api_Static) (a2 : Int) (a3 : Int) : Option (Int) :=
  (loopM (slices_IndexFunc_Static_entry_1_L1 a1 a2 a3) 0).bind fun r14 => match r14 with
  | Sum.inl v12 =>
    some v12
  | Sum.inr () =>
    some (-1)

def domains_entry (a1 : Api_Net) (a2 : Int) (a3 : Int) : Option (Int) :=
  (slices_IndexFunc_Static_entry_1 a1.statics a2 a3).bind fun r4 =>
  some r4

def domains_Lookup (a1 : Api_Net) (a2 : Int) (a3 : Int) : Option (Int) :=
  (domains_entry a1 a2 a3).bind fun r4 =>
  if (decide (r4 < 0)) = true then
    some (-1)
  else
    (names_Right a1).bind fun r7 =>
    if (!r7) = true then
      some (-1)
    else
      (nth a1.statics r4).bind fun x10 =>
      some x10.port

def slices_Clone_int (a1 : List Int) : Option (List Int) :=
  if roomy 8 a1 = true then some a1 else none

def lookup_usable (a1 : Api_Net) (a2 : List Bool) (a3 : Int) : Option (Bool) :=
  (nth a1.ports a3).bind fun x4 =>
  if (decide (x4.link < 0)) = true then
    some true
  else
    (nth a2 x4.link).bind fun x7 =>
    some x7

def lookup_room_ports_1 (a1 : Int) (a2 : Lookup_room) : Option (Bool) :=
  if (a1 == a2.from_) = true then
    some true
  else
    (lookup_usable a2.n a2.forward a1).bind fun r4 =>
    some (!r4)

def slices_IndexFunc_int_room_ports_1_L1 (a1 : List Int) (a2 : Lookup_room) (v3 : Int) : Option ((Int) ⊕ (Int ⊕ Unit)) :=
  if (decide (v3 < (a1.length : Int))) = true then
    (nth a1 v3).bind fun x5 =>
    (lookup_room_ports_1 x5 a2).bind fun r7 =>
    if (r7) = true then
      some (Sum.inr (Sum.inl v3))
    else
      some (Sum.inl (wr_i64 (v3 + 1)))
  else
    some (Sum.inr (Sum.inr ()))

def slices_IndexFunc_int_room_ports_1 (a1 : List Int) (a2 : Lookup_room) : Option (Int) :=
  (loopM (slices_IndexFunc_int_room_ports_1_L1 a1 a2) 0).bind fun r13 => match r13 with
  | Sum.inl v11 =>
    some v11
  | Sum.inr () =>
    some (-1)

def slices_DeleteFunc_int_room_ports_1_own_L1 (a1 : List Int) (a2 : Lookup_room) (l6 : List Int) (v7 : Int) (v8 : Int) : Option (((List Int) × Int × Int) ⊕ (((List Int) × Int))) :=
  if (decide (v8 < ((List.length a1) : Int))) = true then
    if (lin l6 v8) = true then
      (l6[(Int.toNat v8)]?).bind fun x11 =>
      (lookup_room_ports_1 x11 a2).bind fun r13 =>
      if (!r13) = true then
        if (lin l6 v7) = true then
          (l6[(Int.toNat v7)]?).bind fun x17 =>
          some (Sum.inl (List.set l6 (Int.toNat v7) x11, wr_i64 (v7 + 1), wr_i64 (v8 + 1)))
        else
          none
      else
        some (Sum.inl (l6, v7, wr_i64 (v8 + 1)))
    else
      none
  else
    some (Sum.inr (l6, v7))

def slices_DeleteFunc_int_room_ports_1_own (a1 : List Int) (a2 : Lookup_room) : Option (((List Int) × (List Int))) :=
  (slices_IndexFunc_int_room_ports_1 a1 a2).bind fun r3 =>
  if (r3 == (-1)) = true then
    some (a1, a1)
  else
    (loopM (fun s : (List Int) × Int × Int => match s with | (l6, v7, v8) => slices_DeleteFunc_int_room_ports_1_own_L1 a1 a2 l6 v7 v8) (a1, r3, wr_i64 (r3 + 1))).bind fun r26 => match r26 with
    | (l23, v24) =>
      if (slok (List.length l23) v24 ((List.length l23) : Int)) = true then
        if (slok (List.length (List.take (Int.toNat v24) l23 ++ (List.replicate ((Int.toNat ((List.length l23) : Int)) - (Int.toNat v24)) (0 : Int) ++ List.drop (Int.toNat ((List.length l23) : Int)) l23))) 0 v24) = true then
          some (List.take (Int.toNat v24) l23 ++ (List.replicate ((Int.toNat ((List.length l23) : Int)) - (Int.toNat v24)) (0 : Int) ++ List.drop (Int.toNat ((List.length l23) : Int)) l23), List.drop (Int.toNat 0) (List.take (Int.toNat v24) (List.take (Int.toNat v24) l23 ++ (List.replicate ((Int.toNat ((List.length l23) : Int)) - (Int.toNat v24)) (0 : Int) ++ List.drop (Int.toNat ((List.length l23) : Int)) l23))))
        else
          none
      else
        none

def lookup_room_ports (a1 : Lookup_room) (a2 : List Int) : Option ((List Int)) :=
  (slices_Clone_int a2).bind fun r3 => match r3 with
  | l5 =>
    (slices_DeleteFunc_int_room_ports_1_own l5 a1).bind fun r6 => match r6 with
    | (l8, l9) =>
      some l9

def table_index_1 (a1 : Api_Entry) (a2 : Int) : Option (Bool) :=
  some (a1.mac == a2)

def slices_IndexFunc_Entry_index_1_L1 (a1 : List Api_Entry) (a2 : Int) (v3 : Int) : Option ((Int) ⊕ (Int ⊕ Unit)) :=
  if (decide (v3 < (a1.length : Int))) = true then
    (nth a1 v3).bind fun x5 =>
    (table_index_1 x5 a2).bind fun r7 =>
    if (r7) = true then
      some (Sum.inr (Sum.inl v3))
    else
      some (Sum.inl (wr_i64 (v3 + 1)))
  else
    some (Sum.inr (Sum.inr ()))

def slices_IndexFunc_Entry_index_1 (a1 : List Api_Entry) (a2 : Int) : Option (Int) :=
  (loopM (slices_IndexFunc_Entry_index_1_L1 a1 a2) 0).bind fun r13 => match r13 with
  | Sum.inl v11 =>
    some v11
  | Sum.inr () =>
    some (-1)

def table_index (a1 : List Api_Entry) (a2 : Int) : Option (Int) :=
  (slices_IndexFunc_Entry_index_1 a1 a2).bind fun r3 =>
  some r3

def table_Find (a1 : List Api_Entry) (a2 : Int) : Option (Int × Bool) :=
  (table_index a1 a2).bind fun r3 =>
  if (decide (r3 < 0)) = true then
    some (0, false)
  else
    (nth a1 r3).bind fun x6 =>
    some (x6.where_, true)

def lookup_room_known_J1 (a1 : Lookup_room) (r9 : Int × Bool) : Option (Bool) :=
  if (decide (r9.1 ≥ 0)) = true then
    (slices_Contains_int a1.members r9.1).bind fun r13 =>
    some r13
  else
    some false

def lookup_room_known_J2 (a1 : Lookup_room) (r9 : Int × Bool) : Option (Bool) :=
  if (decide (r9.1 < 0)) = true then
    (nth a1.n.domains a1.at_).bind fun x23 =>
    (slices_Contains_int x23.peers (wr_i64 ((-1) - r9.1))).bind fun r25 =>
    some r25
  else
    some false

def lookup_room_known (a1 : Lookup_room) (a2 : List Api_Entry) (a3 : Int) : Option (((List Int) × (List Int) × Bool)) :=
  (domains_Lookup a1.n a1.at_ a3).bind fun r4 =>
  if (decide (r4 ≥ 0)) = true then
    (lookup_room_ports a1 [r4]).bind fun r7 =>
    some (r7, [], true)
  else
    (table_Find a2 a3).bind fun r9 =>
    if (!r9.2) = true then
      some ([], [], false)
    else
      (lookup_room_known_J1 a1 r9).bind fun r18 => match r18 with
      | v16 =>
        if (v16) = true then
          (lookup_room_ports a1 [r9.1]).bind fun r20 =>
          some (r20, [], true)
        else
          (lookup_room_known_J2 a1 r9).bind fun r30 => match r30 with
          | v28 =>
            if (v28) = true then
              if (a1.from_ == (-1)) = true then
                some ([], [], true)
              else
                some ([], [(wr_i64 ((-1) - r9.1) : Int)], true)
            else
              some ([], [], false)

def lookup_room_peers (a1 : Lookup_room) : Option (((List Int))) :=
  if (a1.from_ == (-1)) = true then
    some []
  else
    (nth a1.n.domains a1.at_).bind fun x3 =>
    (slices_Clone_int x3.peers).bind fun r5 => match r5 with
    | l7 =>
      some l7

def lookup_Decide (a1 : Api_Net) (a2 : List Bool) (a3 : List Api_Entry) (a4 : Int) (a5 : Int) (a6 : Int) : Option (((List Int) × (List Int) × Int)) :=
  (lookup_open a1 a2 a4 a5).bind fun r11 => match r11 with
  | Sum.inl () =>
    some ([], [], 2)
  | Sum.inr (l13, v14) =>
    if (!v14) = true then
      some ([], [], 2)
    else
      (mac_Group a6).bind fun r16 =>
      if (!r16) = true then
        (lookup_room_known (⟨a1, a2, a4, a5, l13⟩ : Lookup_room) a3 a6).bind fun r19 => match r19 with
        | (l21, l22, v23) =>
          if (v23) = true then
            some (l21, l22, 0)
          else
            (lookup_room_ports (⟨a1, a2, a4, a5, l13⟩ : Lookup_room) l13).bind fun r25 =>
            (lookup_room_peers (⟨a1, a2, a4, a5, l13⟩ : Lookup_room)).bind fun r27 => match r27 with
            | l29 =>
              some (r25, l29, 0)
      else
        (lookup_room_ports (⟨a1, a2, a4, a5, l13⟩ : Lookup_room) l13).bind fun r30 =>
        (lookup_room_peers (⟨a1, a2, a4, a5, l13⟩ : Lookup_room)).bind fun r32 => match r32 with
        | l34 =>
          some (r30, l34, 0)

def lookup_Usable (a1 : Api_Net) (a2 : List Bool) (a3 : Int) : Option (Bool) :=
  if (decide (a3 ≥ 0)) = true then
    if (decide (a3 < (a1.ports.length : Int))) = true then
      if ((a2.length : Int) == (a1.links.length : Int)) = true then
        (names_Right a1).bind fun r7 =>
        if (r7) = true then
          (lookup_usable a1 a2 a3).bind fun r10 =>
          some r10
        else
          some false
      else
        some false
    else
      some false
  else
    some false

def palinglaw29_works : Option (Bool) :=
  (lookup_Decide (⟨[(⟨0, 0, (⟨#[97]⟩ : ByteArray), 0, 0⟩ : Api_Device)], [(⟨0, 0, 10, 0, (-1), (⟨#[112]⟩ : ByteArray), []⟩ : Api_Port), (⟨0, 0, 10, 0, (-1), (⟨#[113]⟩ : ByteArray), []⟩ : Api_Port), (⟨0, 0, 10, 0, (-1), (⟨#[114]⟩ : ByteArray), []⟩ : Api_Port)], [], [(⟨0, 10, 0, (-1), 0, []⟩ : Api_Domain)], [], [], [], []⟩ : Api_Net) [] [] 0 1 5).bind fun r1 => match r1 with
  | (l3, l4, v5) =>
    (lookup_Decide (⟨[(⟨0, 0, (⟨#[97]⟩ : ByteArray), 0, 0⟩ : Api_Device)], [(⟨0, 0, 10, 0, (-1), (⟨#[112]⟩ : ByteArray), []⟩ : Api_Port), (⟨0, 0, 10, 0, (-1), (⟨#[113]⟩ : ByteArray), []⟩ : Api_Port), (⟨0, 0, 10, 0, (-1), (⟨#[114]⟩ : ByteArray), []⟩ : Api_Port)], [], [(⟨0, 10, 0, (-1), 0, []⟩ : Api_Domain)], [], [], [], []⟩ : Api_Net) [] [(⟨5, 2, 0⟩ : Api_Entry)] 0 1 5).bind fun r6 => match r6 with
    | (l8, l9, v10) =>
      (lookup_Decide (⟨[(⟨0, 0, (⟨#[97]⟩ : ByteArray), 0, 0⟩ : Api_Device)], [(⟨0, 0, 10, 0, (-1), (⟨#[112]⟩ : ByteArray), []⟩ : Api_Port), (⟨0, 0, 10, 0, (-1), (⟨#[113]⟩ : ByteArray), []⟩ : Api_Port), (⟨0, 0, 10, 0, (-1), (⟨#[114]⟩ : ByteArray), []⟩ : Api_Port)], [], [(⟨0, 10, 0, (-1), 0, []⟩ : Api_Domain)], [], [], [], []⟩ : Api_Net) [] [] 0 3 5).bind fun r11 => match r11 with
      | (l13, l14, v15) =>
        if (v5 == 0) = true then
          if ((l3.length : Int) == 2) = true then
            (nth l3 0).bind fun x18 =>
            if (x18 == 0) = true then
              (nth l3 1).bind fun x21 =>
              if (x21 == 2) = true then
                if (v10 == 0) = true then
                  if ((l8.length : Int) == 1) = true then
                    (nth l8 0).bind fun x26 =>
                    if (x26 == 2) = true then
                      if (v15 == 2) = true then
                        (lookup_Usable (⟨[(⟨0, 0, (⟨#[97]⟩ : ByteArray), 0, 0⟩ : Api_Device)], [(⟨0, 0, 10, 0, (-1), (⟨#[112]⟩ : ByteArray), []⟩ : Api_Port), (⟨0, 0, 10, 0, (-1), (⟨#[113]⟩ : ByteArray), []⟩ : Api_Port), (⟨0, 0, 10, 0, (-1), (⟨#[114]⟩ : ByteArray), []⟩ : Api_Port)], [], [(⟨0, 10, 0, (-1), 0, []⟩ : Api_Domain)], [], [], [], []⟩ : Api_Net) [] 0).bind fun r30 =>
                        some r30
                      else
                        some false
                    else
                      some false
                  else
                    some false
                else
                  some false
              else
                some false
            else
              some false
          else
            some false
        else
          some false

def palinglaw15_Great_L1 (a1 : Api_Net) (v10 : Int) : Option ((Int) ⊕ (Unit ⊕ Unit)) :=
  if (decide (v10 < (a1.ports.length : Int))) = true then
    (nth a1.ports v10).bind fun x12 =>
    if (decide ((x12.tagged.length : Int) > 100)) = true then
      some (Sum.inr (Sum.inl ()))
    else
      some (Sum.inl (wr_i64 (v10 + 1)))
  else
    some (Sum.inr (Sum.inr ()))

def palinglaw15_Great_L2 (a1 : Api_Net) (v17 : Int) : Option ((Int) ⊕ (Unit ⊕ Unit)) :=
  if (decide (v17 < (a1.domains.length : Int))) = true then
    (nth a1.domains v17).bind fun x19 =>
    if (decide ((x19.peers.length : Int) > 100)) = true then
      some (Sum.inr (Sum.inl ()))
    else
      some (Sum.inl (wr_i64 (v17 + 1)))
  else
    some (Sum.inr (Sum.inr ()))

def palinglaw15_Great_L3 (a1 : Api_Net) (v24 : Int) : Option ((Int) ⊕ (Unit ⊕ Unit)) :=
  if (decide (v24 < (a1.floods.length : Int))) = true then
    (nth a1.floods v24).bind fun x26 =>
    if (decide ((x26.addrs.length : Int) > 100)) = true then
      some (Sum.inr (Sum.inl ()))
    else
      some (Sum.inl (wr_i64 (v24 + 1)))
  else
    some (Sum.inr (Sum.inr ()))

def palinglaw15_Great_L4 (a1 : Api_Net) (v31 : Int) : Option ((Int) ⊕ (Unit ⊕ Unit)) :=
  if (decide (v31 < (a1.vrfs.length : Int))) = true then
    (nth a1.vrfs v31).bind fun x33 =>
    if (decide ((x33.imports.length : Int) > 100)) = true then
      some (Sum.inr (Sum.inl ()))
    else
      (nth a1.vrfs v31).bind fun x36 =>
      if (decide ((x36.exports.length : Int) > 100)) = true then
        some (Sum.inr (Sum.inl ()))
      else
        some (Sum.inl (wr_i64 (v31 + 1)))
  else
    some (Sum.inr (Sum.inr ()))

def palinglaw15_Great (a1 : Api_Net) : Option (Bool) :=
  if (decide ((a1.devices.length : Int) > 200)) = true then
    some true
  else
    if (decide ((a1.ports.length : Int) > 200)) = true then
      some true
    else
      if (decide ((a1.links.length : Int) > 200)) = true then
        some true
      else
        if (decide ((a1.domains.length : Int) > 200)) = true then
          some true
        else
          if (decide ((a1.statics.length : Int) > 200)) = true then
            some true
          else
            if (decide ((a1.floods.length : Int) > 200)) = true then
              some true
            else
              if (decide ((a1.vrfs.length : Int) > 200)) = true then
                some true
              else
                if (decide ((a1.irbs.length : Int) > 200)) = true then
                  some true
                else
                  (loopM (palinglaw15_Great_L1 a1) 0).bind fun r16 => match r16 with
                  | Sum.inl () =>
                    some true
                  | Sum.inr () =>
                    (loopM (palinglaw15_Great_L2 a1) 0).bind fun r23 => match r23 with
                    | Sum.inl () =>
                      some true
                    | Sum.inr () =>
                      (loopM (palinglaw15_Great_L3 a1) 0).bind fun r30 => match r30 with
                      | Sum.inl () =>
                        some true
                      | Sum.inr () =>
                        (loopM (palinglaw15_Great_L4 a1) 0).bind fun r40 => match r40 with
                        | Sum.inl () =>
                          some true
                        | Sum.inr () =>
                          some false

def lookup_Flood (a1 : Api_Net) (a2 : List Bool) (a3 : Int) (a4 : Int) : Option (((List Int) × (List Int) × Int)) :=
  (lookup_open a1 a2 a3 a4).bind fun r9 => match r9 with
  | Sum.inl () =>
    some ([], [], 2)
  | Sum.inr (l11, v12) =>
    if (!v12) = true then
      some ([], [], 2)
    else
      (lookup_room_ports (⟨a1, a2, a3, a4, l11⟩ : Lookup_room) l11).bind fun r14 =>
      (lookup_room_peers (⟨a1, a2, a3, a4, l11⟩ : Lookup_room)).bind fun r16 => match r16 with
      | l18 =>
        some (r14, l18, 0)

def palinglaw29_has_L1 (a1 : List Int) (a2 : Int) (v3 : Int) : Option ((Int) ⊕ (Unit ⊕ Unit)) :=
  if (decide (v3 < (a1.length : Int))) = true then
    (nth a1 v3).bind fun x5 =>
    if (x5 == a2) = true then
      some (Sum.inr (Sum.inl ()))
    else
      some (Sum.inl (wr_i64 (v3 + 1)))
  else
    some (Sum.inr (Sum.inr ()))

def palinglaw29_has (a1 : List Int) (a2 : Int) : Option (Bool) :=
  (loopM (palinglaw29_has_L1 a1 a2) 0).bind fun r9 => match r9 with
  | Sum.inl () =>
    some true
  | Sum.inr () =>
    some false

def palinglaw29_LookupWithin_J1 (a1 : Api_Net) (a2 : List Bool) (a5 : Int) (l17 : List Int) (l18 : List Int) (v19 : Int) (l22 : List Int) (l23 : List Int) (v24 : Int) : Option (Unit ⊕ Unit) :=
  if (v19 != v24) = true then
    some (Sum.inl ())
  else
    if (v19 != 0) = true then
      if (decide ((wr_i64 ((wr_i64 ((wr_i64 ((l17.length : Int) + (l18.length : Int))) + (l22.length : Int))) + (l23.length : Int))) > 0)) = true then
        some (Sum.inl ())
      else
        some (Sum.inr ())
    else
      some (Sum.inr ())

def palinglaw29_LookupWithin_L2 (a1 : Api_Net) (a2 : List Bool) (a5 : Int) (l17 : List Int) (l18 : List Int) (l22 : List Int) (l23 : List Int) (v30 : Int) : Option ((Int) ⊕ (Unit ⊕ Unit)) :=
  if (decide (v30 < (l17.length : Int))) = true then
    (nth l17 v30).bind fun x32 =>
    if (x32 == a5) = true then
      some (Sum.inr (Sum.inl ()))
    else
      (palinglaw29_has l22 x32).bind fun r35 =>
      if (!r35) = true then
        some (Sum.inr (Sum.inl ()))
      else
        (lookup_Usable a1 a2 x32).bind fun r38 =>
        if (!r38) = true then
          some (Sum.inr (Sum.inl ()))
        else
          some (Sum.inl (wr_i64 (v30 + 1)))
  else
    some (Sum.inr (Sum.inr ()))

def palinglaw29_LookupWithin_L3 (a5 : Int) (l18 : List Int) (l23 : List Int) (v43 : Int) : Option ((Int) ⊕ (Unit ⊕ Unit)) :=
  if (decide (v43 < (l18.length : Int))) = true then
    (nth l18 v43).bind fun x45 =>
    (palinglaw29_has l23 x45).bind fun r47 =>
    if (!r47) = true then
      some (Sum.inr (Sum.inl ()))
    else
      some (Sum.inl (wr_i64 (v43 + 1)))
  else
    some (Sum.inr (Sum.inr ()))

def palinglaw29_LookupWithin (a1 : Api_Net) (a2 : List Bool) (a3 : List Api_Entry) (a4 : Int) (a5 : Int) (a6 : Int) : Option (Bool) :=
  (palinglaw29_works).bind fun r7 =>
  if (!r7) = true then
    some false
  else
    (palinglaw15_Great a1).bind fun r10 =>
    if (r10) = true then
      some true
    else
      if (decide ((a2.length : Int) > 200)) = true then
        some true
      else
        if (decide ((a3.length : Int) > 200)) = true then
          some true
        else
          (lookup_Decide a1 a2 a3 a4 a5 a6).bind fun r15 => match r15 with
          | (l17, l18, v19) =>
            (lookup_Flood a1 a2 a4 a5).bind fun r20 => match r20 with
            | (l22, l23, v24) =>
              (palinglaw29_LookupWithin_J1 a1 a2 a5 l17 l18 v19 l22 l23 v24).bind fun r29 => match r29 with
              | Sum.inl () =>
                some false
              | Sum.inr () =>
                (loopM (palinglaw29_LookupWithin_L2 a1 a2 a5 l17 l18 l22 l23) 0).bind fun r42 => match r42 with
                | Sum.inl () =>
                  some false
                | Sum.inr () =>
                  (loopM (palinglaw29_LookupWithin_L3 a5 l18 l23) 0).bind fun r51 => match r51 with
                  | Sum.inl () =>
                    some false
                  | Sum.inr () =>
                    if (a5 != (-1)) = true then
                      some true
                    else
                      some ((wr_i64 ((l18.length : Int) + (l23.length : Int))) == 0)

def names_Device_1 (a1 : Api_Device) (a2 : ByteArray) : Option (Bool) :=
  some (seqB a1.name a2)

def slices_IndexFunc_Device_Device_1_L1 (a1 : List Api_Device) (a2 : ByteArray) (v3 : Int) : Option ((Int) ⊕ (Int ⊕ Unit)) :=
  if (decide (v3 < (a1.length : Int))) = true then
    (nth a1 v3).bind fun x5 =>
    (names_Device_1 x5 a2).bind fun r7 =>
    if (r7) = true then
      some (Sum.inr (Sum.inl v3))
    else
      some (Sum.inl (wr_i64 (v3 + 1)))
  else
    some (Sum.inr (Sum.inr ()))

def slices_IndexFunc_Device_Device_1 (a1 : List Api_Device) (a2 : ByteArray) : Option (Int) :=
  (loopM (slices_IndexFunc_Device_Device_1_L1 a1 a2) 0).bind fun r13 => match r13 with
  | Sum.inl v11 =>
    some v11
  | Sum.inr () =>
    some (-1)

def names_find_Device_Device_1 (a1 : Api_Net) (a2 : List Api_Device) (a3 : ByteArray) : Option (Int) :=
  (names_Right a1).bind fun r4 =>
  if (!r4) = true then
    some (-1)
  else
    (slices_IndexFunc_Device_Device_1 a2 a3).bind fun r7 =>
    some r7

def names_Device (a1 : Api_Net) (a2 : ByteArray) : Option (Int) :=
  (names_find_Device_Device_1 a1 a1.devices a2).bind fun r3 =>
  some r3

def names_Port_1 (a1 : Api_Port) (a2 : Int) (a3 : ByteArray) : Option (Bool) :=
  if (a1.dev == a2) = true then
    some (seqB a1.name a3)
  else
    some false

def slices_IndexFunc_Port_Port_1_L1 (a1 : List Api_Port) (a2 : Int) (a3 : ByteArray) (v4 : Int) : Option ((Int) ⊕ (Int ⊕ Unit)) :=
  if (decide (v4 < (a1.length : Int))) = true then
    (nth a1 v4).bind fun x6 =>
    (names_Port_1 x6 a2 a3).bind fun r8 =>
    if (r8) = true then
      some (Sum.inr (Sum.inl v4))
    else
      some (Sum.inl (wr_i64 (v4 + 1)))
  else
    some (Sum.inr (Sum.inr ()))

def slices_IndexFunc_Port_Port_1 (a1 : List Api_Port) (a2 : Int) (a3 : ByteArray) : Option (Int) :=
  (loopM (slices_IndexFunc_Port_Port_1_L1 a1 a2 a3) 0).bind fun r14 => match r14 with
  | Sum.inl v12 =>
    some v12
  | Sum.inr () =>
    some (-1)

def names_find_Port_Port_1 (a1 : Api_Net) (a2 : List Api_Port) (a3 : Int) (a4 : ByteArray) : Option (Int) :=
  (names_Right a1).bind fun r5 =>
  if (!r5) = true then
    some (-1)
  else
    (slices_IndexFunc_Port_Port_1 a2 a3 a4).bind fun r8 =>
    some r8

def names_Port (a1 : Api_Net) (a2 : Int) (a3 : ByteArray) : Option (Int) :=
  (names_find_Port_Port_1 a1 a1.ports a2 a3).bind fun r4 =>
  some r4

def names_Domain_1 (a1 : Api_Domain) (a2 : Int) (a3 : Int) : Option (Bool) :=
  if (a1.dev == a2) = true then
    some (a1.vlan == a3)
  else
    some false

def slices_IndexFunc_Domain_Domain_1_L1 (a1 : List Api_Domain) (a2 : Int) (a3 : Int) (v4 : Int) : Option ((Int) ⊕ (Int ⊕ Unit)) :=
  if (decide (v4 < (a1.length : Int))) = true then
    (nth a1 v4).bind fun x6 =>
    (names_Domain_1 x6 a2 a3).bind fun r8 =>
    if (r8) = true then
      some (Sum.inr (Sum.inl v4))
    else
      some (Sum.inl (wr_i64 (v4 + 1)))
  else
    some (Sum.inr (Sum.inr ()))

def slices_IndexFunc_Domain_Domain_1 (a1 : List Api_Domain) (a2 : Int) (a3 : Int) : Option (Int) :=
  (loopM (slices_IndexFunc_Domain_Domain_1_L1 a1 a2 a3) 0).bind fun r14 => match r14 with
  | Sum.inl v12 =>
    some v12
  | Sum.inr () =>
    some (-1)

def names_find_Domain_Domain_1 (a1 : Api_Net) (a2 : List Api_Domain) (a3 : Int) (a4 : Int) : Option (Int) :=
  (names_Right a1).bind fun r5 =>
  if (!r5) = true then
    some (-1)
  else
    (slices_IndexFunc_Domain_Domain_1 a2 a3 a4).bind fun r8 =>
    some r8

def names_Domain (a1 : Api_Net) (a2 : Int) (a3 : Int) : Option (Int) :=
  (names_find_Domain_Domain_1 a1 a1.domains a2 a3).bind fun r4 =>
  some r4

def palinglaw15_works : Option (Bool) :=
  (names_Members (⟨[(⟨0, 0, (⟨#[97]⟩ : ByteArray), 0, 0⟩ : Api_Device)], [(⟨0, 0, 10, 0, (-1), (⟨#[112]⟩ : ByteArray), []⟩ : Api_Port)], [], [(⟨0, 10, 0, (-1), 0, []⟩ : Api_Domain)], [], [], [], []⟩ : Api_Net) 0).bind fun r1 => match r1 with
  | l3 =>
    (names_Right (⟨[(⟨0, 0, (⟨#[97]⟩ : ByteArray), 0, 0⟩ : Api_Device)], [(⟨0, 0, 10, 0, (-1), (⟨#[112]⟩ : ByteArray), []⟩ : Api_Port)], [], [(⟨0, 10, 0, (-1), 0, []⟩ : Api_Domain)], [], [], [], []⟩ : Api_Net)).bind fun r4 =>
    if (r4) = true then
      (names_Right (⟨[], [], [], [], [], [], [], []⟩ : Api_Net)).bind fun r7 =>
      if (r7) = true then
        (names_Device (⟨[(⟨0, 0, (⟨#[97]⟩ : ByteArray), 0, 0⟩ : Api_Device)], [(⟨0, 0, 10, 0, (-1), (⟨#[112]⟩ : ByteArray), []⟩ : Api_Port)], [], [(⟨0, 10, 0, (-1), 0, []⟩ : Api_Domain)], [], [], [], []⟩ : Api_Net) (⟨#[97]⟩ : ByteArray)).bind fun r10 =>
        if (r10 == 0) = true then
          (names_Port (⟨[(⟨0, 0, (⟨#[97]⟩ : ByteArray), 0, 0⟩ : Api_Device)], [(⟨0, 0, 10, 0, (-1), (⟨#[112]⟩ : ByteArray), []⟩ : Api_Port)], [], [(⟨0, 10, 0, (-1), 0, []⟩ : Api_Domain)], [], [], [], []⟩ : Api_Net) 0 (⟨#[112]⟩ : ByteArray)).bind fun r13 =>
          if (r13 == 0) = true then
            (names_Domain (⟨[(⟨0, 0, (⟨#[97]⟩ : ByteArray), 0, 0⟩ : Api_Device)], [(⟨0, 0, 10, 0, (-1), (⟨#[112]⟩ : ByteArray), []⟩ : Api_Port)], [], [(⟨0, 10, 0, (-1), 0, []⟩ : Api_Domain)], [], [], [], []⟩ : Api_Net) 0 10).bind fun r16 =>
            if (r16 == 0) = true then
              (names_Domain (⟨[(⟨0, 0, (⟨#[97]⟩ : ByteArray), 0, 0⟩ : Api_Device)], [(⟨0, 0, 10, 0, (-1), (⟨#[112]⟩ : ByteArray), []⟩ : Api_Port)], [], [(⟨0, 10, 0, (-1), 0, []⟩ : Api_Domain)], [], [], [], []⟩ : Api_Net) 0 11).bind fun r19 =>
              if (r19 == (-1)) = true then
                if (((List.length l3) : Int) == 1) = true then
                  if (lin l3 0) = true then
                    (l3[(Int.toNat 0)]?).bind fun x24 =>
                    some (x24 == 0)
                  else
                    none
                else
                  some false
              else
                some false
            else
              some false
          else
            some false
        else
          some false
      else
        some false
    else
      some false

def palinglaw15_NamesPorts_J2 (a1 : Api_Net) (v11 : Int) (x13 : Api_Port) : Option ((List Int)) :=
  if (x13.native != 0) = true then
    if (roomy 8 (x13.tagged ++ [x13.native])) = true then
      some (x13.tagged ++ [x13.native])
    else
      none
  else
    some x13.tagged

def palinglaw15_NamesPorts_L4 (a1 : Api_Net) (v11 : Int) (x13 : Api_Port) (l26 : List Int) (v29 : Int) (x32 : Int) (l38 : List Int) (v39 : Bool) (v40 : Int) : Option ((Bool × Int) ⊕ (Bool)) :=
  if (decide (v40 < ((List.length l38) : Int))) = true then
    if (lin l38 v40) = true then
      (l38[(Int.toNat v40)]?).bind fun x43 =>
      if (v39) = true then
        some (Sum.inl (true, wr_i64 (v40 + 1)))
      else
        some (Sum.inl (x43 == v11, wr_i64 (v40 + 1)))
    else
      none
  else
    some (Sum.inr v39)

def palinglaw15_NamesPorts_L3 (a1 : Api_Net) (v11 : Int) (x13 : Api_Port) (l26 : List Int) (v29 : Int) : Option ((Int) ⊕ (Unit ⊕ Unit)) :=
  if (decide (v29 < ((List.length l26) : Int))) = true then
    if (lin l26 v29) = true then
      (l26[(Int.toNat v29)]?).bind fun x32 =>
      (names_Domain a1 x13.dev x32).bind fun r34 =>
      (names_Members a1 r34).bind fun r36 => match r36 with
      | l38 =>
        (loopM (fun s : Bool × Int => match s with | (v39, v40) => palinglaw15_NamesPorts_L4 a1 v11 x13 l26 v29 x32 l38 v39 v40) (false, 0)).bind fun r49 => match r49 with
        | v47 =>
          if (!v47) = true then
            some (Sum.inr (Sum.inl ()))
          else
            (names_Member x13 x32).bind fun r51 =>
            if (!r51) = true then
              some (Sum.inr (Sum.inl ()))
            else
              some (Sum.inl (wr_i64 (v29 + 1)))
    else
      none
  else
    some (Sum.inr (Sum.inr ()))

def palinglaw15_NamesPorts_L1 (a1 : Api_Net) (v11 : Int) : Option ((Int) ⊕ (Unit ⊕ Unit)) :=
  if (decide (v11 < (a1.ports.length : Int))) = true then
    (nth a1.ports v11).bind fun x13 =>
    if (roomy 8 x13.tagged) = true then
      (palinglaw15_NamesPorts_J2 a1 v11 x13).bind fun r28 => match r28 with
      | l26 =>
        (loopM (palinglaw15_NamesPorts_L3 a1 v11 x13 l26) 0).bind fun r55 => match r55 with
        | Sum.inl () =>
          some (Sum.inr (Sum.inl ()))
        | Sum.inr () =>
          some (Sum.inl (wr_i64 (v11 + 1)))
    else
      none
  else
    some (Sum.inr (Sum.inr ()))

def palinglaw15_NamesPorts_L5 (a1 : Api_Net) (v58 : Int) : Option ((Int) ⊕ (Unit ⊕ Unit)) :=
  if (decide (v58 < (a1.links.length : Int))) = true then
    (nth a1.links v58).bind fun x60 =>
    if (decide (x60.a < 0)) = true then
      some (Sum.inr (Sum.inl ()))
    else
      if (decide (x60.b < 0)) = true then
        some (Sum.inr (Sum.inl ()))
      else
        if (decide (x60.a ≥ (a1.ports.length : Int))) = true then
          some (Sum.inr (Sum.inl ()))
        else
          if (decide (x60.b ≥ (a1.ports.length : Int))) = true then
            some (Sum.inr (Sum.inl ()))
          else
            (nth a1.ports x60.a).bind fun x66 =>
            if (x66.link != v58) = true then
              some (Sum.inr (Sum.inl ()))
            else
              (nth a1.ports x60.b).bind fun x69 =>
              if (x69.link != v58) = true then
                some (Sum.inr (Sum.inl ()))
              else
                (nth a1.ports x60.a).bind fun x72 =>
                (nth a1.ports x60.b).bind fun x74 =>
                if (x72.dev == x74.dev) = true then
                  some (Sum.inr (Sum.inl ()))
                else
                  some (Sum.inl (wr_i64 (v58 + 1)))
  else
    some (Sum.inr (Sum.inr ()))

def palinglaw15_NamesPorts (a1 : Api_Net) : Option (Bool) :=
  (palinglaw15_works).bind fun r2 =>
  if (!r2) = true then
    some false
  else
    (palinglaw15_Great a1).bind fun r5 =>
    if (r5) = true then
      some true
    else
      (names_Right a1).bind fun r8 =>
      if (!r8) = true then
        some true
      else
        (loopM (palinglaw15_NamesPorts_L1 a1) 0).bind fun r57 => match r57 with
        | Sum.inl () =>
          some false
        | Sum.inr () =>
          (loopM (palinglaw15_NamesPorts_L5 a1) 0).bind fun r78 => match r78 with
          | Sum.inl () =>
            some false
          | Sum.inr () =>
            some true

def links_Other (a1 : Api_Net) (a2 : Int) : Option (Int) :=
  if (decide (a2 < 0)) = true then
    some (-1)
  else
    if (decide (a2 ≥ (a1.ports.length : Int))) = true then
      some (-1)
    else
      (nth a1.ports a2).bind fun x5 =>
      if (decide (x5.link < 0)) = true then
        some (-1)
      else
        (names_Right a1).bind fun r8 =>
        if (!r8) = true then
          some (-1)
        else
          (nth a1.ports a2).bind fun x11 =>
          (nth a1.links x11.link).bind fun x13 =>
          if (x13.a == a2) = true then
            some x13.b
          else
            some x13.a

def links_Cross (a1 : Api_Net) (a2 : Int) (a3 : Int) : Option (Int × Int × Bool) :=
  (links_Other a1 a2).bind fun r4 =>
  if (decide (r4 < 0)) = true then
    some (0, 0, false)
  else
    (nth a1.ports a2).bind fun x7 =>
    (names_Member x7 a3).bind fun r9 =>
    if (!r9) = true then
      some (0, 0, false)
    else
      (nth a1.ports r4).bind fun x12 =>
      (nth a1.ports a2).bind fun x14 =>
      if (a3 == x14.native) = true then
        if (x12.native == 0) = true then
          some (0, 0, false)
        else
          some (r4, x12.native, true)
      else
        (slices_Contains_int x12.tagged a3).bind fun r18 =>
        if (r18) = true then
          if (a3 == 0) = true then
            some (0, 0, false)
          else
            some (r4, a3, true)
        else
          if (0 == 0) = true then
            some (0, 0, false)
          else
            some (r4, 0, true)

def links_Domain (a1 : Api_Net) (a2 : Int) (a3 : Int) : Option (Int × Bool) :=
  (links_Cross a1 a2 a3).bind fun r4 =>
  if (!r4.2.2) = true then
    some (0, false)
  else
    (nth a1.ports r4.1).bind fun x7 =>
    (names_Domain a1 x7.dev r4.2.1).bind fun r9 =>
    some (r9, true)

def palinglaw17_works : Option (Bool) :=
  (links_Cross (⟨[(⟨0, 0, (⟨#[97]⟩ : ByteArray), 0, 0⟩ : Api_Device), (⟨0, 0, (⟨#[98]⟩ : ByteArray), 0, 0⟩ : Api_Device)], [(⟨0, 0, 10, 0, 0, (⟨#[112]⟩ : ByteArray), [(20 : Int)]⟩ : Api_Port), (⟨0, 1, 30, 0, 0, (⟨#[112]⟩ : ByteArray), [(20 : Int)]⟩ : Api_Port)], [(⟨0, 0, 1⟩ : Api_Link)], [(⟨0, 10, 0, (-1), 0, []⟩ : Api_Domain), (⟨0, 20, 0, (-1), 0, []⟩ : Api_Domain), (⟨1, 30, 0, (-1), 0, []⟩ : Api_Domain), (⟨1, 20, 0, (-1), 0, []⟩ : Api_Domain)], [], [], [], []⟩ : Api_Net) 0 10).bind fun r1 =>
  (links_Cross (⟨[(⟨0, 0, (⟨#[97]⟩ : ByteArray), 0, 0⟩ : Api_Device), (⟨0, 0, (⟨#[98]⟩ : ByteArray), 0, 0⟩ : Api_Device)], [(⟨0, 0, 10, 0, 0, (⟨#[112]⟩ : ByteArray), [(20 : Int)]⟩ : Api_Port), (⟨0, 1, 30, 0, 0, (⟨#[112]⟩ : ByteArray), [(20 : Int)]⟩ : Api_Port)], [(⟨0, 0, 1⟩ : Api_Link)], [(⟨0, 10, 0, (-1), 0, []⟩ : Api_Domain), (⟨0, 20, 0, (-1), 0, []⟩ : Api_Domain), (⟨1, 30, 0, (-1), 0, []⟩ : Api_Domain), (⟨1, 20, 0, (-1), 0, []⟩ : Api_Domain)], [], [], [], []⟩ : Api_Net) 1 20).bind fun r3 =>
  (links_Domain (⟨[(⟨0, 0, (⟨#[97]⟩ : ByteArray), 0, 0⟩ : Api_Device), (⟨0, 0, (⟨#[98]⟩ : ByteArray), 0, 0⟩ : Api_Device)], [(⟨0, 0, 10, 0, 0, (⟨#[112]⟩ : ByteArray), [(20 : Int)]⟩ : Api_Port), (⟨0, 1, 30, 0, 0, (⟨#[112]⟩ : ByteArray), [(20 : Int)]⟩ : Api_Port)], [(⟨0, 0, 1⟩ : Api_Link)], [(⟨0, 10, 0, (-1), 0, []⟩ : Api_Domain), (⟨0, 20, 0, (-1), 0, []⟩ : Api_Domain), (⟨1, 30, 0, (-1), 0, []⟩ : Api_Domain), (⟨1, 20, 0, (-1), 0, []⟩ : Api_Domain)], [], [], [], []⟩ : Api_Net) 0 10).bind fun r5 =>
  (links_Cross (⟨[(⟨0, 0, (⟨#[97]⟩ : ByteArray), 0, 0⟩ : Api_Device), (⟨0, 0, (⟨#[98]⟩ : ByteArray), 0, 0⟩ : Api_Device)], [(⟨0, 0, 10, 0, 0, (⟨#[112]⟩ : ByteArray), [(20 : Int)]⟩ : Api_Port), (⟨0, 1, 30, 0, 0, (⟨#[112]⟩ : ByteArray), [(20 : Int)]⟩ : Api_Port)], [(⟨0, 0, 1⟩ : Api_Link)], [(⟨0, 10, 0, (-1), 0, []⟩ : Api_Domain), (⟨0, 20, 0, (-1), 0, []⟩ : Api_Domain), (⟨1, 30, 0, (-1), 0, []⟩ : Api_Domain), (⟨1, 20, 0, (-1), 0, []⟩ : Api_Domain)], [], [], [], []⟩ : Api_Net) 0 30).bind fun r7 =>
  if (r1.2.2) = true then
    if (r1.1 == 1) = true then
      if (r1.2.1 == 30) = true then
        if (r3.2.2) = true then
          if (r3.2.1 == 20) = true then
            if (r5.2) = true then
              if (r5.1 == 2) = true then
                if (!r7.2.2) = true then
                  (links_Other (⟨[(⟨0, 0, (⟨#[97]⟩ : ByteArray), 0, 0⟩ : Api_Device), (⟨0, 0, (⟨#[98]⟩ : ByteArray), 0, 0⟩ : Api_Device)], [(⟨0, 0, 10, 0, 0, (⟨#[112]⟩ : ByteArray), [(20 : Int)]⟩ : Api_Port), (⟨0, 1, 30, 0, 0, (⟨#[112]⟩ : ByteArray), [(20 : Int)]⟩ : Api_Port)], [(⟨0, 0, 1⟩ : Api_Link)], [(⟨0, 10, 0, (-1), 0, []⟩ : Api_Domain), (⟨0, 20, 0, (-1), 0, []⟩ : Api_Domain), (⟨1, 30, 0, (-1), 0, []⟩ : Api_Domain), (⟨1, 20, 0, (-1), 0, []⟩ : Api_Domain)], [], [], [], []⟩ : Api_Net) 1).bind fun r17 =>
                  some (r17 == 0)
                else
                  some false
              else
                some false
            else
              some false
          else
            some false
        else
          some false
      else
        some false
    else
      some false
  else
    some false

def palingref15_Place (a1 : Int) (a2 : Int) : Option (Bool) :=
  if (decide (a1 ≥ 0)) = true then
    some (decide (a1 < a2))
  else
    some false

def palingref15_At_L1 (a1 : Api_Net) (a2 : Int) (a3 : Int) (v4 : Int) : Option ((Int) ⊕ (Int ⊕ Unit)) :=
  if (decide (v4 < (a1.domains.length : Int))) = true then
    (nth a1.domains v4).bind fun x6 =>
    if (x6.dev == a2) = true then
      (nth a1.domains v4).bind fun x9 =>
      if (x9.vlan == a3) = true then
        some (Sum.inr (Sum.inl v4))
      else
        some (Sum.inl (wr_i64 (v4 + 1)))
    else
      some (Sum.inl (wr_i64 (v4 + 1)))
  else
    some (Sum.inr (Sum.inr ()))

def palingref15_At (a1 : Api_Net) (a2 : Int) (a3 : Int) : Option (Int) :=
  (loopM (palingref15_At_L1 a1 a2 a3) 0).bind fun r15 => match r15 with
  | Sum.inl v13 =>
    some v13
  | Sum.inr () =>
    some (-1)

def palingref15_In_L1 (a1 : List Int) (a2 : Int) (v3 : Int) : Option ((Int) ⊕ (Unit ⊕ Unit)) :=
  if (decide (v3 < (a1.length : Int))) = true then
    (nth a1 v3).bind fun x5 =>
    if (x5 == a2) = true then
      some (Sum.inr (Sum.inl ()))
    else
      some (Sum.inl (wr_i64 (v3 + 1)))
  else
    some (Sum.inr (Sum.inr ()))

def palingref15_In (a1 : List Int) (a2 : Int) : Option (Bool) :=
  (loopM (palingref15_In_L1 a1 a2) 0).bind fun r9 => match r9 with
  | Sum.inl () =>
    some true
  | Sum.inr () =>
    some false

def palingref15_peer (a1 : Api_Net) (a2 : Int) (a3 : Int) : Option (Bool) :=
  (palingref15_Place a3 (a1.domains.length : Int)).bind fun r4 =>
  if (!r4) = true then
    some false
  else
    if (a3 == a2) = true then
      some false
    else
      (nth a1.domains a2).bind fun x8 =>
      (nth a1.domains a3).bind fun x10 =>
      if (x8.dev != x10.dev) = true then
        if (x8.vni == x10.vni) = true then
          if (x8.vni != 0) = true then
            (nth a1.devices x8.dev).bind fun x15 =>
            if (x15.vtep != 0) = true then
              (nth a1.devices x10.dev).bind fun x18 =>
              if (x18.vtep != 0) = true then
                (palingref15_In x10.peers a2).bind fun r21 =>
                some r21
              else
                some false
            else
              some false
          else
            some false
        else
          some false
      else
        some false

def palingref15_domains_L1 (a1 : Api_Net) (v2 : Int) : Option ((Int) ⊕ (Unit ⊕ Unit)) :=
  if (decide (v2 < (a1.domains.length : Int))) = true then
    (nth a1.domains v2).bind fun x4 =>
    (palingref15_Place x4.dev (a1.devices.length : Int)).bind fun r6 =>
    if (!r6) = true then
      some (Sum.inr (Sum.inl ()))
    else
      if (decide (x4.vlan < 1)) = true then
        some (Sum.inr (Sum.inl ()))
      else
        if (decide (x4.vlan > 4094)) = true then
          some (Sum.inr (Sum.inl ()))
        else
          if (decide (x4.vni < 0)) = true then
            some (Sum.inr (Sum.inl ()))
          else
            if (decide (x4.vni ≥ 16777216)) = true then
              some (Sum.inr (Sum.inl ()))
            else
              (palingref15_At a1 x4.dev x4.vlan).bind fun r13 =>
              if (r13 != v2) = true then
                some (Sum.inr (Sum.inl ()))
              else
                if (x4.irb != (-1)) = true then
                  (palingref15_Place x4.irb (a1.irbs.length : Int)).bind fun r17 =>
                  if (!r17) = true then
                    some (Sum.inr (Sum.inl ()))
                  else
                    (nth a1.irbs x4.irb).bind fun x20 =>
                    if (x20.domain != v2) = true then
                      some (Sum.inr (Sum.inl ()))
                    else
                      some (Sum.inl (wr_i64 (v2 + 1)))
                else
                  some (Sum.inl (wr_i64 (v2 + 1)))
  else
    some (Sum.inr (Sum.inr ()))

def palingref15_domains_L3 (a1 : Api_Net) (v25 : Int) (x27 : Api_Domain) (v29 : Int) : Option ((Int) ⊕ (Unit ⊕ Unit)) :=
  if (decide (v29 < (x27.peers.length : Int))) = true then
    (nth x27.peers v29).bind fun x31 =>
    (palingref15_peer a1 v25 x31).bind fun r33 =>
    if (!r33) = true then
      some (Sum.inr (Sum.inl ()))
    else
      if (slok (List.length x27.peers) 0 v29) = true then
        (nth x27.peers v29).bind fun x37 =>
        (palingref15_In (List.drop (Int.toNat 0) (List.take (Int.toNat v29) x27.peers)) x37).bind fun r39 =>
        if (r39) = true then
          some (Sum.inr (Sum.inl ()))
        else
          some (Sum.inl (wr_i64 (v29 + 1)))
      else
        none
  else
    some (Sum.inr (Sum.inr ()))

def palingref15_domains_L2 (a1 : Api_Net) (v25 : Int) : Option ((Int) ⊕ (Unit ⊕ Unit)) :=
  if (decide (v25 < (a1.domains.length : Int))) = true then
    (nth a1.domains v25).bind fun x27 =>
    (loopM (palingref15_domains_L3 a1 v25 x27) 0).bind fun r43 => match r43 with
    | Sum.inl () =>
      some (Sum.inr (Sum.inl ()))
    | Sum.inr () =>
      some (Sum.inl (wr_i64 (v25 + 1)))
  else
    some (Sum.inr (Sum.inr ()))

def palingref15_domains (a1 : Api_Net) : Option (Bool) :=
  (loopM (palingref15_domains_L1 a1) 0).bind fun r24 => match r24 with
  | Sum.inl () =>
    some false
  | Sum.inr () =>
    (loopM (palingref15_domains_L2 a1) 0).bind fun r45 => match r45 with
    | Sum.inl () =>
      some false
    | Sum.inr () =>
      some true

def palingref03_Rising_L1 (a1 : List Int) (a2 : Int) (a3 : Int) (v6 : Int) : Option ((Int) ⊕ (Unit ⊕ Unit)) :=
  if (decide (v6 < (a1.length : Int))) = true then
    (nth a1 v6).bind fun x8 =>
    if (decide (x8 < a2)) = true then
      some (Sum.inr (Sum.inl ()))
    else
      (nth a1 v6).bind fun x11 =>
      if (decide (x11 > a3)) = true then
        some (Sum.inr (Sum.inl ()))
      else
        if (decide (v6 > 0)) = true then
          (nth a1 v6).bind fun x15 =>
          (nth a1 (wr_i64 (v6 - 1))).bind fun x17 =>
          if (decide (x15 ≤ x17)) = true then
            some (Sum.inr (Sum.inl ()))
          else
            some (Sum.inl (wr_i64 (v6 + 1)))
        else
          some (Sum.inl (wr_i64 (v6 + 1)))
  else
    some (Sum.inr (Sum.inr ()))

def palingref03_Rising (a1 : List Int) (a2 : Int) (a3 : Int) : Option (Bool) :=
  if (decide ((a1.length : Int) < 1)) = true then
    some false
  else
    if (decide ((a1.length : Int) > 16)) = true then
      some false
    else
      (loopM (palingref03_Rising_L1 a1 a2 a3) 0).bind fun r21 => match r21 with
      | Sum.inl () =>
        some false
      | Sum.inr () =>
        some true

def palingref15_rising (a1 : List Int) (a2 : Int) : Option (Bool) :=
  if ((a1.length : Int) == 0) = true then
    some true
  else
    (palingref03_Rising a1 1 a2).bind fun r4 =>
    some r4

def palingref15_ports_J2 (a1 : Api_Net) (v2 : Int) (x4 : Api_Port) : Option (Unit ⊕ Unit) :=
  if (x4.native == 0) = true then
    if ((x4.tagged.length : Int) == 0) = true then
      some (Sum.inl ())
    else
      if (decide (x4.native > 0)) = true then
        (palingref15_At a1 x4.dev x4.native).bind fun r20 =>
        if (decide (r20 < 0)) = true then
          some (Sum.inl ())
        else
          some (Sum.inr ())
      else
        some (Sum.inr ())
  else
    if (decide (x4.native > 0)) = true then
      (palingref15_At a1 x4.dev x4.native).bind fun r24 =>
      if (decide (r24 < 0)) = true then
        some (Sum.inl ())
      else
        some (Sum.inr ())
    else
      some (Sum.inr ())

def palingref15_ports_L3 (a1 : Api_Net) (v2 : Int) (x4 : Api_Port) (v29 : Int) : Option ((Int) ⊕ (Unit ⊕ Unit)) :=
  if (decide (v29 < (x4.tagged.length : Int))) = true then
    (nth x4.tagged v29).bind fun x31 =>
    (palingref15_At a1 x4.dev x31).bind fun r33 =>
    if (decide (r33 < 0)) = true then
      some (Sum.inr (Sum.inl ()))
    else
      some (Sum.inl (wr_i64 (v29 + 1)))
  else
    some (Sum.inr (Sum.inr ()))

def palingref15_ports_L1 (a1 : Api_Net) (v2 : Int) : Option ((Int) ⊕ (Unit ⊕ Unit)) :=
  if (decide (v2 < (a1.ports.length : Int))) = true then
    (nth a1.ports v2).bind fun x4 =>
    (palingref15_Place x4.dev (a1.devices.length : Int)).bind fun r6 =>
    if (!r6) = true then
      some (Sum.inr (Sum.inl ()))
    else
      if (decide (x4.native < 0)) = true then
        some (Sum.inr (Sum.inl ()))
      else
        if (decide (x4.native > 4094)) = true then
          some (Sum.inr (Sum.inl ()))
        else
          (palingref15_rising x4.tagged 4094).bind fun r11 =>
          if (!r11) = true then
            some (Sum.inr (Sum.inl ()))
          else
            (palingref15_In x4.tagged x4.native).bind fun r14 =>
            if (r14) = true then
              some (Sum.inr (Sum.inl ()))
            else
              (palingref15_ports_J2 a1 v2 x4).bind fun r28 => match r28 with
              | Sum.inl () =>
                some (Sum.inr (Sum.inl ()))
              | Sum.inr () =>
                (loopM (palingref15_ports_L3 a1 v2 x4) 0).bind fun r37 => match r37 with
                | Sum.inl () =>
                  some (Sum.inr (Sum.inl ()))
                | Sum.inr () =>
                  if (x4.link == (-1)) = true then
                    some (Sum.inl (wr_i64 (v2 + 1)))
                  else
                    (palingref15_Place x4.link (a1.links.length : Int)).bind fun r39 =>
                    if (!r39) = true then
                      some (Sum.inr (Sum.inl ()))
                    else
                      (nth a1.links x4.link).bind fun x42 =>
                      if (x42.a != v2) = true then
                        (nth a1.links x4.link).bind fun x45 =>
                        if (x45.b != v2) = true then
                          some (Sum.inr (Sum.inl ()))
                        else
                          some (Sum.inl (wr_i64 (v2 + 1)))
                      else
                        some (Sum.inl (wr_i64 (v2 + 1)))
  else
    some (Sum.inr (Sum.inr ()))

def palingref15_ports (a1 : Api_Net) : Option (Bool) :=
  (loopM (palingref15_ports_L1 a1) 0).bind fun r49 => match r49 with
  | Sum.inl () =>
    some false
  | Sum.inr () =>
    some true

def palingref15_links_L1 (a1 : Api_Net) (v2 : Int) : Option ((Int) ⊕ (Unit ⊕ Unit)) :=
  if (decide (v2 < (a1.links.length : Int))) = true then
    (nth a1.links v2).bind fun x4 =>
    (palingref15_Place x4.a (a1.ports.length : Int)).bind fun r6 =>
    if (!r6) = true then
      some (Sum.inr (Sum.inl ()))
    else
      (palingref15_Place x4.b (a1.ports.length : Int)).bind fun r9 =>
      if (!r9) = true then
        some (Sum.inr (Sum.inl ()))
      else
        (nth a1.ports x4.a).bind fun x12 =>
        (nth a1.ports x4.b).bind fun x14 =>
        if (x12.dev == x14.dev) = true then
          some (Sum.inr (Sum.inl ()))
        else
          (nth a1.ports x4.a).bind fun x17 =>
          if (x17.link != v2) = true then
            some (Sum.inr (Sum.inl ()))
          else
            (nth a1.ports x4.b).bind fun x20 =>
            if (x20.link != v2) = true then
              some (Sum.inr (Sum.inl ()))
            else
              some (Sum.inl (wr_i64 (v2 + 1)))
  else
    some (Sum.inr (Sum.inr ()))

def palingref15_links (a1 : Api_Net) : Option (Bool) :=
  (loopM (palingref15_links_L1 a1) 0).bind fun r24 => match r24 with
  | Sum.inl () =>
    some false
  | Sum.inr () =>
    some true

def palingref15_Member (a1 : Api_Port) (a2 : Int) : Option (Bool) :=
  if (a2 != 0) = true then
    if (a1.native == a2) = true then
      some true
    else
      (palingref15_In a1.tagged a2).bind fun r5 =>
      some r5
  else
    some false

def palingref15_rest_L1 (a1 : Api_Net) (v2 : Int) : Option ((Int) ⊕ (Unit ⊕ Unit)) :=
  if (decide (v2 < (a1.statics.length : Int))) = true then
    (nth a1.statics v2).bind fun x4 =>
    (palingref15_Place x4.domain (a1.domains.length : Int)).bind fun r6 =>
    if (!r6) = true then
      some (Sum.inr (Sum.inl ()))
    else
      (palingref15_Place x4.port (a1.ports.length : Int)).bind fun r9 =>
      if (!r9) = true then
        some (Sum.inr (Sum.inl ()))
      else
        (nth a1.domains x4.domain).bind fun x12 =>
        (nth a1.ports x4.port).bind fun x14 =>
        if (x14.dev != x12.dev) = true then
          some (Sum.inr (Sum.inl ()))
        else
          (nth a1.ports x4.port).bind fun x17 =>
          (palingref15_Member x17 x12.vlan).bind fun r19 =>
          if (!r19) = true then
            some (Sum.inr (Sum.inl ()))
          else
            some (Sum.inl (wr_i64 (v2 + 1)))
  else
    some (Sum.inr (Sum.inr ()))

def palingref15_rest_L2 (a1 : Api_Net) (v24 : Int) : Option ((Int) ⊕ (Unit ⊕ Unit)) :=
  if (decide (v24 < (a1.floods.length : Int))) = true then
    (nth a1.floods v24).bind fun x26 =>
    (palingref15_Place x26.dev (a1.devices.length : Int)).bind fun r28 =>
    if (!r28) = true then
      some (Sum.inr (Sum.inl ()))
    else
      (nth a1.floods v24).bind fun x31 =>
      if (decide ((x31.addrs.length : Int) > 16)) = true then
        some (Sum.inr (Sum.inl ()))
      else
        some (Sum.inl (wr_i64 (v24 + 1)))
  else
    some (Sum.inr (Sum.inr ()))

def palingref15_rest_L3 (a1 : Api_Net) (v36 : Int) : Option ((Int) ⊕ (Unit ⊕ Unit)) :=
  if (decide (v36 < (a1.vrfs.length : Int))) = true then
    (nth a1.vrfs v36).bind fun x38 =>
    (palingref15_Place x38.dev (a1.devices.length : Int)).bind fun r40 =>
    if (!r40) = true then
      some (Sum.inr (Sum.inl ()))
    else
      (palingref15_rising x38.imports 65535).bind fun r43 =>
      if (!r43) = true then
        some (Sum.inr (Sum.inl ()))
      else
        (palingref15_rising x38.exports 65535).bind fun r46 =>
        if (!r46) = true then
          some (Sum.inr (Sum.inl ()))
        else
          some (Sum.inl (wr_i64 (v36 + 1)))
  else
    some (Sum.inr (Sum.inr ()))

def palingref15_rest_L4 (a1 : Api_Net) (v51 : Int) : Option ((Int) ⊕ (Unit ⊕ Unit)) :=
  if (decide (v51 < (a1.irbs.length : Int))) = true then
    (nth a1.irbs v51).bind fun x53 =>
    (palingref15_Place x53.domain (a1.domains.length : Int)).bind fun r55 =>
    if (!r55) = true then
      some (Sum.inr (Sum.inl ()))
    else
      (palingref15_Place x53.vrf (a1.vrfs.length : Int)).bind fun r58 =>
      if (!r58) = true then
        some (Sum.inr (Sum.inl ()))
      else
        if (decide (x53.net.bits < 1)) = true then
          some (Sum.inr (Sum.inl ()))
        else
          if (decide (x53.net.bits > 30)) = true then
            some (Sum.inr (Sum.inl ()))
          else
            (nth a1.domains x53.domain).bind fun x63 =>
            (nth a1.vrfs x53.vrf).bind fun x65 =>
            if (x63.dev != x65.dev) = true then
              some (Sum.inr (Sum.inl ()))
            else
              (nth a1.domains x53.domain).bind fun x68 =>
              if (x68.irb != v51) = true then
                some (Sum.inr (Sum.inl ()))
              else
                some (Sum.inl (wr_i64 (v51 + 1)))
  else
    some (Sum.inr (Sum.inr ()))

def palingref15_rest (a1 : Api_Net) : Option (Bool) :=
  (loopM (palingref15_rest_L1 a1) 0).bind fun r23 => match r23 with
  | Sum.inl () =>
    some false
  | Sum.inr () =>
    (loopM (palingref15_rest_L2 a1) 0).bind fun r35 => match r35 with
    | Sum.inl () =>
      some false
    | Sum.inr () =>
      (loopM (palingref15_rest_L3 a1) 0).bind fun r50 => match r50 with
      | Sum.inl () =>
        some false
      | Sum.inr () =>
        (loopM (palingref15_rest_L4 a1) 0).bind fun r72 => match r72 with
        | Sum.inl () =>
          some false
        | Sum.inr () =>
          some true

def palingref15_Right (a1 : Api_Net) : Option (Bool) :=
  if (decide ((a1.devices.length : Int) > 8)) = true then
    some false
  else
    if (decide ((a1.ports.length : Int) > 40)) = true then
      some false
    else
      if (decide ((a1.links.length : Int) > 20)) = true then
        some false
      else
        if (decide ((a1.domains.length : Int) > 48)) = true then
          some false
        else
          if (decide ((a1.statics.length : Int) > 64)) = true then
            some false
          else
            if (decide ((a1.floods.length : Int) > 48)) = true then
              some false
            else
              if (decide ((a1.vrfs.length : Int) > 16)) = true then
                some false
              else
                if (decide ((a1.irbs.length : Int) > 48)) = true then
                  some false
                else
                  (palingref15_domains a1).bind fun r10 =>
                  if (r10) = true then
                    (palingref15_ports a1).bind fun r13 =>
                    if (r13) = true then
                      (palingref15_links a1).bind fun r16 =>
                      if (r16) = true then
                        (palingref15_rest a1).bind fun r19 =>
                        some r19
                      else
                        some false
                    else
                      some false
                  else
                    some false

def palingref17_Other_L1 (a1 : Api_Net) (a2 : Int) (v3 : Int) : Option ((Int) ⊕ (Int ⊕ Unit)) :=
  if (decide (v3 < (a1.links.length : Int))) = true then
    (nth a1.links v3).bind fun x5 =>
    if (x5.a == a2) = true then
      (nth a1.links v3).bind fun x8 =>
      some (Sum.inr (Sum.inl x8.b))
    else
      (nth a1.links v3).bind fun x10 =>
      if (x10.b == a2) = true then
        (nth a1.links v3).bind fun x13 =>
        some (Sum.inr (Sum.inl x13.a))
      else
        some (Sum.inl (wr_i64 (v3 + 1)))
  else
    some (Sum.inr (Sum.inr ()))

def palingref17_Other (a1 : Api_Net) (a2 : Int) : Option (Int) :=
  (loopM (palingref17_Other_L1 a1 a2) 0).bind fun r18 => match r18 with
  | Sum.inl v16 =>
    some v16
  | Sum.inr () =>
    some (-1)

def palingref17_Cross_J1 (a3 : Int) (r4 : Int) (x8 : Api_Port) (x10 : Api_Port) : Option (Unit ⊕ Unit) :=
  if (x8.native == a3) = true then
    if (decide (x10.native > 0)) = true then
      some (Sum.inl ())
    else
      some (Sum.inr ())
  else
    some (Sum.inr ())

def palingref17_Cross (a1 : Api_Net) (a2 : Int) (a3 : Int) : Option (Int × Int × Bool) :=
  (palingref17_Other a1 a2).bind fun r4 =>
  if (decide (r4 < 0)) = true then
    some (0, 0, false)
  else
    if (a3 == 0) = true then
      some (0, 0, false)
    else
      (nth a1.ports a2).bind fun x8 =>
      (nth a1.ports r4).bind fun x10 =>
      (palingref17_Cross_J1 a3 r4 x8 x10).bind fun r15 => match r15 with
      | Sum.inl () =>
        some (r4, x10.native, true)
      | Sum.inr () =>
        (palingref15_In x8.tagged a3).bind fun r16 =>
        if (r16) = true then
          (palingref15_In x10.tagged a3).bind fun r19 =>
          if (r19) = true then
            some (r4, a3, true)
          else
            some (0, 0, false)
        else
          some (0, 0, false)

def palingref17_Domain (a1 : Api_Net) (a2 : Int) (a3 : Int) : Option (Int × Bool) :=
  (palingref17_Cross a1 a2 a3).bind fun r4 =>
  if (!r4.2.2) = true then
    some (0, false)
  else
    (nth a1.ports r4.1).bind fun x7 =>
    (palingref15_At a1 x7.dev r4.2.1).bind fun r9 =>
    some (r9, true)

def palinglaw17_LinksCrosses (a1 : Api_Net) (a2 : Int) (a3 : Int) : Option (Bool) :=
  (palinglaw15_Great a1).bind fun r4 =>
  if (r4) = true then
    (palinglaw17_works).bind fun r7 =>
    some r7
  else
    (links_Other a1 a2).bind fun r9 =>
    (links_Cross a1 a2 a3).bind fun r11 =>
    (links_Domain a1 a2 a3).bind fun r13 =>
    (palingref15_Right a1).bind fun r15 =>
    if (!r15) = true then
      if (r9 == (-1)) = true then
        if (r11.1 == 0) = true then
          if (r11.2.1 == 0) = true then
            if (!r11.2.2) = true then
              if (r13.1 == 0) = true then
                if (!r13.2) = true then
                  (palinglaw17_works).bind fun r24 =>
                  some r24
                else
                  some false
              else
                some false
            else
              some false
          else
            some false
        else
          some false
      else
        some false
    else
      (palingref17_Cross a1 a2 a3).bind fun r26 =>
      (palingref17_Domain a1 a2 a3).bind fun r28 =>
      (palingref17_Other a1 a2).bind fun r30 =>
      if (r9 == r30) = true then
        if (r11.1 == r26.1) = true then
          if (r11.2.1 == r26.2.1) = true then
            if (r11.2.2 == r26.2.2) = true then
              if (r13.1 == r28.1) = true then
                if (r13.2 == r28.2) = true then
                  (palinglaw17_works).bind fun r38 =>
                  some r38
                else
                  some false
              else
                some false
            else
              some false
          else
            some false
        else
          some false
      else
        some false

def palinglaw17_LinksBack (a1 : Api_Net) (a2 : Int) (a3 : Int) (a4 : Int) : Option (Bool) :=
  (palinglaw17_works).bind fun r5 =>
  if (!r5) = true then
    some false
  else
    (palinglaw15_Great a1).bind fun r8 =>
    if (r8) = true then
      some true
    else
      (links_Cross a1 a2 a3).bind fun r11 =>
      if (!r11.2.2) = true then
        if (r11.1 == 0) = true then
          some (r11.2.1 == 0)
        else
          some false
      else
        if (decide (a2 < 0)) = true then
          some false
        else
          if (decide (a2 ≥ (a1.ports.length : Int))) = true then
            some false
          else
            if (decide (r11.1 < 0)) = true then
              some false
            else
              if (decide (r11.1 ≥ (a1.ports.length : Int))) = true then
                some false
              else
                (links_Cross a1 r11.1 r11.2.1).bind fun r19 =>
                (links_Cross a1 a2 a4).bind fun r21 =>
                if (r19.2.2) = true then
                  if (r19.1 == a2) = true then
                    if (r19.2.1 == a3) = true then
                      if (!r21.2.2) = true then
                        (nth a1.ports r11.1).bind fun x27 =>
                        (names_Member x27 r11.2.1).bind fun r29 =>
                        if (r29) = true then
                          (nth a1.ports r11.1).bind fun x32 =>
                          (nth a1.ports a2).bind fun x34 =>
                          some (x32.dev != x34.dev)
                        else
                          some false
                      else
                        if ((r21.2.1 == r11.2.1) == (a3 == a4)) = true then
                          (nth a1.ports r11.1).bind fun x37 =>
                          (names_Member x37 r11.2.1).bind fun r39 =>
                          if (r39) = true then
                            (nth a1.ports r11.1).bind fun x42 =>
                            (nth a1.ports a2).bind fun x44 =>
                            some (x42.dev != x44.dev)
                          else
                            some false
                        else
                          some false
                    else
                      some false
                  else
                    some false
                else
                  some false

def slices_Equal_Device_L1 (a1 : List Api_Device) (a2 : List Api_Device) (v4 : Int) : Option ((Int) ⊕ (Unit ⊕ Unit)) :=
  if (decide (v4 < (a1.length : Int))) = true then
    (nth a1 v4).bind fun x6 =>
    (nth a2 v4).bind fun x8 =>
    if (!(eq_Api_Device x6 x8)) = true then
      some (Sum.inr (Sum.inl ()))
    else
      some (Sum.inl (wr_i64 (v4 + 1)))
  else
    some (Sum.inr (Sum.inr ()))

def slices_Equal_Device (a1 : List Api_Device) (a2 : List Api_Device) : Option (Bool) :=
  if ((a1.length : Int) != (a2.length : Int)) = true then
    some false
  else
    (loopM (slices_Equal_Device_L1 a1 a2) 0).bind fun r12 => match r12 with
    | Sum.inl () =>
      some false
    | Sum.inr () =>
      some true

def slices_Equal_Link_L1 (a1 : List Api_Link) (a2 : List Api_Link) (v4 : Int) : Option ((Int) ⊕ (Unit ⊕ Unit)) :=
  if (decide (v4 < (a1.length : Int))) = true then
    (nth a1 v4).bind fun x6 =>
    (nth a2 v4).bind fun x8 =>
    if (!(eq_Api_Link x6 x8)) = true then
      some (Sum.inr (Sum.inl ()))
    else
      some (Sum.inl (wr_i64 (v4 + 1)))
  else
    some (Sum.inr (Sum.inr ()))

def slices_Equal_Link (a1 : List Api_Link) (a2 : List Api_Link) : Option (Bool) :=
  if ((a1.length : Int) != (a2.length : Int)) = true then
    some false
  else
    (loopM (slices_Equal_Link_L1 a1 a2) 0).bind fun r12 => match r12 with
    | Sum.inl () =>
      some false
    | Sum.inr () =>
      some true

def slices_Equal_Static_L1 (a1 : List Api_Static) (a2 : List Api_Static) (v4 : Int) : Option ((Int) ⊕ (Unit ⊕ Unit)) :=
  if (decide (v4 < (a1.length : Int))) = true then
    (nth a1 v4).bind fun x6 =>
    (nth a2 v4).bind fun x8 =>
    if (!(eq_Api_Static x6 x8)) = true then
      some (Sum.inr (Sum.inl ()))
    else
      some (Sum.inl (wr_i64 (v4 + 1)))
  else
    some (Sum.inr (Sum.inr ()))

def slices_Equal_Static (a1 : List Api_Static) (a2 : List Api_Static) : Option (Bool) :=
  if ((a1.length : Int) != (a2.length : Int)) = true then
    some false
  else
    (loopM (slices_Equal_Static_L1 a1 a2) 0).bind fun r12 => match r12 with
    | Sum.inl () =>
      some false
    | Sum.inr () =>
      some true

def slices_Equal_Irb_L1 (a1 : List Api_Irb) (a2 : List Api_Irb) (v4 : Int) : Option ((Int) ⊕ (Unit ⊕ Unit)) :=
  if (decide (v4 < (a1.length : Int))) = true then
    (nth a1 v4).bind fun x6 =>
    (nth a2 v4).bind fun x8 =>
    if (!(eq_Api_Irb x6 x8)) = true then
      some (Sum.inr (Sum.inl ()))
    else
      some (Sum.inl (wr_i64 (v4 + 1)))
  else
    some (Sum.inr (Sum.inr ()))

def slices_Equal_Irb (a1 : List Api_Irb) (a2 : List Api_Irb) : Option (Bool) :=
  if ((a1.length : Int) != (a2.length : Int)) = true then
    some false
  else
    (loopM (slices_Equal_Irb_L1 a1 a2) 0).bind fun r12 => match r12 with
    | Sum.inl () =>
      some false
    | Sum.inr () =>
      some true

def slices_Equal_int_L1 (a1 : List Int) (a2 : List Int) (v4 : Int) : Option ((Int) ⊕ (Unit ⊕ Unit)) :=
  if (decide (v4 < (a1.length : Int))) = true then
    (nth a1 v4).bind fun x6 =>
    (nth a2 v4).bind fun x8 =>
    if (x6 != x8) = true then
      some (Sum.inr (Sum.inl ()))
    else
      some (Sum.inl (wr_i64 (v4 + 1)))
  else
    some (Sum.inr (Sum.inr ()))

def slices_Equal_int (a1 : List Int) (a2 : List Int) : Option (Bool) :=
  if ((a1.length : Int) != (a2.length : Int)) = true then
    some false
  else
    (loopM (slices_Equal_int_L1 a1 a2) 0).bind fun r12 => match r12 with
    | Sum.inl () =>
      some false
    | Sum.inr () =>
      some true

def names_Same_1 (a1 : Api_Port) (a2 : Api_Port) : Option (Bool) :=
  if (a1.row == a2.row) = true then
    if (a1.dev == a2.dev) = true then
      if (a1.native == a2.native) = true then
        if (a1.cost == a2.cost) = true then
          if (a1.link == a2.link) = true then
            if (seqB a1.name a2.name) = true then
              (slices_Equal_int a1.tagged a2.tagged).bind fun r9 =>
              some r9
            else
              some false
          else
            some false
        else
          some false
      else
        some false
    else
      some false
  else
    some false

def slices_EqualFunc_Port_Same_1_L1 (a1 : List Api_Port) (a2 : List Api_Port) (v4 : Int) : Option ((Int) ⊕ (Unit ⊕ Unit)) :=
  if (decide (v4 < (a1.length : Int))) = true then
    (nth a1 v4).bind fun x6 =>
    (nth a2 v4).bind fun x8 =>
    (names_Same_1 x6 x8).bind fun r10 =>
    if (!r10) = true then
      some (Sum.inr (Sum.inl ()))
    else
      some (Sum.inl (wr_i64 (v4 + 1)))
  else
    some (Sum.inr (Sum.inr ()))

def slices_EqualFunc_Port_Same_1 (a1 : List Api_Port) (a2 : List Api_Port) : Option (Bool) :=
  if ((a1.length : Int) != (a2.length : Int)) = true then
    some false
  else
    (loopM (slices_EqualFunc_Port_Same_1_L1 a1 a2) 0).bind fun r14 => match r14 with
    | Sum.inl () =>
      some false
    | Sum.inr () =>
      some true

def names_Same_2 (a1 : Api_Domain) (a2 : Api_Domain) : Option (Bool) :=
  if (a1.dev == a2.dev) = true then
    if (a1.vlan == a2.vlan) = true then
      if (a1.vni == a2.vni) = true then
        if (a1.irb == a2.irb) = true then
          if (a1.row == a2.row) = true then
            (slices_Equal_int a1.peers a2.peers).bind fun r8 =>
            some r8
          else
            some false
        else
          some false
      else
        some false
    else
      some false
  else
    some false

def slices_EqualFunc_Domain_Same_2_L1 (a1 : List Api_Domain) (a2 : List Api_Domain) (v4 : Int) : Option ((Int) ⊕ (Unit ⊕ Unit)) :=
  if (decide (v4 < (a1.length : Int))) = true then
    (nth a1 v4).bind fun x6 =>
    (nth a2 v4).bind fun x8 =>
    (names_Same_2 x6 x8).bind fun r10 =>
    if (!r10) = true then
      some (Sum.inr (Sum.inl ()))
    else
      some (Sum.inl (wr_i64 (v4 + 1)))
  else
    some (Sum.inr (Sum.inr ()))

def slices_EqualFunc_Domain_Same_2 (a1 : List Api_Domain) (a2 : List Api_Domain) : Option (Bool) :=
  if ((a1.length : Int) != (a2.length : Int)) = true then
    some false
  else
    (loopM (slices_EqualFunc_Domain_Same_2_L1 a1 a2) 0).bind fun r14 => match r14 with
    | Sum.inl () =>
      some false
    | Sum.inr () =>
      some true

def slices_Equal_uint32_L1 (a1 : List Int) (a2 : List Int) (v4 : Int) : Option ((Int) ⊕ (Unit ⊕ Unit)) :=
  if (decide (v4 < (a1.length : Int))) = true then
    (nth a1 v4).bind fun x6 =>
    (nth a2 v4).bind fun x8 =>
    if (x6 != x8) = true then
      some (Sum.inr (Sum.inl ()))
    else
      some (Sum.inl (wr_i64 (v4 + 1)))
  else
    some (Sum.inr (Sum.inr ()))

def slices_Equal_uint32 (a1 : List Int) (a2 : List Int) : Option (Bool) :=
  if ((a1.length : Int) != (a2.length : Int)) = true then
    some false
  else
    (loopM (slices_Equal_uint32_L1 a1 a2) 0).bind fun r12 => match r12 with
    | Sum.inl () =>
      some false
    | Sum.inr () =>
      some true

def names_Same_3 (a1 : Api_Flood) (a2 : Api_Flood) : Option (Bool) :=
  if (a1.row == a2.row) = true then
    if (a1.dev == a2.dev) = true then
      if (a1.vni == a2.vni) = true then
        (slices_Equal_uint32 a1.addrs a2.addrs).bind fun r6 =>
        some r6
      else
        some false
    else
      some false
  else
    some false

def slices_EqualFunc_Flood_Same_3_L1 (a1 : List Api_Flood) (a2 : List Api_Flood) (v4 : Int) : Option ((Int) ⊕ (Unit ⊕ Unit)) :=
  if (decide (v4 < (a1.length : Int))) = true then
    (nth a1 v4).bind fun x6 =>
    (nth a2 v4).bind fun x8 =>
    (names_Same_3 x6 x8).bind fun r10 =>
    if (!r10) = true then
      some (Sum.inr (Sum.inl ()))
    else
      some (Sum.inl (wr_i64 (v4 + 1)))
  else
    some (Sum.inr (Sum.inr ()))

def slices_EqualFunc_Flood_Same_3 (a1 : List Api_Flood) (a2 : List Api_Flood) : Option (Bool) :=
  if ((a1.length : Int) != (a2.length : Int)) = true then
    some false
  else
    (loopM (slices_EqualFunc_Flood_Same_3_L1 a1 a2) 0).bind fun r14 => match r14 with
    | Sum.inl () =>
      some false
    | Sum.inr () =>
      some true

def names_Same_4 (a1 : Api_Vrf) (a2 : Api_Vrf) : Option (Bool) :=
  if (a1.row == a2.row) = true then
    if (a1.dev == a2.dev) = true then
      if (seqB a1.name a2.name) = true then
        (slices_Equal_int a1.imports a2.imports).bind fun r6 =>
        if (r6) = true then
          (slices_Equal_int a1.exports a2.exports).bind fun r9 =>
          some r9
        else
          some false
      else
        some false
    else
      some false
  else
    some false

def slices_EqualFunc_Vrf_Same_4_L1 (a1 : List Api_Vrf) (a2 : List Api_Vrf) (v4 : Int) : Option ((Int) ⊕ (Unit ⊕ Unit)) :=
  if (decide (v4 < (a1.length : Int))) = true then
    (nth a1 v4).bind fun x6 =>
    (nth a2 v4).bind fun x8 =>
    (names_Same_4 x6 x8).bind fun r10 =>
    if (!r10) = true then
      some (Sum.inr (Sum.inl ()))
    else
      some (Sum.inl (wr_i64 (v4 + 1)))
  else
    some (Sum.inr (Sum.inr ()))

def slices_EqualFunc_Vrf_Same_4 (a1 : List Api_Vrf) (a2 : List Api_Vrf) : Option (Bool) :=
  if ((a1.length : Int) != (a2.length : Int)) = true then
    some false
  else
    (loopM (slices_EqualFunc_Vrf_Same_4_L1 a1 a2) 0).bind fun r14 => match r14 with
    | Sum.inl () =>
      some false
    | Sum.inr () =>
      some true

def names_Same (a1 : Api_Net) (a2 : Api_Net) : Option (Bool) :=
  (slices_Equal_Device a1.devices a2.devices).bind fun r3 =>
  if (r3) = true then
    (slices_Equal_Link a1.links a2.links).bind fun r6 =>
    if (r6) = true then
      (slices_Equal_Static a1.statics a2.statics).bind fun r9 =>
      if (r9) = true then
        (slices_Equal_Irb a1.irbs a2.irbs).bind fun r12 =>
        if (r12) = true then
          (slices_EqualFunc_Port_Same_1 a1.ports a2.ports).bind fun r15 =>
          if (r15) = true then
            (slices_EqualFunc_Domain_Same_2 a1.domains a2.domains).bind fun r18 =>
            if (r18) = true then
              (slices_EqualFunc_Flood_Same_3 a1.floods a2.floods).bind fun r21 =>
              if (r21) = true then
                (slices_EqualFunc_Vrf_Same_4 a1.vrfs a2.vrfs).bind fun r24 =>
                some r24
              else
                some false
            else
              some false
          else
            some false
        else
          some false
      else
        some false
    else
      some false
  else
    some false

def palingref15_tops_L1 (a1 : Api_Net) (a2 : Api_Net) (v7 : Int) : Option ((Int) ⊕ (Unit ⊕ Unit)) :=
  if (decide (v7 < (a1.devices.length : Int))) = true then
    (nth a1.devices v7).bind fun x9 =>
    (nth a2.devices v7).bind fun x11 =>
    if (!(eq_Api_Device x9 x11)) = true then
      some (Sum.inr (Sum.inl ()))
    else
      some (Sum.inl (wr_i64 (v7 + 1)))
  else
    some (Sum.inr (Sum.inr ()))

def palingref15_tops_L2 (a1 : Api_Net) (a2 : Api_Net) (v16 : Int) : Option ((Int) ⊕ (Unit ⊕ Unit)) :=
  if (decide (v16 < (a1.links.length : Int))) = true then
    (nth a1.links v16).bind fun x18 =>
    (nth a2.links v16).bind fun x20 =>
    if (!(eq_Api_Link x18 x20)) = true then
      some (Sum.inr (Sum.inl ()))
    else
      some (Sum.inl (wr_i64 (v16 + 1)))
  else
    some (Sum.inr (Sum.inr ()))

def palingref15_tops_L3 (a1 : Api_Net) (a2 : Api_Net) (v25 : Int) : Option ((Int) ⊕ (Unit ⊕ Unit)) :=
  if (decide (v25 < (a1.statics.length : Int))) = true then
    (nth a1.statics v25).bind fun x27 =>
    (nth a2.statics v25).bind fun x29 =>
    if (!(eq_Api_Static x27 x29)) = true then
      some (Sum.inr (Sum.inl ()))
    else
      some (Sum.inl (wr_i64 (v25 + 1)))
  else
    some (Sum.inr (Sum.inr ()))

def palingref15_tops_L4 (a1 : Api_Net) (a2 : Api_Net) (v34 : Int) : Option ((Int) ⊕ (Unit ⊕ Unit)) :=
  if (decide (v34 < (a1.irbs.length : Int))) = true then
    (nth a1.irbs v34).bind fun x36 =>
    (nth a2.irbs v34).bind fun x38 =>
    if (!(eq_Api_Irb x36 x38)) = true then
      some (Sum.inr (Sum.inl ()))
    else
      some (Sum.inl (wr_i64 (v34 + 1)))
  else
    some (Sum.inr (Sum.inr ()))

def palingref15_tops (a1 : Api_Net) (a2 : Api_Net) : Option (Bool) :=
  if ((a1.devices.length : Int) != (a2.devices.length : Int)) = true then
    some false
  else
    if ((a1.links.length : Int) != (a2.links.length : Int)) = true then
      some false
    else
      if ((a1.statics.length : Int) != (a2.statics.length : Int)) = true then
        some false
      else
        if ((a1.irbs.length : Int) != (a2.irbs.length : Int)) = true then
          some false
        else
          (loopM (palingref15_tops_L1 a1 a2) 0).bind fun r15 => match r15 with
          | Sum.inl () =>
            some false
          | Sum.inr () =>
            (loopM (palingref15_tops_L2 a1 a2) 0).bind fun r24 => match r24 with
            | Sum.inl () =>
              some false
            | Sum.inr () =>
              (loopM (palingref15_tops_L3 a1 a2) 0).bind fun r33 => match r33 with
              | Sum.inl () =>
                some false
              | Sum.inr () =>
                (loopM (palingref15_tops_L4 a1 a2) 0).bind fun r42 => match r42 with
                | Sum.inl () =>
                  some false
                | Sum.inr () =>
                  some true

def palingref03_Ints_L1 (a1 : List Int) (a2 : List Int) (v4 : Int) : Option ((Int) ⊕ (Unit ⊕ Unit)) :=
  if (decide (v4 < (a1.length : Int))) = true then
    (nth a1 v4).bind fun x6 =>
    (nth a2 v4).bind fun x8 =>
    if (x6 != x8) = true then
      some (Sum.inr (Sum.inl ()))
    else
      some (Sum.inl (wr_i64 (v4 + 1)))
  else
    some (Sum.inr (Sum.inr ()))

def palingref03_Ints (a1 : List Int) (a2 : List Int) : Option (Bool) :=
  if ((a1.length : Int) != (a2.length : Int)) = true then
    some false
  else
    (loopM (palingref03_Ints_L1 a1 a2) 0).bind fun r12 => match r12 with
    | Sum.inl () =>
      some false
    | Sum.inr () =>
      some true

def palingref03_Addrs_L1 (a1 : List Int) (a2 : List Int) (v4 : Int) : Option ((Int) ⊕ (Unit ⊕ Unit)) :=
  if (decide (v4 < (a1.length : Int))) = true then
    (nth a1 v4).bind fun x6 =>
    (nth a2 v4).bind fun x8 =>
    if (x6 != x8) = true then
      some (Sum.inr (Sum.inl ()))
    else
      some (Sum.inl (wr_i64 (v4 + 1)))
  else
    some (Sum.inr (Sum.inr ()))

def palingref03_Addrs (a1 : List Int) (a2 : List Int) : Option (Bool) :=
  if ((a1.length : Int) != (a2.length : Int)) = true then
    some false
  else
    (loopM (palingref03_Addrs_L1 a1 a2) 0).bind fun r12 => match r12 with
    | Sum.inl () =>
      some false
    | Sum.inr () =>
      some true

def palingref15_Same_L1 (a1 : Api_Net) (a2 : Api_Net) (v10 : Int) : Option ((Int) ⊕ (Unit ⊕ Unit)) :=
  if (decide (v10 < (a1.ports.length : Int))) = true then
    (nth a1.ports v10).bind fun x12 =>
    (nth a2.ports v10).bind fun x14 =>
    if (x12.row != x14.row) = true then
      some (Sum.inr (Sum.inl ()))
    else
      if (x12.dev != x14.dev) = true then
        some (Sum.inr (Sum.inl ()))
      else
        if (x12.native != x14.native) = true then
          some (Sum.inr (Sum.inl ()))
        else
          if (x12.cost != x14.cost) = true then
            some (Sum.inr (Sum.inl ()))
          else
            if (x12.link != x14.link) = true then
              some (Sum.inr (Sum.inl ()))
            else
              if (!(seqB x12.name x14.name)) = true then
                some (Sum.inr (Sum.inl ()))
              else
                (palingref03_Ints x12.tagged x14.tagged).bind fun r22 =>
                if (!r22) = true then
                  some (Sum.inr (Sum.inl ()))
                else
                  some (Sum.inl (wr_i64 (v10 + 1)))
  else
    some (Sum.inr (Sum.inr ()))

def palingref15_Same_L2 (a1 : Api_Net) (a2 : Api_Net) (v27 : Int) : Option ((Int) ⊕ (Unit ⊕ Unit)) :=
  if (decide (v27 < (a1.domains.length : Int))) = true then
    (nth a1.domains v27).bind fun x29 =>
    (nth a2.domains v27).bind fun x31 =>
    if (x29.dev != x31.dev) = true then
      some (Sum.inr (Sum.inl ()))
    else
      if (x29.vlan != x31.vlan) = true then
        some (Sum.inr (Sum.inl ()))
      else
        if (x29.vni != x31.vni) = true then
          some (Sum.inr (Sum.inl ()))
        else
          if (x29.irb != x31.irb) = true then
            some (Sum.inr (Sum.inl ()))
          else
            if (x29.row != x31.row) = true then
              some (Sum.inr (Sum.inl ()))
            else
              (palingref03_Ints x29.peers x31.peers).bind fun r38 =>
              if (!r38) = true then
                some (Sum.inr (Sum.inl ()))
              else
                some (Sum.inl (wr_i64 (v27 + 1)))
  else
    some (Sum.inr (Sum.inr ()))

def palingref15_Same_L3 (a1 : Api_Net) (a2 : Api_Net) (v43 : Int) : Option ((Int) ⊕ (Unit ⊕ Unit)) :=
  if (decide (v43 < (a1.floods.length : Int))) = true then
    (nth a1.floods v43).bind fun x45 =>
    (nth a2.floods v43).bind fun x47 =>
    if (x45.row != x47.row) = true then
      some (Sum.inr (Sum.inl ()))
    else
      if (x45.dev != x47.dev) = true then
        some (Sum.inr (Sum.inl ()))
      else
        if (x45.vni != x47.vni) = true then
          some (Sum.inr (Sum.inl ()))
        else
          (palingref03_Addrs x45.addrs x47.addrs).bind fun r52 =>
          if (!r52) = true then
            some (Sum.inr (Sum.inl ()))
          else
            some (Sum.inl (wr_i64 (v43 + 1)))
  else
    some (Sum.inr (Sum.inr ()))

def palingref15_Same_L4 (a1 : Api_Net) (a2 : Api_Net) (v57 : Int) : Option ((Int) ⊕ (Unit ⊕ Unit)) :=
  if (decide (v57 < (a1.vrfs.length : Int))) = true then
    (nth a1.vrfs v57).bind fun x59 =>
    (nth a2.vrfs v57).bind fun x61 =>
    if (x59.row != x61.row) = true then
      some (Sum.inr (Sum.inl ()))
    else
      if (x59.dev != x61.dev) = true then
        some (Sum.inr (Sum.inl ()))
      else
        if (!(seqB x59.name x61.name)) = true then
          some (Sum.inr (Sum.inl ()))
        else
          (palingref03_Ints x59.imports x61.imports).bind fun r66 =>
          if (!r66) = true then
            some (Sum.inr (Sum.inl ()))
          else
            (palingref03_Ints x59.exports x61.exports).bind fun r69 =>
            if (!r69) = true then
              some (Sum.inr (Sum.inl ()))
            else
              some (Sum.inl (wr_i64 (v57 + 1)))
  else
    some (Sum.inr (Sum.inr ()))

def palingref15_Same (a1 : Api_Net) (a2 : Api_Net) : Option (Bool) :=
  (palingref15_tops a1 a2).bind fun r3 =>
  if (!r3) = true then
    some false
  else
    if ((a1.ports.length : Int) != (a2.ports.length : Int)) = true then
      some false
    else
      if ((a1.domains.length : Int) != (a2.domains.length : Int)) = true then
        some false
      else
        if ((a1.floods.length : Int) != (a2.floods.length : Int)) = true then
          some false
        else
          if ((a1.vrfs.length : Int) != (a2.vrfs.length : Int)) = true then
            some false
          else
            (loopM (palingref15_Same_L1 a1 a2) 0).bind fun r26 => match r26 with
            | Sum.inl () =>
              some false
            | Sum.inr () =>
              (loopM (palingref15_Same_L2 a1 a2) 0).bind fun r42 => match r42 with
              | Sum.inl () =>
                some false
              | Sum.inr () =>
                (loopM (palingref15_Same_L3 a1 a2) 0).bind fun r56 => match r56 with
                | Sum.inl () =>
                  some false
                | Sum.inr () =>
                  (loopM (palingref15_Same_L4 a1 a2) 0).bind fun r73 => match r73 with
                  | Sum.inl () =>
                    some false
                  | Sum.inr () =>
                    some true

def slices_Clone_Device (a1 : List Api_Device) : Option (List Api_Device) :=
  if roomy 48 a1 = true then some a1 else none

def slices_Clone_Port (a1 : List Api_Port) : Option (List Api_Port) :=
  if roomy 80 a1 = true then some a1 else none

def slices_Clone_Link (a1 : List Api_Link) : Option (List Api_Link) :=
  if roomy 24 a1 = true then some a1 else none

def slices_Clone_Domain (a1 : List Api_Domain) : Option (List Api_Domain) :=
  if roomy 64 a1 = true then some a1 else none

def slices_Clone_Static (a1 : List Api_Static) : Option (List Api_Static) :=
  if roomy 32 a1 = true then some a1 else none

def slices_Clone_Flood (a1 : List Api_Flood) : Option (List Api_Flood) :=
  if roomy 48 a1 = true then some a1 else none

def slices_Clone_Vrf (a1 : List Api_Vrf) : Option (List Api_Vrf) :=
  if roomy 80 a1 = true then some a1 else none

def slices_Clone_Irb (a1 : List Api_Irb) : Option (List Api_Irb) :=
  if roomy 40 a1 = true then some a1 else none

def slices_Clone_uint32 (a1 : List Int) : Option (List Int) :=
  if roomy 4 a1 = true then some a1 else none

def names_Copy_L1 (l4 : List Api_Device) (l7 : List Api_Port) (l10 : List Api_Link) (l13 : List Api_Domain) (l16 : List Api_Static) (l19 : List Api_Flood) (l22 : List Api_Vrf) (l25 : List Api_Irb) (l26 : List Api_Port) (v27 : Int) : Option (((List Api_Port) × Int) ⊕ ((List Api_Port))) :=
  if (decide (v27 < ((List.length l7) : Int))) = true then
    if (lin l26 v27) = true then
      (l26[(Int.toNat v27)]?).bind fun x30 =>
      (slices_Clone_int x30.tagged).bind fun r32 => match r32 with
      | l34 =>
        (l26[(Int.toNat v27)]?).bind fun x35 =>
        some (Sum.inl (List.set l26 (Int.toNat v27) (⟨x35.row, x35.dev, x35.native, x35.cost, x35.link, x35.name, l34⟩ : Api_Port), wr_i64 (v27 + 1)))
    else
      none
  else
    some (Sum.inr l26)

def names_Copy_L2 (l4 : List Api_Device) (l7 : List Api_Port) (l10 : List Api_Link) (l13 : List Api_Domain) (l16 : List Api_Static) (l19 : List Api_Flood) (l22 : List Api_Vrf) (l25 : List Api_Irb) (l39 : List Api_Port) (l42 : List Api_Domain) (v43 : Int) : Option (((List Api_Domain) × Int) ⊕ ((List Api_Domain))) :=
  if (decide (v43 < ((List.length l13) : Int))) = true then
    if (lin l42 v43) = true then
      (l42[(Int.toNat v43)]?).bind fun x46 =>
      (slices_Clone_int x46.peers).bind fun r48 => match r48 with
      | l50 =>
        (l42[(Int.toNat v43)]?).bind fun x51 =>
        some (Sum.inl (List.set l42 (Int.toNat v43) (⟨x51.dev, x51.vlan, x51.vni, x51.irb, x51.row, l50⟩ : Api_Domain), wr_i64 (v43 + 1)))
    else
      none
  else
    some (Sum.inr l42)

def names_Copy_L3 (l4 : List Api_Device) (l7 : List Api_Port) (l10 : List Api_Link) (l13 : List Api_Domain) (l16 : List Api_Static) (l19 : List Api_Flood) (l22 : List Api_Vrf) (l25 : List Api_Irb) (l39 : List Api_Port) (l55 : List Api_Domain) (l58 : List Api_Flood) (v59 : Int) : Option (((List Api_Flood) × Int) ⊕ ((List Api_Flood))) :=
  if (decide (v59 < ((List.length l19) : Int))) = true then
    if (lin l58 v59) = true then
      (l58[(Int.toNat v59)]?).bind fun x62 =>
      (slices_Clone_uint32 x62.addrs).bind fun r64 => match r64 with
      | l66 =>
        (l58[(Int.toNat v59)]?).bind fun x67 =>
        some (Sum.inl (List.set l58 (Int.toNat v59) (⟨x67.row, x67.dev, x67.vni, l66⟩ : Api_Flood), wr_i64 (v59 + 1)))
    else
      none
  else
    some (Sum.inr l58)

def names_Copy_L4 (l4 : List Api_Device) (l7 : List Api_Port) (l10 : List Api_Link) (l13 : List Api_Domain) (l16 : List Api_Static) (l19 : List Api_Flood) (l22 : List Api_Vrf) (l25 : List Api_Irb) (l39 : List Api_Port) (l55 : List Api_Domain) (l71 : List Api_Flood) (l74 : List Api_Vrf) (v75 : Int) : Option (((List Api_Vrf) × Int) ⊕ ((List Api_Vrf))) :=
  if (decide (v75 < ((List.length l22) : Int))) = true then
    if (lin l74 v75) = true then
      (l74[(Int.toNat v75)]?).bind fun x78 =>
      (slices_Clone_int x78.imports).bind fun r80 => match r80 with
      | l82 =>
        (l74[(Int.toNat v75)]?).bind fun x83 =>
        (slices_Clone_int x83.exports).bind fun r85 => match r85 with
        | l87 =>
          (l74[(Int.toNat v75)]?).bind fun x88 =>
          ((List.set l74 (Int.toNat v75) (⟨x88.row, x88.dev, x88.name, l82, x88.exports⟩ : Api_Vrf))[(Int.toNat v75)]?).bind fun x90 =>
          some (Sum.inl (List.set (List.set l74 (Int.toNat v75) (⟨x88.row, x88.dev, x88.name, l82, x88.exports⟩ : Api_Vrf)) (Int.toNat v75) (⟨x90.row, x90.dev, x90.name, x90.imports, l87⟩ : Api_Vrf), wr_i64 (v75 + 1)))
    else
      none
  else
    some (Sum.inr l74)

def names_Copy (a1 : Api_Net) : Option (((List Api_Device) × (List Api_Port) × (List Api_Link) × (List Api_Domain) × (List Api_Static) × (List Api_Flood) × (List Api_Vrf) × (List Api_Irb) × Nat × Nat × Nat × Nat)) :=
  (slices_Clone_Device a1.devices).bind fun r2 => match r2 with
  | l4 =>
    (slices_Clone_Port a1.ports).bind fun r5 => match r5 with
    | l7 =>
      (slices_Clone_Link a1.links).bind fun r8 => match r8 with
      | l10 =>
        (slices_Clone_Domain a1.domains).bind fun r11 => match r11 with
        | l13 =>
          (slices_Clone_Static a1.statics).bind fun r14 => match r14 with
          | l16 =>
            (slices_Clone_Flood a1.floods).bind fun r17 => match r17 with
            | l19 =>
              (slices_Clone_Vrf a1.vrfs).bind fun r20 => match r20 with
              | l22 =>
                (slices_Clone_Irb a1.irbs).bind fun r23 => match r23 with
                | l25 =>
                  (loopM (fun s : (List Api_Port) × Int => match s with | (l26, v27) => names_Copy_L1 l4 l7 l10 l13 l16 l19 l22 l25 l26 v27) (l7, 0)).bind fun r41 => match r41 with
                  | l39 =>
                    (loopM (fun s : (List Api_Domain) × Int => match s with | (l42, v43) => names_Copy_L2 l4 l7 l10 l13 l16 l19 l22 l25 l39 l42 v43) (l13, 0)).bind fun r57 => match r57 with
                    | l55 =>
                      (loopM (fun s : (List Api_Flood) × Int => match s with | (l58, v59) => names_Copy_L3 l4 l7 l10 l13 l16 l19 l22 l25 l39 l55 l58 v59) (l19, 0)).bind fun r73 => match r73 with
                      | l71 =>
                        (loopM (fun s : (List Api_Vrf) × Int => match s with | (l74, v75) => names_Copy_L4 l4 l7 l10 l13 l16 l19 l22 l25 l39 l55 l71 l74 v75) (l22, 0)).bind fun r96 => match r96 with
                        | l94 =>
                          some (l4, l39, l10, l55, l16, l71, l94, l25, (List.length l7), (List.length l13), (List.length l19), (List.length l22))

def palinglaw15_NamesRights (a1 : Api_Net) (a2 : Api_Net) : Option (Bool) :=
  (palinglaw15_Great a1).bind fun r3 =>
  if (r3) = true then
    (palinglaw15_works).bind fun r6 =>
    some r6
  else
    (palinglaw15_Great a2).bind fun r8 =>
    if (r8) = true then
      (palinglaw15_works).bind fun r11 =>
      some r11
    else
      (names_Right a1).bind fun r13 =>
      (palingref15_Right a1).bind fun r15 =>
      if (r13 == r15) = true then
        (names_Same a1 a2).bind fun r18 =>
        (palingref15_Same a1 a2).bind fun r20 =>
        if (r18 == r20) = true then
          (names_Same a1 a1).bind fun r23 =>
          if (r23) = true then
            (names_Copy a1).bind fun r26 => match r26 with
            | (l28, l29, l30, l31, l32, l33, l34, l35, n36, n37, n38, n39) =>
              (palingref15_Same (⟨l28, l29, l30, l31, l32, l33, l34, l35⟩ : Api_Net) a1).bind fun r40 =>
              if (r40) = true then
                (palinglaw15_works).bind fun r43 =>
                some r43
              else
                some false
          else
            some false
        else
          some false
      else
        some false

def palingref29_Usable (a1 : Api_Net) (a2 : List Bool) (a3 : Int) : Option (Bool) :=
  (palingref15_Place a3 (a1.ports.length : Int)).bind fun r4 =>
  if (r4) = true then
    (nth a1.ports a3).bind fun x7 =>
    if (x7.link == (-1)) = true then
      some true
    else
      (nth a1.ports a3).bind fun x10 =>
      (nth a2 x10.link).bind fun x12 =>
      some x12
  else
    some false

def palinglaw29_LookupUsable (a1 : Api_Net) (a2 : List Bool) (a3 : Int) : Option (Bool) :=
  (palinglaw15_Great a1).bind fun r4 =>
  if (r4) = true then
    (palinglaw29_works).bind fun r7 =>
    some r7
  else
    if (decide ((a2.length : Int) > 200)) = true then
      (palinglaw29_works).bind fun r10 =>
      some r10
    else
      (palingref15_Right a1).bind fun r12 =>
      if (r12) = true then
        if ((a2.length : Int) == (a1.links.length : Int)) = true then
          (palingref29_Usable a1 a2 a3).bind fun r16 =>
          (lookup_Usable a1 a2 a3).bind fun r18 =>
          if (r18 == r16) = true then
            (palinglaw29_works).bind fun r21 =>
            some r21
          else
            some false
        else
          (lookup_Usable a1 a2 a3).bind fun r23 =>
          if (r23 == false) = true then
            (palinglaw29_works).bind fun r26 =>
            some r26
          else
            some false
      else
        (lookup_Usable a1 a2 a3).bind fun r28 =>
        if (r28 == false) = true then
          (palinglaw29_works).bind fun r31 =>
          some r31
        else
          some false

def addr_Right (a1 : Api_Prefix) : Option (Bool) :=
  if (decide (a1.bits ≥ 0)) = true then
    some (decide (a1.bits ≤ 32))
  else
    some false

def addr_rest (a1 : Api_Prefix) : Option (Int) :=
  if (decide (0 ≤ (wr_i64 (32 - a1.bits)))) = true then
    some (wr_u32 ((wr_u32 (1 * 2 ^ (min (Int.toNat (wr_i64 (32 - a1.bits))) 32))) - 1))
  else
    none

def addr_First (a1 : Api_Prefix) : Option (Int) :=
  (addr_Right a1).bind fun r2 =>
  if (!r2) = true then
    some 0
  else
    (addr_rest a1).bind fun r5 =>
    some (bits_andNot .u32 a1.addr r5)

def addr_Last (a1 : Api_Prefix) : Option (Int) :=
  (addr_Right a1).bind fun r2 =>
  if (!r2) = true then
    some 0
  else
    (addr_rest a1).bind fun r5 =>
    some (bits_or .u32 a1.addr r5)

def route_device (a1 : Api_Net) (a2 : Int) : Option (Int) :=
  (nth a1.irbs a2).bind fun x3 =>
  (nth a1.domains x3.domain).bind fun x5 =>
  some x5.dev

def addr_Has (a1 : Api_Prefix) (a2 : Int) : Option (Bool) :=
  (addr_Right a1).bind fun r3 =>
  if (r3) = true then
    (addr_rest a1).bind fun r6 =>
    some ((bits_andNot .u32 (bits_xor .u32 a1.addr a2) r6) == 0)
  else
    some false

def vrfs_Leaks_1 (a1 : Int) (a2 : Api_Vrf) : Option (Bool) :=
  (slices_Contains_int a2.imports a1).bind fun r3 =>
  some r3

def slices_IndexFunc_int_Leaks_1_L1 (a1 : List Int) (a2 : Api_Vrf) (v3 : Int) : Option ((Int) ⊕ (Int ⊕ Unit)) :=
  if (decide (v3 < (a1.length : Int))) = true then
    (nth a1 v3).bind fun x5 =>
    (vrfs_Leaks_1 x5 a2).bind fun r7 =>
    if (r7) = true then
      some (Sum.inr (Sum.inl v3))
    else
      some (Sum.inl (wr_i64 (v3 + 1)))
  else
    some (Sum.inr (Sum.inr ()))

def slices_IndexFunc_int_Leaks_1 (a1 : List Int) (a2 : Api_Vrf) : Option (Int) :=
  (loopM (slices_IndexFunc_int_Leaks_1_L1 a1 a2) 0).bind fun r13 => match r13 with
  | Sum.inl v11 =>
    some v11
  | Sum.inr () =>
    some (-1)

def slices_ContainsFunc_int_Leaks_1 (a1 : List Int) (a2 : Api_Vrf) : Option (Bool) :=
  (slices_IndexFunc_int_Leaks_1 a1 a2).bind fun r3 =>
  some (decide (r3 ≥ 0))

def vrfs_Leaks (a1 : Api_Net) (a2 : Int) (a3 : Int) : Option (Bool) :=
  if (decide (a2 < 0)) = true then
    some false
  else
    if (decide (a3 < 0)) = true then
      some false
    else
      if (decide (a2 ≥ (a1.vrfs.length : Int))) = true then
        some false
      else
        if (decide (a3 ≥ (a1.vrfs.length : Int))) = true then
          some false
        else
          (names_Right a1).bind fun r8 =>
          if (!r8) = true then
            some false
          else
            (nth a1.vrfs a2).bind fun x11 =>
            (nth a1.vrfs a3).bind fun x13 =>
            if (a2 == a3) = true then
              some true
            else
              if (x11.dev == x13.dev) = true then
                (slices_ContainsFunc_int_Leaks_1 x11.exports x13).bind fun r17 =>
                some r17
              else
                some false

def route_sees (a1 : Api_Net) (a2 : Int) (a3 : Int) : Option (Bool) :=
  (route_device a1 a2).bind fun r4 =>
  (route_device a1 a3).bind fun r6 =>
  if (r4 == r6) = true then
    (nth a1.irbs a3).bind fun x9 =>
    (nth a1.irbs a2).bind fun x11 =>
    (vrfs_Leaks a1 x9.vrf x11.vrf).bind fun r13 =>
    some r13
  else
    some false

def route_lookup_1 (a1 : Int) (a2 : Api_Net) (a3 : Int) : Option (Int) :=
  (nth a2.irbs a1).bind fun x4 =>
  (nth a2.irbs a3).bind fun x6 =>
  if (x4.vrf == x6.vrf) = true then
    some 1
  else
    some 0

def route_lookup_2 (a1 : Int) (a2 : Int) (a3 : Api_Net) (a4 : Api_Net) (a5 : Int) : Option (Int) :=
  (nth a3.irbs a1).bind fun x6 =>
  (nth a3.irbs a2).bind fun x8 =>
  if (x6.net.bits != x8.net.bits) = true then
    some (wr_i64 (x6.net.bits - x8.net.bits))
  else
    (route_lookup_1 a1 a4 a5).bind fun r11 =>
    (route_lookup_1 a2 a4 a5).bind fun r13 =>
    some (wr_i64 (r11 - r13))

def slices_MaxFunc_int_lookup_2_L1 (a1 : List Int) (a2 : Api_Net) (a3 : Api_Net) (a4 : Int) (v8 : Int) (v9 : Int) : Option ((Int × Int) ⊕ (Int)) :=
  if (decide (v9 < (a1.length : Int))) = true then
    (nth a1 v9).bind fun x11 =>
    (route_lookup_2 x11 v8 a2 a3 a4).bind fun r13 =>
    if (decide (r13 > 0)) = true then
      (nth a1 v9).bind fun x16 =>
      some (Sum.inl (x16, wr_i64 (v9 + 1)))
    else
      some (Sum.inl (v8, wr_i64 (v9 + 1)))
  else
    some (Sum.inr v8)

def slices_MaxFunc_int_lookup_2 (a1 : List Int) (a2 : Api_Net) (a3 : Api_Net) (a4 : Int) : Option (Int) :=
  if (decide ((a1.length : Int) < 1)) = true then
    none
  else
    (nth a1 0).bind fun x6 =>
    (loopM (fun s : Int × Int => match s with | (v8, v9) => slices_MaxFunc_int_lookup_2_L1 a1 a2 a3 a4 v8 v9) (x6, 1)).bind fun r21 => match r21 with
    | v19 =>
      some v19

def route_lookup_J2 (a1 : Api_Net) (a2 : Int) (a3 : Int) (l4 : List Int) (v5 : Int) (x7 : Api_Irb) : Option (Unit ⊕ Unit) :=
  (route_device a1 v5).bind fun r9 =>
  (route_device a1 a2).bind fun r11 =>
  if (r9 == r11) = true then
    if (x7.net.addr == a3) = true then
      some (Sum.inl ())
    else
      some (Sum.inr ())
  else
    some (Sum.inr ())

def route_lookup_L1 (a1 : Api_Net) (a2 : Int) (a3 : Int) (l4 : List Int) (v5 : Int) : Option (((List Int) × Int) ⊕ (Unit ⊕ (List Int))) :=
  if (decide (v5 < (a1.irbs.length : Int))) = true then
    (nth a1.irbs v5).bind fun x7 =>
    (route_lookup_J2 a1 a2 a3 l4 v5 x7).bind fun r16 => match r16 with
    | Sum.inl () =>
      some (Sum.inr (Sum.inl ()))
    | Sum.inr () =>
      (addr_Has x7.net a3).bind fun r17 =>
      if (r17) = true then
        (route_sees a1 a2 v5).bind fun r20 =>
        if (r20) = true then
          if (roomy 8 (l4 ++ [v5])) = true then
            some (Sum.inl (l4 ++ [v5], wr_i64 (v5 + 1)))
          else
            none
        else
          some (Sum.inl (l4, wr_i64 (v5 + 1)))
      else
        some (Sum.inl (l4, wr_i64 (v5 + 1)))
  else
    some (Sum.inr (Sum.inr l4))

def route_lookup (a1 : Api_Net) (a2 : Int) (a3 : Int) : Option (Int × Bool) :=
  (loopM (fun s : (List Int) × Int => match s with | (l4, v5) => route_lookup_L1 a1 a2 a3 l4 v5) ([], 0)).bind fun r31 => match r31 with
  | Sum.inl () =>
    some (0, false)
  | Sum.inr l29 =>
    if (((List.length l29) : Int) == 0) = true then
      some (0, false)
    else
      (slices_MaxFunc_int_lookup_2 l29 a1 a1 a2).bind fun r33 =>
      some (r33, true)

def route_Lookup (a1 : Api_Net) (a2 : Int) (a3 : Int) : Option (Int × Bool) :=
  if (decide (a2 < 0)) = true then
    some (0, false)
  else
    if (decide (a2 ≥ (a1.irbs.length : Int))) = true then
      some (0, false)
    else
      (names_Right a1).bind fun r6 =>
      if (!r6) = true then
        some (0, false)
      else
        (route_lookup a1 a2 a3).bind fun r9 =>
        some (r9.1, r9.2)

def choose_Address_1 (a1 : Api_Irb) (a2 : Int) : Option (Bool) :=
  some (a1.net.addr == a2)

def slices_IndexFunc_Irb_Address_1_L1 (a1 : List Api_Irb) (a2 : Int) (v3 : Int) : Option ((Int) ⊕ (Int ⊕ Unit)) :=
  if (decide (v3 < (a1.length : Int))) = true then
    (nth a1 v3).bind fun x5 =>
    (choose_Address_1 x5 a2).bind fun r7 =>
    if (r7) = true then
      some (Sum.inr (Sum.inl v3))
    else
      some (Sum.inl (wr_i64 (v3 + 1)))
  else
    some (Sum.inr (Sum.inr ()))

def slices_IndexFunc_Irb_Address_1 (a1 : List Api_Irb) (a2 : Int) : Option (Int) :=
  (loopM (slices_IndexFunc_Irb_Address_1_L1 a1 a2) 0).bind fun r13 => match r13 with
  | Sum.inl v11 =>
    some v11
  | Sum.inr () =>
    some (-1)

def slices_ContainsFunc_Irb_Address_1 (a1 : List Api_Irb) (a2 : Int) : Option (Bool) :=
  (slices_IndexFunc_Irb_Address_1 a1 a2).bind fun r3 =>
  some (decide (r3 ≥ 0))

def choose_past_1 (a1 : Api_Irb) (a2 : Int) : Option (Bool) :=
  some (a1.net.addr == a2)

def slices_IndexFunc_Irb_past_1_L1 (a1 : List Api_Irb) (a2 : Int) (v3 : Int) : Option ((Int) ⊕ (Int ⊕ Unit)) :=
  if (decide (v3 < (a1.length : Int))) = true then
    (nth a1 v3).bind fun x5 =>
    (choose_past_1 x5 a2).bind fun r7 =>
    if (r7) = true then
      some (Sum.inr (Sum.inl v3))
    else
      some (Sum.inl (wr_i64 (v3 + 1)))
  else
    some (Sum.inr (Sum.inr ()))

def slices_IndexFunc_Irb_past_1 (a1 : List Api_Irb) (a2 : Int) : Option (Int) :=
  (loopM (slices_IndexFunc_Irb_past_1_L1 a1 a2) 0).bind fun r13 => match r13 with
  | Sum.inl v11 =>
    some v11
  | Sum.inr () =>
    some (-1)

def slices_ContainsFunc_Irb_past_1 (a1 : List Api_Irb) (a2 : Int) : Option (Bool) :=
  (slices_IndexFunc_Irb_past_1 a1 a2).bind fun r3 =>
  some (decide (r3 ≥ 0))

def choose_past (a1 : Api_Net) (a2 : Int) (a3 : Int) : Option (Int) :=
  (slices_ContainsFunc_Irb_past_1 a1.irbs a2).bind fun r4 =>
  if (r4) = true then
    some (wr_i64 ((wr_i64 a2) + 1))
  else
    (nth a1.irbs a3).bind fun x7 =>
    (addr_Last x7.net).bind fun r9 =>
    some (wr_i64 ((wr_i64 r9) + 1))

def choose_Address_L1 (a1 : Api_Net) (a2 : Int) (a3 : Int) (r15 : Int) (v17 : Int) : Option ((Int) ⊕ (Int ⊕ Unit)) :=
  if (decide (v17 ≤ (wr_i64 r15))) = true then
    (route_Lookup a1 a2 (wr_u32 v17)).bind fun r19 =>
    (slices_ContainsFunc_Irb_Address_1 a1.irbs (wr_u32 v17)).bind fun r21 =>
    if (r19.2) = true then
      if (r19.1 == a3) = true then
        if (!r21) = true then
          some (Sum.inr (Sum.inl (wr_u32 v17)))
        else
          if (!r19.2) = true then
            (choose_past a1 (wr_u32 v17) r19.1).bind fun r27 =>
            some (Sum.inl r27)
          else
            (choose_past a1 (wr_u32 v17) r19.1).bind fun r29 =>
            some (Sum.inl r29)
      else
        if (!r19.2) = true then
          if (!r21) = true then
            some (Sum.inr (Sum.inr ()))
          else
            (choose_past a1 (wr_u32 v17) r19.1).bind fun r33 =>
            some (Sum.inl r33)
        else
          (choose_past a1 (wr_u32 v17) r19.1).bind fun r35 =>
          some (Sum.inl r35)
    else
      if (!r19.2) = true then
        if (!r21) = true then
          some (Sum.inr (Sum.inr ()))
        else
          (choose_past a1 (wr_u32 v17) r19.1).bind fun r39 =>
          some (Sum.inl r39)
      else
        (choose_past a1 (wr_u32 v17) r19.1).bind fun r41 =>
        some (Sum.inl r41)
  else
    some (Sum.inr (Sum.inr ()))

def choose_Address (a1 : Api_Net) (a2 : Int) (a3 : Int) : Option (Int × Bool) :=
  if (decide (a2 < 0)) = true then
    some (0, false)
  else
    if (decide (a3 < 0)) = true then
      some (0, false)
    else
      if (decide (a2 ≥ (a1.irbs.length : Int))) = true then
        some (0, false)
      else
        if (decide (a3 ≥ (a1.irbs.length : Int))) = true then
          some (0, false)
        else
          (names_Right a1).bind fun r8 =>
          if (!r8) = true then
            some (0, false)
          else
            (nth a1.irbs a3).bind fun x11 =>
            (addr_First x11.net).bind fun r13 =>
            (addr_Last x11.net).bind fun r15 =>
            (loopM (choose_Address_L1 a1 a2 a3 r15) (wr_i64 r13)).bind fun r46 => match r46 with
            | Sum.inl v44 =>
              some (v44, true)
            | Sum.inr () =>
              some (0, false)

def choose_Routes_L1 (a1 : Api_Net) (a2 : Int) (l11 : List Choose_Lead) (v12 : Int) : Option (((List Choose_Lead) × Int) ⊕ ((List Choose_Lead))) :=
  if (decide (v12 < (a1.irbs.length : Int))) = true then
    (nth a1.irbs v12).bind fun x14 =>
    (nth a1.domains a2).bind fun x16 =>
    (choose_Address a1 x16.irb v12).bind fun r18 =>
    if (r18.2) = true then
      if (roomy 24 (l11 ++ [(⟨v12, x14.domain, r18.1⟩ : Choose_Lead)])) = true then
        some (Sum.inl (l11 ++ [(⟨v12, x14.domain, r18.1⟩ : Choose_Lead)], wr_i64 (v12 + 1)))
      else
        none
    else
      some (Sum.inl (l11, wr_i64 (v12 + 1)))
  else
    some (Sum.inr l11)

def choose_Routes (a1 : Api_Net) (a2 : Int) : Option (((List Choose_Lead))) :=
  if (decide (a2 < 0)) = true then
    some []
  else
    if (decide (a2 ≥ (a1.domains.length : Int))) = true then
      some []
    else
      (nth a1.domains a2).bind fun x5 =>
      if (decide (x5.irb < 0)) = true then
        some []
      else
        (names_Right a1).bind fun r8 =>
        if (!r8) = true then
          some []
        else
          (loopM (fun s : (List Choose_Lead) × Int => match s with | (l11, v12) => choose_Routes_L1 a1 a2 l11 v12) ([], 0)).bind fun r26 => match r26 with
          | l24 =>
            some l24

def palinglaw36_works : Option (Bool) :=
  (choose_Address (⟨[(⟨0, 0, (⟨#[97]⟩ : ByteArray), 0, 0⟩ : Api_Device)], [], [], [(⟨0, 10, 0, 0, 0, []⟩ : Api_Domain), (⟨0, 20, 0, 1, 0, []⟩ : Api_Domain)], [], [], [(⟨0, 0, (⟨#[114, 101, 100]⟩ : ByteArray), [], []⟩ : Api_Vrf)], [(⟨0, 0, 0, (⟨167772161, 24⟩ : Api_Prefix)⟩ : Api_Irb), (⟨0, 1, 0, (⟨167772417, 24⟩ : Api_Prefix)⟩ : Api_Irb)]⟩ : Api_Net) 0 1).bind fun r1 =>
  (choose_Routes (⟨[(⟨0, 0, (⟨#[97]⟩ : ByteArray), 0, 0⟩ : Api_Device)], [], [], [(⟨0, 10, 0, 0, 0, []⟩ : Api_Domain), (⟨0, 20, 0, 1, 0, []⟩ : Api_Domain)], [], [], [(⟨0, 0, (⟨#[114, 101, 100]⟩ : ByteArray), [], []⟩ : Api_Vrf)], [(⟨0, 0, 0, (⟨167772161, 24⟩ : Api_Prefix)⟩ : Api_Irb), (⟨0, 1, 0, (⟨167772417, 24⟩ : Api_Prefix)⟩ : Api_Irb)]⟩ : Api_Net) 0).bind fun r3 => match r3 with
  | l5 =>
    (choose_Address (⟨[(⟨0, 0, (⟨#[97]⟩ : ByteArray), 0, 0⟩ : Api_Device)], [], [], [(⟨0, 10, 0, 0, 0, []⟩ : Api_Domain), (⟨0, 20, 0, 1, 0, []⟩ : Api_Domain)], [], [], [(⟨0, 0, (⟨#[114, 101, 100]⟩ : ByteArray), [], []⟩ : Api_Vrf)], [(⟨0, 0, 0, (⟨167772161, 24⟩ : Api_Prefix)⟩ : Api_Irb), (⟨0, 1, 0, (⟨167772417, 24⟩ : Api_Prefix)⟩ : Api_Irb)]⟩ : Api_Net) 0 2).bind fun r6 =>
    if (r1.2) = true then
      if (r1.1 == 167772416) = true then
        if (((List.length l5) : Int) == 2) = true then
          if (lin l5 1) = true then
            (l5[(Int.toNat 1)]?).bind fun x12 =>
            if (x12.domain == 1) = true then
              if (lin l5 0) = true then
                (l5[(Int.toNat 0)]?).bind fun x16 =>
                if (x16.addr == 167772160) = true then
                  some (!r6.2)
                else
                  some false
              else
                none
            else
              some false
          else
            none
        else
          some false
      else
        some false
    else
      some false

def palingref02_Right (a1 : Api_Prefix) : Option (Bool) :=
  if (decide (a1.bits ≥ 0)) = true then
    some (decide (a1.bits ≤ 32))
  else
    some false

def palingref02_size_L1 (v2 : Int) (v3 : Int) : Option ((Int × Int) ⊕ (Int)) :=
  if (decide (v3 < 32)) = true then
    some (Sum.inl (wr_i64 (v2 * 2), wr_i64 (v3 + 1)))
  else
    some (Sum.inr v2)

def palingref02_size (a1 : Api_Prefix) : Option (Int) :=
  (loopM (fun s : Int × Int => match s with | (v2, v3) => palingref02_size_L1 v2 v3) (1, a1.bits)).bind fun r8 => match r8 with
  | v6 =>
    some v6

def palingref02_First (a1 : Api_Prefix) : Option (Int) :=
  (palingref02_Right a1).bind fun r2 =>
  if (!r2) = true then
    some 0
  else
    (palingref02_size a1).bind fun r5 =>
    if (r5 != 0) = true then
      (palingref02_size a1).bind fun r8 =>
      some (wr_u32 (wr_i64 ((wr_i64 (Int.tdiv (wr_i64 a1.addr) r5)) * r8)))
    else
      none

def palingref02_Last (a1 : Api_Prefix) : Option (Int) :=
  (palingref02_Right a1).bind fun r2 =>
  if (!r2) = true then
    some 0
  else
    (palingref02_First a1).bind fun r5 =>
    (palingref02_size a1).bind fun r7 =>
    some (wr_u32 (wr_i64 ((wr_i64 ((wr_i64 r5) + r7)) - 1)))

def palingref30_device (a1 : Api_Net) (a2 : Int) : Option (Int) :=
  (nth a1.irbs a2).bind fun x3 =>
  (nth a1.domains x3.domain).bind fun x5 =>
  some x5.dev

def palingref02_Has (a1 : Api_Prefix) (a2 : Int) : Option (Bool) :=
  (palingref02_Right a1).bind fun r3 =>
  if (r3) = true then
    (palingref02_First a1).bind fun r6 =>
    if (decide (a2 ≥ r6)) = true then
      (palingref02_Last a1).bind fun r9 =>
      some (decide (a2 ≤ r9))
    else
      some false
  else
    some false

def palingref20_Leaks_L1 (a1 : Api_Net) (a2 : Int) (a3 : Int) (v11 : Int) : Option ((Int) ⊕ (Unit ⊕ Unit)) :=
  (nth a1.vrfs a2).bind fun x12 =>
  if (decide (v11 < (x12.exports.length : Int))) = true then
    (nth a1.vrfs a2).bind fun x15 =>
    (nth a1.vrfs a3).bind fun x17 =>
    if (x15.dev == x17.dev) = true then
      (nth a1.vrfs a3).bind fun x20 =>
      (nth a1.vrfs a2).bind fun x22 =>
      (nth x22.exports v11).bind fun x24 =>
      (palingref15_In x20.imports x24).bind fun r26 =>
      if (r26) = true then
        some (Sum.inr (Sum.inl ()))
      else
        some (Sum.inl (wr_i64 (v11 + 1)))
    else
      some (Sum.inl (wr_i64 (v11 + 1)))
  else
    some (Sum.inr (Sum.inr ()))

def palingref20_Leaks (a1 : Api_Net) (a2 : Int) (a3 : Int) : Option (Bool) :=
  (palingref15_Place a2 (a1.vrfs.length : Int)).bind fun r4 =>
  if (!r4) = true then
    some false
  else
    (palingref15_Place a3 (a1.vrfs.length : Int)).bind fun r7 =>
    if (!r7) = true then
      some false
    else
      if (a2 == a3) = true then
        some true
      else
        (loopM (palingref20_Leaks_L1 a1 a2 a3) 0).bind fun r30 => match r30 with
        | Sum.inl () =>
          some true
        | Sum.inr () =>
          some false

def palingref30_better (a1 : Api_Net) (a2 : Int) (a3 : Int) (a4 : Int) : Option (Bool) :=
  (nth a1.irbs a3).bind fun x5 =>
  (nth a1.irbs a4).bind fun x7 =>
  if (x5.net.bits != x7.net.bits) = true then
    (nth a1.irbs a3).bind fun x10 =>
    (nth a1.irbs a4).bind fun x12 =>
    some (decide (x10.net.bits > x12.net.bits))
  else
    (nth a1.irbs a3).bind fun x14 =>
    (nth a1.irbs a2).bind fun x16 =>
    if (x14.vrf == x16.vrf) = true then
      (nth a1.irbs a4).bind fun x19 =>
      (nth a1.irbs a2).bind fun x21 =>
      some (x19.vrf != x21.vrf)
    else
      some false

def palingref30_Lookup_L1 (a1 : Api_Net) (a2 : Int) (a3 : Int) (v7 : Int) (v8 : Int) : Option ((Int × Int) ⊕ (Unit ⊕ Int)) :=
  if (decide (v8 < (a1.irbs.length : Int))) = true then
    (palingref30_device a1 v8).bind fun r10 =>
    (palingref30_device a1 a2).bind fun r12 =>
    if (r10 != r12) = true then
      some (Sum.inl (v7, wr_i64 (v8 + 1)))
    else
      (nth a1.irbs v8).bind fun x15 =>
      if (x15.net.addr == a3) = true then
        some (Sum.inr (Sum.inl ()))
      else
        (nth a1.irbs v8).bind fun x18 =>
        (palingref02_Has x18.net a3).bind fun r20 =>
        if (!r20) = true then
          some (Sum.inl (v7, wr_i64 (v8 + 1)))
        else
          (nth a1.irbs v8).bind fun x23 =>
          (nth a1.irbs a2).bind fun x25 =>
          (palingref20_Leaks a1 x23.vrf x25.vrf).bind fun r27 =>
          if (!r27) = true then
            some (Sum.inl (v7, wr_i64 (v8 + 1)))
          else
            if (decide (v7 < 0)) = true then
              some (Sum.inl (v8, wr_i64 (v8 + 1)))
            else
              (palingref30_better a1 a2 v8 v7).bind fun r31 =>
              if (r31) = true then
                some (Sum.inl (v8, wr_i64 (v8 + 1)))
              else
                some (Sum.inl (v7, wr_i64 (v8 + 1)))
  else
    some (Sum.inr (Sum.inr v7))

def palingref30_Lookup (a1 : Api_Net) (a2 : Int) (a3 : Int) : Option (Int × Bool) :=
  (palingref15_Place a2 (a1.irbs.length : Int)).bind fun r4 =>
  if (!r4) = true then
    some (0, false)
  else
    (loopM (fun s : Int × Int => match s with | (v7, v8) => palingref30_Lookup_L1 a1 a2 a3 v7 v8) ((-1), 0)).bind fun r37 => match r37 with
    | Sum.inl () =>
      some (0, false)
    | Sum.inr v35 =>
      if (decide (v35 < 0)) = true then
        some (0, false)
      else
        some (v35, true)

def palingref36_taken_L1 (a1 : Api_Net) (a2 : Int) (v3 : Int) : Option ((Int) ⊕ (Unit ⊕ Unit)) :=
  if (decide (v3 < (a1.irbs.length : Int))) = true then
    (nth a1.irbs v3).bind fun x5 =>
    if (x5.net.addr == a2) = true then
      some (Sum.inr (Sum.inl ()))
    else
      some (Sum.inl (wr_i64 (v3 + 1)))
  else
    some (Sum.inr (Sum.inr ()))

def palingref36_taken (a1 : Api_Net) (a2 : Int) : Option (Bool) :=
  (loopM (palingref36_taken_L1 a1 a2) 0).bind fun r9 => match r9 with
  | Sum.inl () =>
    some true
  | Sum.inr () =>
    some false

def palingref36_Leads (a1 : Api_Net) (a2 : Int) (a3 : Int) (a4 : Int) : Option (Bool) :=
  (palingref30_Lookup a1 a2 a4).bind fun r5 =>
  if (r5.2) = true then
    if (r5.1 == a3) = true then
      (palingref36_taken a1 a4).bind fun r9 =>
      some (!r9)
    else
      some false
  else
    some false

def palingref36_Address_L1 (a1 : Api_Net) (a2 : Int) (a3 : Int) (l14 : List Int) (v15 : Int) : Option (((List Int) × Int) ⊕ ((List Int))) :=
  if (decide (v15 < (a1.irbs.length : Int))) = true then
    (nth a1.irbs v15).bind fun x17 =>
    (nth a1.irbs v15).bind fun x19 =>
    (palingref02_Last x19.net).bind fun r21 =>
    if (roomy 8 (l14 ++ [(wr_i64 ((wr_i64 x17.net.addr) + 1) : Int), (wr_i64 ((wr_i64 r21) + 1) : Int)])) = true then
      some (Sum.inl (l14 ++ [(wr_i64 ((wr_i64 x17.net.addr) + 1) : Int), (wr_i64 ((wr_i64 r21) + 1) : Int)], wr_i64 (v15 + 1)))
    else
      none
  else
    some (Sum.inr l14)

def palingref36_Address_L2 (a1 : Api_Net) (a2 : Int) (a3 : Int) (l31 : List Int) (v34 : Int) (v35 : Int) : Option ((Int × Int) ⊕ (Int)) :=
  if (decide (v35 < ((List.length l31) : Int))) = true then
    if (lin l31 v35) = true then
      (l31[(Int.toNat v35)]?).bind fun x38 =>
      if (decide (x38 < 4294967296)) = true then
        if (decide (v34 < 0)) = true then
          (palingref36_Leads a1 a2 a3 (wr_u32 x38)).bind fun r42 =>
          if (r42) = true then
            some (Sum.inl (x38, wr_i64 (v35 + 1)))
          else
            some (Sum.inl (v34, wr_i64 (v35 + 1)))
        else
          if (decide (x38 < v34)) = true then
            (palingref36_Leads a1 a2 a3 (wr_u32 x38)).bind fun r46 =>
            if (r46) = true then
              some (Sum.inl (x38, wr_i64 (v35 + 1)))
            else
              some (Sum.inl (v34, wr_i64 (v35 + 1)))
          else
            some (Sum.inl (v34, wr_i64 (v35 + 1)))
      else
        some (Sum.inl (v34, wr_i64 (v35 + 1)))
    else
      none
  else
    some (Sum.inr v34)

def palingref36_Address (a1 : Api_Net) (a2 : Int) (a3 : Int) : Option (Int × Bool) :=
  (palingref15_Place a2 (a1.irbs.length : Int)).bind fun r4 =>
  if (!r4) = true then
    some (0, false)
  else
    (palingref15_Place a3 (a1.irbs.length : Int)).bind fun r7 =>
    if (!r7) = true then
      some (0, false)
    else
      (nth a1.irbs a3).bind fun x10 =>
      (palingref02_First x10.net).bind fun r12 =>
      (loopM (fun s : (List Int) × Int => match s with | (l14, v15) => palingref36_Address_L1 a1 a2 a3 l14 v15) ([(wr_i64 r12 : Int)], 0)).bind fun r33 => match r33 with
      | l31 =>
        (loopM (fun s : Int × Int => match s with | (v34, v35) => palingref36_Address_L2 a1 a2 a3 l31 v34 v35) ((-1), 0)).bind fun r52 => match r52 with
        | v50 =>
          if (decide (v50 < 0)) = true then
            some (0, false)
          else
            some (wr_u32 v50, true)

def palingref36_Routes_L1 (a1 : Api_Net) (a2 : Int) (l9 : List Palingref36_Lead) (v10 : Int) : Option (((List Palingref36_Lead) × Int) ⊕ ((List Palingref36_Lead))) :=
  if (decide (v10 < (a1.irbs.length : Int))) = true then
    (nth a1.domains a2).bind fun x12 =>
    (palingref36_Address a1 x12.irb v10).bind fun r14 =>
    if (r14.2) = true then
      (nth a1.irbs v10).bind fun x17 =>
      if (roomy 24 (l9 ++ [(⟨v10, x17.domain, r14.1⟩ : Palingref36_Lead)])) = true then
        some (Sum.inl (l9 ++ [(⟨v10, x17.domain, r14.1⟩ : Palingref36_Lead)], wr_i64 (v10 + 1)))
      else
        none
    else
      some (Sum.inl (l9, wr_i64 (v10 + 1)))
  else
    some (Sum.inr l9)

def palingref36_Routes (a1 : Api_Net) (a2 : Int) : Option (((List Palingref36_Lead))) :=
  (palingref15_Place a2 (a1.domains.length : Int)).bind fun r3 =>
  if (!r3) = true then
    some []
  else
    (nth a1.domains a2).bind fun x6 =>
    if (x6.irb == (-1)) = true then
      some []
    else
      (loopM (fun s : (List Palingref36_Lead) × Int => match s with | (l9, v10) => palingref36_Routes_L1 a1 a2 l9 v10) ([], 0)).bind fun r24 => match r24 with
      | l22 =>
        some l22

def palinglaw36_ChooseTells_L1 (l13 : List Choose_Lead) (l26 : List Palingref36_Lead) (v30 : Int) : Option ((Int) ⊕ (Unit ⊕ Unit)) :=
  if (decide (v30 < ((List.length l13) : Int))) = true then
    if (lin l13 v30) = true then
      (l13[(Int.toNat v30)]?).bind fun x33 =>
      if (lin l26 v30) = true then
        (l26[(Int.toNat v30)]?).bind fun x36 =>
        if (!(eq_Palingref36_Lead (⟨x33.to, x33.domain, x33.addr⟩ : Palingref36_Lead) x36)) = true then
          some (Sum.inr (Sum.inl ()))
        else
          some (Sum.inl (wr_i64 (v30 + 1)))
      else
        none
    else
      none
  else
    some (Sum.inr (Sum.inr ()))

def palinglaw36_ChooseTells (a1 : Api_Net) (a2 : Int) (a3 : Int) : Option (Bool) :=
  (palinglaw15_Great a1).bind fun r4 =>
  if (r4) = true then
    (palinglaw36_works).bind fun r7 =>
    some r7
  else
    (choose_Address a1 a2 a3).bind fun r9 =>
    (choose_Routes a1 a2).bind fun r11 => match r11 with
    | l13 =>
      (palingref15_Right a1).bind fun r14 =>
      if (!r14) = true then
        if (r9.1 == 0) = true then
          if (!r9.2) = true then
            if (((List.length l13) : Int) == 0) = true then
              (palinglaw36_works).bind fun r20 =>
              some r20
            else
              some false
          else
            some false
        else
          some false
      else
        (palingref36_Address a1 a2 a3).bind fun r22 =>
        (palingref36_Routes a1 a2).bind fun r24 => match r24 with
        | l26 =>
          if (r9.1 != r22.1) = true then
            some false
          else
            if (!(r9.2 == r22.2)) = true then
              some false
            else
              if (((List.length l13) : Int) != ((List.length l26) : Int)) = true then
                some false
              else
                (loopM (palinglaw36_ChooseTells_L1 l13 l26) 0).bind fun r40 => match r40 with
                | Sum.inl () =>
                  some false
                | Sum.inr () =>
                  (palinglaw36_works).bind fun r41 =>
                  some r41

def palinglaw36_ChooseLeads_L1 (a1 : Api_Net) (a2 : Int) (a3 : Int) (a4 : Int) (r13 : Int × Bool) (r15 : Int × Bool) (v17 : Bool) (v18 : Bool) (v19 : Int) : Option ((Bool × Bool × Int) ⊕ ((Bool × Bool))) :=
  if (decide (v19 < (a1.irbs.length : Int))) = true then
    (nth a1.irbs v19).bind fun x21 =>
    if (v17) = true then
      if (v18) = true then
        some (Sum.inl (true, true, wr_i64 (v19 + 1)))
      else
        some (Sum.inl (true, x21.net.addr == r13.1, wr_i64 (v19 + 1)))
    else
      if (v18) = true then
        some (Sum.inl (x21.net.addr == a4, true, wr_i64 (v19 + 1)))
      else
        some (Sum.inl (x21.net.addr == a4, x21.net.addr == r13.1, wr_i64 (v19 + 1)))
  else
    some (Sum.inr (v17, v18))

def palinglaw36_ChooseLeads (a1 : Api_Net) (a2 : Int) (a3 : Int) (a4 : Int) : Option (Bool) :=
  (palinglaw36_works).bind fun r5 =>
  if (!r5) = true then
    some false
  else
    (palinglaw15_Great a1).bind fun r8 =>
    if (r8) = true then
      some true
    else
      if (decide (a3 < 0)) = true then
        some true
      else
        if (decide (a3 ≥ (a1.irbs.length : Int))) = true then
          some true
        else
          (choose_Address a1 a2 a3).bind fun r13 =>
          (route_Lookup a1 a2 a4).bind fun r15 =>
          (loopM (fun s : Bool × Bool × Int => match s with | (v17, v18, v19) => palinglaw36_ChooseLeads_L1 a1 a2 a3 a4 r13 r15 v17 v18 v19) (false, false, 0)).bind fun r31 => match r31 with
          | (v28, v29) =>
            if (!r13.2) = true then
              if (r13.1 == 0) = true then
                if (!r15.2) = true then
                  some true
                else
                  if (r15.1 != a3) = true then
                    some true
                  else
                    some v28
              else
                some false
            else
              (route_Lookup a1 a2 r13.1).bind fun r36 =>
              if (r36.2) = true then
                if (r36.1 == a3) = true then
                  if (!v29) = true then
                    if (decide (a4 ≥ r13.1)) = true then
                      some true
                    else
                      if (!r15.2) = true then
                        some true
                      else
                        if (r15.1 != a3) = true then
                          some true
                        else
                          some v28
                  else
                    some false
                else
                  some false
              else
                some false

def palingref15_Members_L1 (a1 : Api_Net) (x6 : Api_Domain) (l8 : List Int) (v9 : Int) : Option (((List Int) × Int) ⊕ ((List Int))) :=
  if (decide (v9 < (a1.ports.length : Int))) = true then
    (nth a1.ports v9).bind fun x11 =>
    if (x11.dev == x6.dev) = true then
      (nth a1.ports v9).bind fun x14 =>
      (palingref15_Member x14 x6.vlan).bind fun r16 =>
      if (r16) = true then
        if (roomy 8 (l8 ++ [v9])) = true then
          some (Sum.inl (l8 ++ [v9], wr_i64 (v9 + 1)))
        else
          none
      else
        some (Sum.inl (l8, wr_i64 (v9 + 1)))
    else
      some (Sum.inl (l8, wr_i64 (v9 + 1)))
  else
    some (Sum.inr l8)

def palingref15_Members (a1 : Api_Net) (a2 : Int) : Option (((List Int))) :=
  (palingref15_Place a2 (a1.domains.length : Int)).bind fun r3 =>
  if (!r3) = true then
    some []
  else
    (nth a1.domains a2).bind fun x6 =>
    (loopM (fun s : (List Int) × Int => match s with | (l8, v9) => palingref15_Members_L1 a1 x6 l8 v9) ([], 0)).bind fun r24 => match r24 with
    | l22 =>
      some l22

def palingref29_fits (a1 : Api_Net) (a2 : List Bool) (a3 : Int) (a4 : Int) : Option (Bool) :=
  (palingref15_Right a1).bind fun r5 =>
  if (!r5) = true then
    some false
  else
    if ((a2.length : Int) != (a1.links.length : Int)) = true then
      some false
    else
      (palingref15_Place a3 (a1.domains.length : Int)).bind fun r9 =>
      if (!r9) = true then
        some false
      else
        if (a4 == (-1)) = true then
          some true
        else
          if (a4 == (-2)) = true then
            some true
          else
            (palingref15_Members a1 a3).bind fun r14 => match r14 with
            | l16 =>
              (palingref15_In l16 a4).bind fun r17 =>
              some r17

def palingref29_Flood_L1 (a1 : Api_Net) (a2 : List Bool) (a3 : Int) (a4 : Int) (l10 : List Int) (l11 : List Int) (v12 : Int) : Option (((List Int) × Int) ⊕ ((List Int))) :=
  if (decide (v12 < ((List.length l10) : Int))) = true then
    if (lin l10 v12) = true then
      (l10[(Int.toNat v12)]?).bind fun x15 =>
      if (x15 != a4) = true then
        (l10[(Int.toNat v12)]?).bind fun x18 =>
        (palingref29_Usable a1 a2 x18).bind fun r20 =>
        if (r20) = true then
          (l10[(Int.toNat v12)]?).bind fun x23 =>
          if (roomy 8 (l11 ++ [x23])) = true then
            some (Sum.inl (l11 ++ [x23], wr_i64 (v12 + 1)))
          else
            none
        else
          some (Sum.inl (l11, wr_i64 (v12 + 1)))
      else
        some (Sum.inl (l11, wr_i64 (v12 + 1)))
    else
      none
  else
    some (Sum.inr l11)

def palingref29_Flood (a1 : Api_Net) (a2 : List Bool) (a3 : Int) (a4 : Int) : Option (((List Int) × (List Int) × Int)) :=
  (palingref29_fits a1 a2 a3 a4).bind fun r5 =>
  if (!r5) = true then
    some ([], [], 2)
  else
    (palingref15_Members a1 a3).bind fun r8 => match r8 with
    | l10 =>
      (loopM (fun s : (List Int) × Int => match s with | (l11, v12) => palingref29_Flood_L1 a1 a2 a3 a4 l10 l11 v12) ([], 0)).bind fun r35 => match r35 with
      | l33 =>
        if (a4 == (-1)) = true then
          some (l33, [], 0)
        else
          (nth a1.domains a3).bind fun x37 =>
          some (l33, x37.peers, 0)

def palingref01_Bytes_L2 (a1 : Int) (l2 : List Int) (v3 : Int) (v5 : Int) (v6 : Int) : Option ((Int × Int) ⊕ (Int)) :=
  if (decide (v6 < v3)) = true then
    some (Sum.inl (wr_u64 (Int.tdiv v5 256), wr_i64 (v6 + 1)))
  else
    some (Sum.inr v5)

def palingref01_Bytes_L1 (a1 : Int) (l2 : List Int) (v3 : Int) : Option (((List Int) × Int) ⊕ ((List Int))) :=
  if (decide (v3 ≥ 0)) = true then
    (loopM (fun s : Int × Int => match s with | (v5, v6) => palingref01_Bytes_L2 a1 l2 v3 v5 v6) (a1, 0)).bind fun r11 => match r11 with
    | v9 =>
      if (roomy 1 (l2 ++ [(wr_u8 (Int.tmod v9 256) : Int)])) = true then
        some (Sum.inl (l2 ++ [(wr_u8 (Int.tmod v9 256) : Int)], wr_i64 (v3 - 1)))
      else
        none
  else
    some (Sum.inr l2)

def palingref01_Bytes (a1 : Int) : Option (((List Int))) :=
  (loopM (fun s : (List Int) × Int => match s with | (l2, v3) => palingref01_Bytes_L1 a1 l2 v3) ([], 5)).bind fun r17 => match r17 with
  | l15 =>
    some l15

def palingref01_Group (a1 : Int) : Option (Bool) :=
  (palingref01_Bytes a1).bind fun r2 => match r2 with
  | l4 =>
    if (lin l4 0) = true then
      (l4[(Int.toNat 0)]?).bind fun x6 =>
      some ((Int.tmod x6 2) == 1)
    else
      none

def palingref18_Lookup_L1 (a1 : Api_Net) (a2 : Int) (a3 : Int) (v4 : Int) : Option ((Int) ⊕ (Int ⊕ Unit)) :=
  if (decide (v4 < (a1.statics.length : Int))) = true then
    (nth a1.statics v4).bind fun x6 =>
    if (x6.domain == a2) = true then
      (nth a1.statics v4).bind fun x9 =>
      if (x9.mac == a3) = true then
        (nth a1.statics v4).bind fun x12 =>
        some (Sum.inr (Sum.inl x12.port))
      else
        some (Sum.inl (wr_i64 (v4 + 1)))
    else
      some (Sum.inl (wr_i64 (v4 + 1)))
  else
    some (Sum.inr (Sum.inr ()))

def palingref18_Lookup (a1 : Api_Net) (a2 : Int) (a3 : Int) : Option (Int) :=
  (loopM (palingref18_Lookup_L1 a1 a2 a3) 0).bind fun r17 => match r17 with
  | Sum.inl v15 =>
    some v15
  | Sum.inr () =>
    some (-1)

def palingref29_one (a1 : Api_Net) (a2 : List Bool) (a3 : Int) (a4 : Int) : Option (((List Int))) :=
  if (a3 == a4) = true then
    some []
  else
    (palingref29_Usable a1 a2 a3).bind fun r6 =>
    if (!r6) = true then
      some []
    else
      some [a3]

def palingref26_Find_L1 (a1 : List Api_Entry) (a2 : Int) (v3 : Int) : Option ((Int) ⊕ (Int ⊕ Unit)) :=
  if (decide (v3 < (a1.length : Int))) = true then
    (nth a1 v3).bind fun x5 =>
    if (x5.mac == a2) = true then
      (nth a1 v3).bind fun x8 =>
      some (Sum.inr (Sum.inl x8.where_))
    else
      some (Sum.inl (wr_i64 (v3 + 1)))
  else
    some (Sum.inr (Sum.inr ()))

def palingref26_Find (a1 : List Api_Entry) (a2 : Int) : Option (Int × Bool) :=
  (loopM (palingref26_Find_L1 a1 a2) 0).bind fun r13 => match r13 with
  | Sum.inl v11 =>
    some (v11, true)
  | Sum.inr () =>
    some (0, false)

def palingref29_Decide_J1 (a1 : Api_Net) (a2 : List Bool) (a4 : Int) (a5 : Int) (l9 : List Int) (l10 : List Int) (r22 : Int × Bool) : Option ((List Int) ⊕ Unit) :=
  if (r22.2) = true then
    (palingref15_Members a1 a4).bind fun r25 => match r25 with
    | l27 =>
      (palingref15_In l27 r22.1).bind fun r28 =>
      if (r28) = true then
        (palingref29_one a1 a2 r22.1 a5).bind fun r31 => match r31 with
        | l33 =>
          some (Sum.inl l33)
      else
        some (Sum.inr ())
  else
    some (Sum.inr ())

def palingref29_Decide_J2 (a1 : Api_Net) (a4 : Int) (a5 : Int) (l9 : List Int) (l10 : List Int) (r22 : Int × Bool) : Option (Bool) :=
  if (r22.2) = true then
    if (decide (r22.1 < 0)) = true then
      (nth a1.domains a4).bind fun x42 =>
      (palingref15_In x42.peers (wr_i64 (0 - (wr_i64 (r22.1 + 1))))).bind fun r44 =>
      some r44
    else
      some false
  else
    some false

def palingref29_Decide (a1 : Api_Net) (a2 : List Bool) (a3 : List Api_Entry) (a4 : Int) (a5 : Int) (a6 : Int) : Option (((List Int) × (List Int) × Int)) :=
  (palingref29_Flood a1 a2 a4 a5).bind fun r7 => match r7 with
  | (l9, l10, v11) =>
    if (v11 != 0) = true then
      some (l9, l10, v11)
    else
      (palingref01_Group a6).bind fun r13 =>
      if (r13) = true then
        some (l9, l10, v11)
      else
        (palingref18_Lookup a1 a4 a6).bind fun r16 =>
        if (decide (r16 ≥ 0)) = true then
          (palingref29_one a1 a2 r16 a5).bind fun r19 => match r19 with
          | l21 =>
            some (l21, [], 0)
        else
          (palingref26_Find a3 a6).bind fun r22 =>
          (palingref29_Decide_J1 a1 a2 a4 a5 l9 l10 r22).bind fun r39 => match r39 with
          | Sum.inl l37 =>
            some (l37, [], 0)
          | Sum.inr () =>
            (palingref29_Decide_J2 a1 a4 a5 l9 l10 r22).bind fun r49 => match r49 with
            | v47 =>
              if (v47) = true then
                if (a5 == (-1)) = true then
                  some ([], [], 0)
                else
                  some ([], [(wr_i64 (0 - (wr_i64 (r22.1 + 1))) : Int)], 0)
              else
                some (l9, l10, 0)

def palinglaw29_LookupDecides (a1 : Api_Net) (a2 : List Bool) (a3 : List Api_Entry) (a4 : Int) (a5 : Int) (a6 : Int) : Option (Bool) :=
  (palinglaw15_Great a1).bind fun r7 =>
  if (r7) = true then
    (palinglaw29_works).bind fun r10 =>
    some r10
  else
    if (decide ((a2.length : Int) > 200)) = true then
      (palinglaw29_works).bind fun r13 =>
      some r13
    else
      if (decide ((a3.length : Int) > 200)) = true then
        (palinglaw29_works).bind fun r16 =>
        some r16
      else
        (lookup_Decide a1 a2 a3 a4 a5 a6).bind fun r18 => match r18 with
        | (l20, l21, v22) =>
          (palingref29_Decide a1 a2 a3 a4 a5 a6).bind fun r23 => match r23 with
          | (l25, l26, v27) =>
            (palingref03_Ints l20 l25).bind fun r28 =>
            if (!r28) = true then
              some false
            else
              (palingref03_Ints l21 l26).bind fun r31 =>
              if (!r31) = true then
                some false
              else
                if (v22 != v27) = true then
                  some false
                else
                  (lookup_Flood a1 a2 a4 a5).bind fun r35 => match r35 with
                  | (l37, l38, v39) =>
                    (palingref29_Flood a1 a2 a4 a5).bind fun r40 => match r40 with
                    | (l42, l43, v44) =>
                      (palingref03_Ints l37 l42).bind fun r45 =>
                      if (r45) = true then
                        (palingref03_Ints l38 l43).bind fun r48 =>
                        if (r48) = true then
                          if (v39 == v44) = true then
                            (palinglaw29_works).bind fun r52 =>
                            some r52
                          else
                            some false
                        else
                          some false
                      else
                        some false

end Go.Eng
