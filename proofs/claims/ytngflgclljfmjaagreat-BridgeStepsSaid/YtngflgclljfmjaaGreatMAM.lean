/- Part of the proof of BridgeSteps: printed mirrors of the functions, or their contracts. No conditions. -/
import Derived.Test.YtngflgclljfmjaaGreatEng14
set_option linter.unusedVariables false
set_option maxRecDepth 100000
namespace Go.Eng
open Go
structure Api_Device where
  row : Int
  priority : Int
  name : ByteArray
  mac : Int
  vtep : Int
  deriving DecidableEq, Inhabited

def Api_Device.Ok (x : Api_Device) : Prop := (okI .i64) x.row ∧ (okI .i64) x.priority ∧ okS x.name ∧ (okI .u64) x.mac ∧ (okI .u32) x.vtep ∧ True

structure Api_Port where
  row : Int
  dev : Int
  native : Int
  cost : Int
  link : Int
  name : ByteArray
  tagged : List Int
  deriving DecidableEq, Inhabited

def Api_Port.Ok (x : Api_Port) : Prop := (okI .i64) x.row ∧ (okI .i64) x.dev ∧ (okI .i64) x.native ∧ (okI .i64) x.cost ∧ (okI .i64) x.link ∧ okS x.name ∧ (okL (okI .i64)) x.tagged ∧ True

structure Api_Link where
  row : Int
  a : Int
  b : Int
  deriving DecidableEq, Inhabited

def Api_Link.Ok (x : Api_Link) : Prop := (okI .i64) x.row ∧ (okI .i64) x.a ∧ (okI .i64) x.b ∧ True

structure Api_Domain where
  dev : Int
  vlan : Int
  vni : Int
  irb : Int
  row : Int
  peers : List Int
  deriving DecidableEq, Inhabited

def Api_Domain.Ok (x : Api_Domain) : Prop := (okI .i64) x.dev ∧ (okI .i64) x.vlan ∧ (okI .i64) x.vni ∧ (okI .i64) x.irb ∧ (okI .i64) x.row ∧ (okL (okI .i64)) x.peers ∧ True

structure Api_Static where
  row : Int
  domain : Int
  port : Int
  mac : Int
  deriving DecidableEq, Inhabited

def Api_Static.Ok (x : Api_Static) : Prop := (okI .i64) x.row ∧ (okI .i64) x.domain ∧ (okI .i64) x.port ∧ (okI .u64) x.mac ∧ True

structure Api_Flood where
  row : Int
  dev : Int
  vni : Int
  addrs : List Int
  deriving DecidableEq, Inhabited

def Api_Flood.Ok (x : Api_Flood) : Prop := (okI .i64) x.row ∧ (okI .i64) x.dev ∧ (okI .i64) x.vni ∧ (okL (okI .u32)) x.addrs ∧ True

structure Api_Vrf where
  row : Int
  dev : Int
  name : ByteArray
  imports : List Int
  exports : List Int
  deriving DecidableEq, Inhabited

def Api_Vrf.Ok (x : Api_Vrf) : Prop := (okI .i64) x.row ∧ (okI .i64) x.dev ∧ okS x.name ∧ (okL (okI .i64)) x.imports ∧ (okL (okI .i64)) x.exports ∧ True

structure Api_Prefix where
  addr : Int
  bits : Int
  deriving DecidableEq, Inhabited

def Api_Prefix.Ok (x : Api_Prefix) : Prop := (okI .u32) x.addr ∧ (okI .i64) x.bits ∧ True

structure Api_Irb where
  row : Int
  domain : Int
  vrf : Int
  net : Api_Prefix
  deriving DecidableEq, Inhabited

def Api_Irb.Ok (x : Api_Irb) : Prop := (okI .i64) x.row ∧ (okI .i64) x.domain ∧ (okI .i64) x.vrf ∧ Api_Prefix.Ok x.net ∧ True

structure Api_Net where
  devices : List Api_Device
  ports : List Api_Port
  links : List Api_Link
  domains : List Api_Domain
  statics : List Api_Static
  floods : List Api_Flood
  vrfs : List Api_Vrf
  irbs : List Api_Irb
  deriving DecidableEq, Inhabited

def Api_Net.Ok (x : Api_Net) : Prop := (okL Api_Device.Ok) x.devices ∧ (okL Api_Port.Ok) x.ports ∧ (okL Api_Link.Ok) x.links ∧ (okL Api_Domain.Ok) x.domains ∧ (okL Api_Static.Ok) x.statics ∧ (okL Api_Flood.Ok) x.floods ∧ (okL Api_Vrf.Ok) x.vrfs ∧ (okL Api_Irb.Ok) x.irbs ∧ True

structure Api_Entry where
  mac : Int
  where_ : Int
  seen : Int
  deriving DecidableEq, Inhabited

def Api_Entry.Ok (x : Api_Entry) : Prop := (okI .u64) x.mac ∧ (okI .i64) x.where_ ∧ (okI .i64) x.seen ∧ True

structure Api_Frame where
  dst : Int
  src : Int
  type_ : Int
  body : List Int
  deriving DecidableEq, Inhabited

def Api_Frame.Ok (x : Api_Frame) : Prop := (okI .u64) x.dst ∧ (okI .u64) x.src ∧ (okI .i64) x.type_ ∧ (okL (okI .u8)) x.body ∧ True

structure Api_Queued where
  from_ : Int
  peer : Int
  origin : Int
  frame : Api_Frame
  deriving DecidableEq, Inhabited

def Api_Queued.Ok (x : Api_Queued) : Prop := (okI .i64) x.from_ ∧ (okI .i64) x.peer ∧ (okI .i64) x.origin ∧ Api_Frame.Ok x.frame ∧ True

structure Names_judge where
  n : Api_Net
  deriving DecidableEq, Inhabited

def Names_judge.Ok (x : Names_judge) : Prop := Api_Net.Ok x.n ∧ True

structure Lookup_room where
  n : Api_Net
  forward : List Bool
  at_ : Int
  from_ : Int
  members : List Int
  deriving DecidableEq, Inhabited

def Lookup_room.Ok (x : Lookup_room) : Prop := Api_Net.Ok x.n ∧ (okL okB) x.forward ∧ (okI .i64) x.at_ ∧ (okI .i64) x.from_ ∧ (okL (okI .i64)) x.members ∧ True

structure Api_Packet where
  tos : Int
  id : Int
  ttl : Int
  proto : Int
  src : Int
  dst : Int
  body : List Int
  deriving DecidableEq, Inhabited

def Api_Packet.Ok (x : Api_Packet) : Prop := (okI .i64) x.tos ∧ (okI .i64) x.id ∧ (okI .i64) x.ttl ∧ (okI .i64) x.proto ∧ (okI .u32) x.src ∧ (okI .u32) x.dst ∧ (okL (okI .u8)) x.body ∧ True

structure Bridge_Out where
  kind : Int
  port : Int
  domain : Int
  bytes : List Int
  frame : Api_Frame
  error : Int
  deriving DecidableEq, Inhabited

def Bridge_Out.Ok (x : Bridge_Out) : Prop := (okI .i64) x.kind ∧ (okI .i64) x.port ∧ (okI .i64) x.domain ∧ (okL (okI .u8)) x.bytes ∧ Api_Frame.Ok x.frame ∧ (okI .i64) x.error ∧ True

structure Leave_whole where
  net : Api_Net
  deriving DecidableEq, Inhabited

def Leave_whole.Ok (x : Leave_whole) : Prop := Api_Net.Ok x.net ∧ True

structure Palingref31_Out where
  kind : Int
  port : Int
  domain : Int
  bytes : List Int
  frame : Api_Frame
  error : Int
  deriving DecidableEq, Inhabited

def Palingref31_Out.Ok (x : Palingref31_Out) : Prop := (okI .i64) x.kind ∧ (okI .i64) x.port ∧ (okI .i64) x.domain ∧ (okL (okI .u8)) x.bytes ∧ Api_Frame.Ok x.frame ∧ (okI .i64) x.error ∧ True

def eq_Api_Entry (x y : Api_Entry) : Bool := (x.mac == y.mac && (x.where_ == y.where_ && (x.seen == y.seen && true)))

def palinglaw15_Great_L1 (a1 : Api_Net) (v10 : Int) : Option ((Int) ⊕ (Unit ⊕ Unit)) :=
  if (decide (v10 < (a1.ports.length : Int))) = true then
    (nth a1.ports v10).bind fun x12 =>
    if (decide ((x12.tagged.length : Int) > 100)) = true then
      some (Sum.inr (Sum.inl ()))
    else
      some (Sum.inl (wr_i64 (v10 + 1)))
  else
    some (Sum.inr (Sum.inr ()))

def palinglaw15_Great_L2 (a1 : Api_Net) (v17 : Int) : Option ((Int) ⊕ (Unit ⊕ Unit)) :=
  if (decide (v17 < (a1.domains.length : Int))) = true then
    (nth a1.domains v17).bind fun x19 =>
    if (decide ((x19.peers.length : Int) > 100)) = true then
      some (Sum.inr (Sum.inl ()))
    else
      some (Sum.inl (wr_i64 (v17 + 1)))
  else
    some (Sum.inr (Sum.inr ()))

def palinglaw15_Great_L3 (a1 : Api_Net) (v24 : Int) : Option ((Int) ⊕ (Unit ⊕ Unit)) :=
  if (decide (v24 < (a1.floods.length : Int))) = true then
    (nth a1.floods v24).bind fun x26 =>
    if (decide ((x26.addrs.length : Int) > 100)) = true then
      some (Sum.inr (Sum.inl ()))
    else
      some (Sum.inl (wr_i64 (v24 + 1)))
  else
    some (Sum.inr (Sum.inr ()))

def palinglaw15_Great_L4 (a1 : Api_Net) (v31 : Int) : Option ((Int) ⊕ (Unit ⊕ Unit)) :=
  if (decide (v31 < (a1.vrfs.length : Int))) = true then
    (nth a1.vrfs v31).bind fun x33 =>
    if (decide ((x33.imports.length : Int) > 100)) = true then
      some (Sum.inr (Sum.inl ()))
    else
      (nth a1.vrfs v31).bind fun x36 =>
      if (decide ((x36.exports.length : Int) > 100)) = true then
        some (Sum.inr (Sum.inl ()))
      else
        some (Sum.inl (wr_i64 (v31 + 1)))
  else
    some (Sum.inr (Sum.inr ()))

def palinglaw15_Great (a1 : Api_Net) : Option (Bool) :=
  if (decide ((a1.devices.length : Int) > 200)) = true then
    some true
  else
    if (decide ((a1.ports.length : Int) > 200)) = true then
      some true
    else
      if (decide ((a1.links.length : Int) > 200)) = true then
        some true
      else
        if (decide ((a1.domains.length : Int) > 200)) = true then
          some true
        else
          if (decide ((a1.statics.length : Int) > 200)) = true then
            some true
          else
            if (decide ((a1.floods.length : Int) > 200)) = true then
              some true
            else
              if (decide ((a1.vrfs.length : Int) > 200)) = true then
                some true
              else
                if (decide ((a1.irbs.length : Int) > 200)) = true then
                  some true
                else
                  (loopM (palinglaw15_Great_L1 a1) 0).bind fun r16 => match r16 with
                  | Sum.inl () =>
                    some true
                  | Sum.inr () =>
                    (loopM (palinglaw15_Great_L2 a1) 0).bind fun r23 => match r23 with
                    | Sum.inl () =>
                      some true
                    | Sum.inr () =>
                      (loopM (palinglaw15_Great_L3 a1) 0).bind fun r30 => match r30 with
                      | Sum.inl () =>
                        some true
                      | Sum.inr () =>
                        (loopM (palinglaw15_Great_L4 a1) 0).bind fun r40 => match r40 with
                        | Sum.inl () =>
                          some true
                        | Sum.inr () =>
                          some false

def palinglaw31_Great (a1 : Api_Net) (a2 : List Bool) (a3 : List Api_Entry) (a4 : Api_Queued) : Option (Bool) :=
  (palinglaw15_Great a1).bind fun r5 =>
  if (r5) = true then
    some true
  else
    if (decide ((a2.length : Int) > 200)) = true then
      some true
    else
      if (decide ((a3.length : Int) > 200)) = true then
        some true
      else
        some (decide ((a4.frame.body.length : Int) > 4000))

def names_judge_few (a1 : Names_judge) : Option (Bool) :=
  if (decide ((a1.n.devices.length : Int) ≤ 8)) = true then
    if (decide ((a1.n.ports.length : Int) ≤ 40)) = true then
      if (decide ((a1.n.links.length : Int) ≤ 20)) = true then
        if (decide ((a1.n.domains.length : Int) ≤ 48)) = true then
          if (decide ((a1.n.statics.length : Int) ≤ 64)) = true then
            if (decide ((a1.n.floods.length : Int) ≤ 48)) = true then
              if (decide ((a1.n.vrfs.length : Int) ≤ 16)) = true then
                some (decide ((a1.n.irbs.length : Int) ≤ 48))
              else
                some false
            else
              some false
          else
            some false
        else
          some false
      else
        some false
    else
      some false
  else
    some false

def names_place_Device (a1 : List Api_Device) (a2 : Int) : Option (Bool) :=
  if (decide (a2 ≥ 0)) = true then
    some (decide (a2 < (a1.length : Int)))
  else
    some false

def names_judge_domain_1 (a1 : Api_Domain) (a2 : Int) (a3 : Int) : Option (Bool) :=
  if (a1.dev == a2) = true then
    some (a1.vlan == a3)
  else
    some false

def slices_IndexFunc_Domain_judge_domain_1_L1 (a1 : List Api_Domain) (a2 : Int) (a3 : Int) (v4 : Int) : Option ((Int) ⊕ (Int ⊕ Unit)) :=
  if (decide (v4 < (a1.length : Int))) = true then
    (nth a1 v4).bind fun x6 =>
    (names_judge_domain_1 x6 a2 a3).bind fun r8 =>
    if (r8) = true then
      some (Sum.inr (Sum.inl v4))
    else
      some (Sum.inl (wr_i64 (v4 + 1)))
  else
    some (Sum.inr (Sum.inr ()))

def slices_IndexFunc_Domain_judge_domain_1 (a1 : List Api_Domain) (a2 : Int) (a3 : Int) : Option (Int) :=
  (loopM (slices_IndexFunc_Domain_judge_domain_1_L1 a1 a2 a3) 0).bind fun r14 => match r14 with
  | Sum.inl v12 =>
    some v12
  | Sum.inr () =>
    some (-1)

def names_judge_domain (a1 : Names_judge) (a2 : Int) (a3 : Int) : Option (Int) :=
  (slices_IndexFunc_Domain_judge_domain_1 a1.n.domains a2 a3).bind fun r4 =>
  some r4

def names_place_Irb (a1 : List Api_Irb) (a2 : Int) : Option (Bool) :=
  if (decide (a2 ≥ 0)) = true then
    some (decide (a2 < (a1.length : Int)))
  else
    some false

def names_judge_bare (a1 : Names_judge) (a2 : Int) (a3 : Api_Domain) : Option (Bool) :=
  (names_place_Device a1.n.devices a3.dev).bind fun r4 =>
  if (r4) = true then
    if (decide (a3.vlan ≥ 1)) = true then
      if (decide (a3.vlan ≤ 4094)) = true then
        if (decide (a3.vni ≥ 0)) = true then
          if (decide (a3.vni ≤ 16777215)) = true then
            if (a3.irb == (-1)) = true then
              (names_judge_domain a1 a3.dev a3.vlan).bind fun r12 =>
              some (r12 == a2)
            else
              (names_place_Irb a1.n.irbs a3.irb).bind fun r14 =>
              if (r14) = true then
                (nth a1.n.irbs a3.irb).bind fun x17 =>
                if (x17.domain == a2) = true then
                  (names_judge_domain a1 a3.dev a3.vlan).bind fun r20 =>
                  some (r20 == a2)
                else
                  some false
              else
                some false
          else
            some false
        else
          some false
      else
        some false
    else
      some false
  else
    some false

def names_all_Domain_judge_bare_L1 (a1 : List Api_Domain) (a2 : Names_judge) (v3 : Int) : Option ((Int) ⊕ (Unit ⊕ Unit)) :=
  if (decide (v3 < (a1.length : Int))) = true then
    (nth a1 v3).bind fun x5 =>
    (names_judge_bare a2 v3 x5).bind fun r7 =>
    if (!r7) = true then
      some (Sum.inr (Sum.inl ()))
    else
      some (Sum.inl (wr_i64 (v3 + 1)))
  else
    some (Sum.inr (Sum.inr ()))

def names_all_Domain_judge_bare (a1 : List Api_Domain) (a2 : Names_judge) : Option (Bool) :=
  (loopM (names_all_Domain_judge_bare_L1 a1 a2) 0).bind fun r11 => match r11 with
  | Sum.inl () =>
    some false
  | Sum.inr () =>
    some true

def names_place_Domain (a1 : List Api_Domain) (a2 : Int) : Option (Bool) :=
  if (decide (a2 ≥ 0)) = true then
    some (decide (a2 < (a1.length : Int)))
  else
    some false

def names_judge_vtep (a1 : Names_judge) (a2 : Api_Domain) : Option (Bool) :=
  (nth a1.n.devices a2.dev).bind fun x3 =>
  some (x3.vtep != 0)

def slices_Index_int_L1 (a1 : List Int) (a2 : Int) (v3 : Int) : Option ((Int) ⊕ (Int ⊕ Unit)) :=
  if (decide (v3 < (a1.length : Int))) = true then
    (nth a1 v3).bind fun x5 =>
    if (a2 == x5) = true then
      some (Sum.inr (Sum.inl v3))
    else
      some (Sum.inl (wr_i64 (v3 + 1)))
  else
    some (Sum.inr (Sum.inr ()))

def slices_Index_int (a1 : List Int) (a2 : Int) : Option (Int) :=
  (loopM (slices_Index_int_L1 a1 a2) 0).bind fun r11 => match r11 with
  | Sum.inl v9 =>
    some v9
  | Sum.inr () =>
    some (-1)

def slices_Contains_int (a1 : List Int) (a2 : Int) : Option (Bool) :=
  (slices_Index_int a1 a2).bind fun r3 =>
  some (decide (r3 ≥ 0))

def names_judge_peer (a1 : Names_judge) (a2 : Int) (a3 : Api_Domain) (a4 : Int) : Option (Bool) :=
  (names_place_Domain a1.n.domains a4).bind fun r5 =>
  if (!r5) = true then
    some false
  else
    if (a4 == a2) = true then
      some false
    else
      (nth a1.n.domains a4).bind fun x9 =>
      (names_place_Device a1.n.devices x9.dev).bind fun r11 =>
      if (r11) = true then
        if (x9.dev != a3.dev) = true then
          if (x9.vni == a3.vni) = true then
            if (a3.vni != 0) = true then
              (names_judge_vtep a1 x9).bind fun r17 =>
              if (r17) = true then
                (names_judge_vtep a1 a3).bind fun r20 =>
                if (r20) = true then
                  (slices_Contains_int x9.peers a2).bind fun r23 =>
                  some r23
                else
                  some false
              else
                some false
            else
              some false
          else
            some false
        else
          some false
      else
        some false

def names_judge_peers_1 (a1 : Int) (a2 : Int) (a3 : Names_judge) (a4 : Int) (a5 : Api_Domain) : Option (Bool) :=
  (names_judge_peer a3 a4 a5 a2).bind fun r6 =>
  if (r6) = true then
    (slices_Index_int a5.peers a2).bind fun r9 =>
    some (r9 == a1)
  else
    some false

def names_all_int_judge_peers_1_L1 (a1 : List Int) (a2 : Names_judge) (a3 : Int) (a4 : Api_Domain) (v5 : Int) : Option ((Int) ⊕ (Unit ⊕ Unit)) :=
  if (decide (v5 < (a1.length : Int))) = true then
    (nth a1 v5).bind fun x7 =>
    (names_judge_peers_1 v5 x7 a2 a3 a4).bind fun r9 =>
    if (!r9) = true then
      some (Sum.inr (Sum.inl ()))
    else
      some (Sum.inl (wr_i64 (v5 + 1)))
  else
    some (Sum.inr (Sum.inr ()))

def names_all_int_judge_peers_1 (a1 : List Int) (a2 : Names_judge) (a3 : Int) (a4 : Api_Domain) : Option (Bool) :=
  (loopM (names_all_int_judge_peers_1_L1 a1 a2 a3 a4) 0).bind fun r13 => match r13 with
  | Sum.inl () =>
    some false
  | Sum.inr () =>
    some true

def names_judge_peers (a1 : Names_judge) (a2 : Int) (a3 : Api_Domain) : Option (Bool) :=
  (names_all_int_judge_peers_1 a3.peers a1 a2 a3).bind fun r4 =>
  some r4

def names_all_Domain_judge_peers_L1 (a1 : List Api_Domain) (a2 : Names_judge) (v3 : Int) : Option ((Int) ⊕ (Unit ⊕ Unit)) :=
  if (decide (v3 < (a1.length : Int))) = true then
    (nth a1 v3).bind fun x5 =>
    (names_judge_peers a2 v3 x5).bind fun r7 =>
    if (!r7) = true then
      some (Sum.inr (Sum.inl ()))
    else
      some (Sum.inl (wr_i64 (v3 + 1)))
  else
    some (Sum.inr (Sum.inr ()))

def names_all_Domain_judge_peers (a1 : List Api_Domain) (a2 : Names_judge) : Option (Bool) :=
  (loopM (names_all_Domain_judge_peers_L1 a1 a2) 0).bind fun r11 => match r11 with
  | Sum.inl () =>
    some false
  | Sum.inr () =>
    some true

def num_Rising_L1 (a1 : List Int) (a2 : Int) (a3 : Int) (v4 : Int) : Option ((Int) ⊕ (Unit ⊕ Unit)) :=
  if (decide (v4 < (a1.length : Int))) = true then
    (nth a1 v4).bind fun x6 =>
    if (decide (x6 < a2)) = true then
      some (Sum.inr (Sum.inl ()))
    else
      if (decide (x6 > a3)) = true then
        some (Sum.inr (Sum.inl ()))
      else
        if (decide (v4 > 0)) = true then
          (nth a1 (wr_i64 (v4 - 1))).bind fun x11 =>
          if (decide (x11 ≥ x6)) = true then
            some (Sum.inr (Sum.inl ()))
          else
            some (Sum.inl (wr_i64 (v4 + 1)))
        else
          some (Sum.inl (wr_i64 (v4 + 1)))
  else
    some (Sum.inr (Sum.inr ()))

def num_Rising (a1 : List Int) (a2 : Int) (a3 : Int) : Option (Bool) :=
  (loopM (num_Rising_L1 a1 a2 a3) 0).bind fun r15 => match r15 with
  | Sum.inl () =>
    some false
  | Sum.inr () =>
    if (decide ((a1.length : Int) > 0)) = true then
      some (decide ((a1.length : Int) ≤ 16))
    else
      some false

def names_rising (a1 : List Int) (a2 : Int) : Option (Bool) :=
  if ((a1.length : Int) == 0) = true then
    some true
  else
    (num_Rising a1 1 a2).bind fun r4 =>
    some r4

def names_place_Link (a1 : List Api_Link) (a2 : Int) : Option (Bool) :=
  if (decide (a2 ≥ 0)) = true then
    some (decide (a2 < (a1.length : Int)))
  else
    some false

def names_judge_port_J1 (a1 : Names_judge) (a2 : Int) (a3 : Api_Port) : Option (Unit ⊕ Unit) :=
  (names_place_Device a1.n.devices a3.dev).bind fun r4 =>
  if (!r4) = true then
    some (Sum.inl ())
  else
    if (decide (a3.native < 0)) = true then
      some (Sum.inl ())
    else
      if (decide (a3.native > 4094)) = true then
        some (Sum.inl ())
      else
        (names_rising a3.tagged 4094).bind fun r9 =>
        if (!r9) = true then
          some (Sum.inl ())
        else
          (slices_Contains_int a3.tagged a3.native).bind fun r12 =>
          if (r12) = true then
            some (Sum.inl ())
          else
            if (a3.native == 0) = true then
              if ((a3.tagged.length : Int) == 0) = true then
                some (Sum.inl ())
              else
                some (Sum.inr ())
            else
              some (Sum.inr ())

def names_judge_port_L2 (a1 : Names_judge) (a2 : Int) (a3 : Api_Port) (v19 : Int) : Option ((Int) ⊕ (Unit ⊕ Unit)) :=
  if (decide (v19 < (a3.tagged.length : Int))) = true then
    (nth a3.tagged v19).bind fun x21 =>
    (names_judge_domain a1 a3.dev x21).bind fun r23 =>
    if (decide (r23 < 0)) = true then
      some (Sum.inr (Sum.inl ()))
    else
      some (Sum.inl (wr_i64 (v19 + 1)))
  else
    some (Sum.inr (Sum.inr ()))

def names_judge_port_J3 (a1 : Names_judge) (a2 : Int) (a3 : Api_Port) : Option (Unit ⊕ Unit) :=
  if (decide (a3.native > 0)) = true then
    (names_judge_domain a1 a3.dev a3.native).bind fun r29 =>
    if (decide (r29 < 0)) = true then
      some (Sum.inl ())
    else
      some (Sum.inr ())
  else
    some (Sum.inr ())

def names_judge_port (a1 : Names_judge) (a2 : Int) (a3 : Api_Port) : Option (Bool) :=
  (names_judge_port_J1 a1 a2 a3).bind fun r18 => match r18 with
  | Sum.inl () =>
    some false
  | Sum.inr () =>
    (loopM (names_judge_port_L2 a1 a2 a3) 0).bind fun r27 => match r27 with
    | Sum.inl () =>
      some false
    | Sum.inr () =>
      (names_judge_port_J3 a1 a2 a3).bind fun r33 => match r33 with
      | Sum.inl () =>
        some false
      | Sum.inr () =>
        if (a3.link == (-1)) = true then
          some true
        else
          (names_place_Link a1.n.links a3.link).bind fun r35 =>
          if (r35) = true then
            (nth a1.n.links a3.link).bind fun x38 =>
            if (x38.a == a2) = true then
              some true
            else
              (nth a1.n.links a3.link).bind fun x41 =>
              some (x41.b == a2)
          else
            some false

def names_all_Port_judge_port_L1 (a1 : List Api_Port) (a2 : Names_judge) (v3 : Int) : Option ((Int) ⊕ (Unit ⊕ Unit)) :=
  if (decide (v3 < (a1.length : Int))) = true then
    (nth a1 v3).bind fun x5 =>
    (names_judge_port a2 v3 x5).bind fun r7 =>
    if (!r7) = true then
      some (Sum.inr (Sum.inl ()))
    else
      some (Sum.inl (wr_i64 (v3 + 1)))
  else
    some (Sum.inr (Sum.inr ()))

def names_all_Port_judge_port (a1 : List Api_Port) (a2 : Names_judge) : Option (Bool) :=
  (loopM (names_all_Port_judge_port_L1 a1 a2) 0).bind fun r11 => match r11 with
  | Sum.inl () =>
    some false
  | Sum.inr () =>
    some true

def names_place_Port (a1 : List Api_Port) (a2 : Int) : Option (Bool) :=
  if (decide (a2 ≥ 0)) = true then
    some (decide (a2 < (a1.length : Int)))
  else
    some false

def names_judge_link (a1 : Names_judge) (a2 : Int) (a3 : Api_Link) : Option (Bool) :=
  (names_place_Port a1.n.ports a3.a).bind fun r4 =>
  if (!r4) = true then
    some false
  else
    (names_place_Port a1.n.ports a3.b).bind fun r7 =>
    if (!r7) = true then
      some false
    else
      (nth a1.n.ports a3.a).bind fun x10 =>
      (nth a1.n.ports a3.b).bind fun x12 =>
      if (x10.dev != x12.dev) = true then
        if (x10.link == a2) = true then
          some (x12.link == a2)
        else
          some false
      else
        some false

def names_all_Link_judge_link_L1 (a1 : List Api_Link) (a2 : Names_judge) (v3 : Int) : Option ((Int) ⊕ (Unit ⊕ Unit)) :=
  if (decide (v3 < (a1.length : Int))) = true then
    (nth a1 v3).bind fun x5 =>
    (names_judge_link a2 v3 x5).bind fun r7 =>
    if (!r7) = true then
      some (Sum.inr (Sum.inl ()))
    else
      some (Sum.inl (wr_i64 (v3 + 1)))
  else
    some (Sum.inr (Sum.inr ()))

def names_all_Link_judge_link (a1 : List Api_Link) (a2 : Names_judge) : Option (Bool) :=
  (loopM (names_all_Link_judge_link_L1 a1 a2) 0).bind fun r11 => match r11 with
  | Sum.inl () =>
    some false
  | Sum.inr () =>
    some true

def names_Member (a1 : Api_Port) (a2 : Int) : Option (Bool) :=
  if (a2 != 0) = true then
    if (a2 == a1.native) = true then
      some true
    else
      (slices_Contains_int a1.tagged a2).bind fun r5 =>
      some r5
  else
    some false

def names_judge_static (a1 : Names_judge) (a2 : Int) (a3 : Api_Static) : Option (Bool) :=
  (names_place_Domain a1.n.domains a3.domain).bind fun r4 =>
  if (!r4) = true then
    some false
  else
    (names_place_Port a1.n.ports a3.port).bind fun r7 =>
    if (!r7) = true then
      some false
    else
      (nth a1.n.ports a3.port).bind fun x10 =>
      (nth a1.n.domains a3.domain).bind fun x12 =>
      if (x10.dev == x12.dev) = true then
        (names_Member x10 x12.vlan).bind fun r15 =>
        some r15
      else
        some false

def names_all_Static_judge_static_L1 (a1 : List Api_Static) (a2 : Names_judge) (v3 : Int) : Option ((Int) ⊕ (Unit ⊕ Unit)) :=
  if (decide (v3 < (a1.length : Int))) = true then
    (nth a1 v3).bind fun x5 =>
    (names_judge_static a2 v3 x5).bind fun r7 =>
    if (!r7) = true then
      some (Sum.inr (Sum.inl ()))
    else
      some (Sum.inl (wr_i64 (v3 + 1)))
  else
    some (Sum.inr (Sum.inr ()))

def names_all_Static_judge_static (a1 : List Api_Static) (a2 : Names_judge) : Option (Bool) :=
  (loopM (names_all_Static_judge_static_L1 a1 a2) 0).bind fun r11 => match r11 with
  | Sum.inl () =>
    some false
  | Sum.inr () =>
    some true

def names_Right_1 (a1 : Int) (a2 : Api_Flood) (a3 : Api_Net) : Option (Bool) :=
  (names_place_Device a3.devices a2.dev).bind fun r4 =>
  if (r4) = true then
    some (decide ((a2.addrs.length : Int) ≤ 16))
  else
    some false

def names_all_Flood_Right_1_L1 (a1 : List Api_Flood) (a2 : Api_Net) (v3 : Int) : Option ((Int) ⊕ (Unit ⊕ Unit)) :=
  if (decide (v3 < (a1.length : Int))) = true then
    (nth a1 v3).bind fun x5 =>
    (names_Right_1 v3 x5 a2).bind fun r7 =>
    if (!r7) = true then
      some (Sum.inr (Sum.inl ()))
    else
      some (Sum.inl (wr_i64 (v3 + 1)))
  else
    some (Sum.inr (Sum.inr ()))

def names_all_Flood_Right_1 (a1 : List Api_Flood) (a2 : Api_Net) : Option (Bool) :=
  (loopM (names_all_Flood_Right_1_L1 a1 a2) 0).bind fun r11 => match r11 with
  | Sum.inl () =>
    some false
  | Sum.inr () =>
    some true

def names_Right_2 (a1 : Int) (a2 : Api_Vrf) (a3 : Api_Net) : Option (Bool) :=
  (names_place_Device a3.devices a2.dev).bind fun r4 =>
  if (r4) = true then
    (names_rising a2.imports 65535).bind fun r7 =>
    if (r7) = true then
      (names_rising a2.exports 65535).bind fun r10 =>
      some r10
    else
      some false
  else
    some false

def names_all_Vrf_Right_2_L1 (a1 : List Api_Vrf) (a2 : Api_Net) (v3 : Int) : Option ((Int) ⊕ (Unit ⊕ Unit)) :=
  if (decide (v3 < (a1.length : Int))) = true then
    (nth a1 v3).bind fun x5 =>
    (names_Right_2 v3 x5 a2).bind fun r7 =>
    if (!r7) = true then
      some (Sum.inr (Sum.inl ()))
    else
      some (Sum.inl (wr_i64 (v3 + 1)))
  else
    some (Sum.inr (Sum.inr ()))

def names_all_Vrf_Right_2 (a1 : List Api_Vrf) (a2 : Api_Net) : Option (Bool) :=
  (loopM (names_all_Vrf_Right_2_L1 a1 a2) 0).bind fun r11 => match r11 with
  | Sum.inl () =>
    some false
  | Sum.inr () =>
    some true

def names_place_Vrf (a1 : List Api_Vrf) (a2 : Int) : Option (Bool) :=
  if (decide (a2 ≥ 0)) = true then
    some (decide (a2 < (a1.length : Int)))
  else
    some false

def names_judge_irb (a1 : Names_judge) (a2 : Int) (a3 : Api_Irb) : Option (Bool) :=
  (names_place_Domain a1.n.domains a3.domain).bind fun r4 =>
  if (r4) = true then
    (names_place_Vrf a1.n.vrfs a3.vrf).bind fun r7 =>
    if (r7) = true then
      (nth a1.n.domains a3.domain).bind fun x10 =>
      (nth a1.n.vrfs a3.vrf).bind fun x12 =>
      if (x10.dev == x12.dev) = true then
        (nth a1.n.domains a3.domain).bind fun x15 =>
        if (x15.irb == a2) = true then
          if (decide (a3.net.bits ≥ 1)) = true then
            some (decide (a3.net.bits ≤ 30))
          else
            some false
        else
          some false
      else
        some false
    else
      some false
  else
    some false

def names_all_Irb_judge_irb_L1 (a1 : List Api_Irb) (a2 : Names_judge) (v3 : Int) : Option ((Int) ⊕ (Unit ⊕ Unit)) :=
  if (decide (v3 < (a1.length : Int))) = true then
    (nth a1 v3).bind fun x5 =>
    (names_judge_irb a2 v3 x5).bind fun r7 =>
    if (!r7) = true then
      some (Sum.inr (Sum.inl ()))
    else
      some (Sum.inl (wr_i64 (v3 + 1)))
  else
    some (Sum.inr (Sum.inr ()))

def names_all_Irb_judge_irb (a1 : List Api_Irb) (a2 : Names_judge) : Option (Bool) :=
  (loopM (names_all_Irb_judge_irb_L1 a1 a2) 0).bind fun r11 => match r11 with
  | Sum.inl () =>
    some false
  | Sum.inr () =>
    some true

def names_Right (a1 : Api_Net) : Option (Bool) :=
  (names_judge_few (⟨a1⟩ : Names_judge)).bind fun r2 =>
  if (r2) = true then
    (names_all_Domain_judge_bare a1.domains (⟨a1⟩ : Names_judge)).bind fun r5 =>
    if (r5) = true then
      (names_all_Domain_judge_peers a1.domains (⟨a1⟩ : Names_judge)).bind fun r8 =>
      if (r8) = true then
        (names_all_Port_judge_port a1.ports (⟨a1⟩ : Names_judge)).bind fun r11 =>
        if (r11) = true then
          (names_all_Link_judge_link a1.links (⟨a1⟩ : Names_judge)).bind fun r14 =>
          if (r14) = true then
            (names_all_Static_judge_static a1.statics (⟨a1⟩ : Names_judge)).bind fun r17 =>
            if (r17) = true then
              (names_all_Flood_Right_1 a1.floods a1).bind fun r20 =>
              if (r20) = true then
                (names_all_Vrf_Right_2 a1.vrfs a1).bind fun r23 =>
                if (r23) = true then
                  (names_all_Irb_judge_irb a1.irbs (⟨a1⟩ : Names_judge)).bind fun r26 =>
                  some r26
                else
                  some false
              else
                some false
            else
              some false
          else
            some false
        else
          some false
      else
        some false
    else
      some false
  else
    some false

def names_Members_L1 (a1 : Api_Net) (a2 : Int) (l9 : List Int) (v10 : Int) : Option (((List Int) × Int) ⊕ ((List Int))) :=
  if (decide (v10 < (a1.ports.length : Int))) = true then
    (nth a1.ports v10).bind fun x12 =>
    (nth a1.domains a2).bind fun x14 =>
    if (x12.dev == x14.dev) = true then
      (nth a1.domains a2).bind fun x17 =>
      (names_Member x12 x17.vlan).bind fun r19 =>
      if (r19) = true then
        if (roomy 8 (l9 ++ [v10])) = true then
          some (Sum.inl (l9 ++ [v10], wr_i64 (v10 + 1)))
        else
          none
      else
        some (Sum.inl (l9, wr_i64 (v10 + 1)))
    else
      some (Sum.inl (l9, wr_i64 (v10 + 1)))
  else
    some (Sum.inr l9)

def names_Members (a1 : Api_Net) (a2 : Int) : Option (((List Int))) :=
  (names_Right a1).bind fun r3 =>
  if (!r3) = true then
    some []
  else
    (names_place_Domain a1.domains a2).bind fun r6 =>
    if (!r6) = true then
      some []
    else
      (loopM (fun s : (List Int) × Int => match s with | (l9, v10) => names_Members_L1 a1 a2 l9 v10) ([], 0)).bind fun r27 => match r27 with
      | l25 =>
        some l25

def lookup_open (a1 : Api_Net) (a2 : List Bool) (a3 : Int) (a4 : Int) : Option ((Unit) ⊕ ((List Int) × Bool)) :=
  if (decide (a3 < 0)) = true then
    some (Sum.inl ())
  else
    if (decide (a3 ≥ (a1.domains.length : Int))) = true then
      some (Sum.inl ())
    else
      if ((a2.length : Int) != (a1.links.length : Int)) = true then
        some (Sum.inl ())
      else
        (names_Right a1).bind fun r8 =>
        if (!r8) = true then
          some (Sum.inl ())
        else
          (names_Members a1 a3).bind fun r11 => match r11 with
          | l13 =>
            if (a4 == (-1)) = true then
              some (Sum.inr (l13, true))
            else
              if (a4 == (-2)) = true then
                some (Sum.inr (l13, true))
              else
                (slices_Contains_int l13 a4).bind fun r16 =>
                some (Sum.inr (l13, r16))

def slices_Clone_int (a1 : List Int) : Option (List Int) :=
  if roomy 8 a1 = true then some a1 else none

def lookup_usable (a1 : Api_Net) (a2 : List Bool) (a3 : Int) : Option (Bool) :=
  (nth a1.ports a3).bind fun x4 =>
  if (decide (x4.link < 0)) = true then
    some true
  else
    (nth a2 x4.link).bind fun x7 =>
    some x7

def lookup_room_ports_1 (a1 : Int) (a2 : Lookup_room) : Option (Bool) :=
  if (a1 == a2.from_) = true then
    some true
  else
    (lookup_usable a2.n a2.forward a1).bind fun r4 =>
    some (!r4)

def slices_IndexFunc_int_room_ports_1_L1 (a1 : List Int) (a2 : Lookup_room) (v3 : Int) : Option ((Int) ⊕ (Int ⊕ Unit)) :=
  if (decide (v3 < (a1.length : Int))) = true then
    (nth a1 v3).bind fun x5 =>
    (lookup_room_ports_1 x5 a2).bind fun r7 =>
    if (r7) = true then
      some (Sum.inr (Sum.inl v3))
    else
      some (Sum.inl (wr_i64 (v3 + 1)))
  else
    some (Sum.inr (Sum.inr ()))

def slices_IndexFunc_int_room_ports_1 (a1 : List Int) (a2 : Lookup_room) : Option (Int) :=
  (loopM (slices_IndexFunc_int_room_ports_1_L1 a1 a2) 0).bind fun r13 => match r13 with
  | Sum.inl v11 =>
    some v11
  | Sum.inr () =>
    some (-1)

def slices_DeleteFunc_int_room_ports_1_own_L1 (a1 : List Int) (a2 : Lookup_room) (l6 : List Int) (v7 : Int) (v8 : Int) : Option (((List Int) × Int × Int) ⊕ (((List Int) × Int))) :=
  if (decide (v8 < ((List.length a1) : Int))) = true then
    if (lin l6 v8) = true then
      (l6[(Int.toNat v8)]?).bind fun x11 =>
      (lookup_room_ports_1 x11 a2).bind fun r13 =>
      if (!r13) = true then
        if (lin l6 v7) = true then
          (l6[(Int.toNat v7)]?).bind fun x17 =>
          some (Sum.inl (List.set l6 (Int.toNat v7) x11, wr_i64 (v7 + 1), wr_i64 (v8 + 1)))
        else
          none
      else
        some (Sum.inl (l6, v7, wr_i64 (v8 + 1)))
    else
      none
  else
    some (Sum.inr (l6, v7))

def slices_DeleteFunc_int_room_ports_1_own (a1 : List Int) (a2 : Lookup_room) : Option (((List Int) × (List Int))) :=
  (slices_IndexFunc_int_room_ports_1 a1 a2).bind fun r3 =>
  if (r3 == (-1)) = true then
    some (a1, a1)
  else
    (loopM (fun s : (List Int) × Int × Int => match s with | (l6, v7, v8) => slices_DeleteFunc_int_room_ports_1_own_L1 a1 a2 l6 v7 v8) (a1, r3, wr_i64 (r3 + 1))).bind fun r26 => match r26 with
    | (l23, v24) =>
      if (slok (List.length l23) v24 ((List.length l23) : Int)) = true then
        if (slok (List.length (List.take (Int.toNat v24) l23 ++ (List.replicate ((Int.toNat ((List.length l23) : Int)) - (Int.toNat v24)) (0 : Int) ++ List.drop (Int.toNat ((List.length l23) : Int)) l23))) 0 v24) = true then
          some (List.take (Int.toNat v24) l23 ++ (List.replicate ((Int.toNat ((List.length l23) : Int)) - (Int.toNat v24)) (0 : Int) ++ List.drop (Int.toNat ((List.length l23) : Int)) l23), List.drop (Int.toNat 0) (List.take (Int.toNat v24) (List.take (Int.toNat v24) l23 ++ (List.replicate ((Int.toNat ((List.length l23) : Int)) - (Int.toNat v24)) (0 : Int) ++ List.drop (Int.toNat ((List.length l23) : Int)) l23))))
        else
          none
      else
        none

def lookup_room_ports (a1 : Lookup_room) (a2 : List Int) : Option ((List Int)) :=
  (slices_Clone_int a2).bind fun r3 => match r3 with
  | l5 =>
    (slices_DeleteFunc_int_room_ports_1_own l5 a1).bind fun r6 => match r6 with
    | (l8, l9) =>
      some l9

def lookup_room_peers (a1 : Lookup_room) : Option (((List Int))) :=
  if (a1.from_ == (-1)) = true then
    some []
  else
    (nth a1.n.domains a1.at_).bind fun x3 =>
    (slices_Clone_int x3.peers).bind fun r5 => match r5 with
    | l7 =>
      some l7

def lookup_Flood (a1 : Api_Net) (a2 : List Bool) (a3 : Int) (a4 : Int) : Option (((List Int) × (List Int) × Int)) :=
  (lookup_open a1 a2 a3 a4).bind fun r9 => match r9 with
  | Sum.inl () =>
    some ([], [], 2)
  | Sum.inr (l11, v12) =>
    if (!v12) = true then
      some ([], [], 2)
    else
      (lookup_room_ports (⟨a1, a2, a3, a4, l11⟩ : Lookup_room) l11).bind fun r14 =>
      (lookup_room_peers (⟨a1, a2, a3, a4, l11⟩ : Lookup_room)).bind fun r16 => match r16 with
      | l18 =>
        some (r14, l18, 0)

def mac_Group (a1 : Int) : Option (Bool) :=
  some ((bits_and .u64 a1 1099511627776) != 0)

def table_station (a1 : Int) : Option (Bool) :=
  if (decide (a1 ≤ 281474976710655)) = true then
    (mac_Group a1).bind fun r3 =>
    some (!r3)
  else
    some false

def table_timely (a1 : Int) : Option (Bool) :=
  if (decide (a1 ≥ 0)) = true then
    some (decide (a1 ≤ 1099511627776))
  else
    some false

def table_index_1 (a1 : Api_Entry) (a2 : Int) : Option (Bool) :=
  some (a1.mac == a2)

def slices_IndexFunc_Entry_index_1_L1 (a1 : List Api_Entry) (a2 : Int) (v3 : Int) : Option ((Int) ⊕ (Int ⊕ Unit)) :=
  if (decide (v3 < (a1.length : Int))) = true then
    (nth a1 v3).bind fun x5 =>
    (table_index_1 x5 a2).bind fun r7 =>
    if (r7) = true then
      some (Sum.inr (Sum.inl v3))
    else
      some (Sum.inl (wr_i64 (v3 + 1)))
  else
    some (Sum.inr (Sum.inr ()))

def slices_IndexFunc_Entry_index_1 (a1 : List Api_Entry) (a2 : Int) : Option (Int) :=
  (loopM (slices_IndexFunc_Entry_index_1_L1 a1 a2) 0).bind fun r13 => match r13 with
  | Sum.inl v11 =>
    some v11
  | Sum.inr () =>
    some (-1)

def table_index (a1 : List Api_Entry) (a2 : Int) : Option (Int) :=
  (slices_IndexFunc_Entry_index_1 a1 a2).bind fun r3 =>
  some r3

def table_Right_L1 (a1 : List Api_Entry) (v3 : Int) : Option ((Int) ⊕ (Unit ⊕ Unit)) :=
  if (decide (v3 < (a1.length : Int))) = true then
    (nth a1 v3).bind fun x5 =>
    (table_station x5.mac).bind fun r7 =>
    if (!r7) = true then
      some (Sum.inr (Sum.inl ()))
    else
      (table_timely x5.seen).bind fun r10 =>
      if (!r10) = true then
        some (Sum.inr (Sum.inl ()))
      else
        (table_index a1 x5.mac).bind fun r13 =>
        if (r13 != v3) = true then
          some (Sum.inr (Sum.inl ()))
        else
          some (Sum.inl (wr_i64 (v3 + 1)))
  else
    some (Sum.inr (Sum.inr ()))

def table_Right (a1 : List Api_Entry) : Option (Bool) :=
  if (decide ((a1.length : Int) > 8)) = true then
    some false
  else
    (loopM (table_Right_L1 a1) 0).bind fun r17 => match r17 with
    | Sum.inl () =>
      some false
    | Sum.inr () =>
      some true

def slices_Clone_Entry (a1 : List Api_Entry) : Option (List Api_Entry) :=
  if roomy 24 a1 = true then some a1 else none

def table_oldest_L1 (a1 : List Api_Entry) (v2 : Int) (v3 : Int) : Option ((Int × Int) ⊕ (Int)) :=
  if (decide (v2 < (a1.length : Int))) = true then
    (nth a1 v2).bind fun x5 =>
    (nth a1 v3).bind fun x7 =>
    if (decide (x5.seen < x7.seen)) = true then
      some (Sum.inl (wr_i64 (v2 + 1), v2))
    else
      some (Sum.inl (wr_i64 (v2 + 1), v3))
  else
    some (Sum.inr v3)

def table_oldest (a1 : List Api_Entry) : Option (Int) :=
  (loopM (fun s : Int × Int => match s with | (v2, v3) => table_oldest_L1 a1 v2 v3) (0, 0)).bind fun r13 => match r13 with
  | v11 =>
    some v11

def slices_Delete_Entry_own (a1 : List Api_Entry) (a2 : Int) (a3 : Int) : Option ((Unit) ⊕ (Unit)) :=
  if (slok3 (List.length a1) a2 a3 ((List.length a1) : Int)) = true then
    if (a2 == a3) = true then
      some (Sum.inl ())
    else
      if (slok (List.length a1) 0 a2) = true then
        if (slok (List.length a1) a3 ((List.length a1) : Int)) = true then
          if (ptok (List.length a1) (Int.toNat a2) (List.length (List.drop (Int.toNat a3) (List.take (Int.toNat ((List.length a1) : Int)) a1)))) = true then
            if (slokp (List.length (List.take (Int.toNat a2) a1 ++ (List.drop (Int.toNat a3) (List.take (Int.toNat ((List.length a1) : Int)) a1) ++ List.drop ((Int.toNat a2) + (List.length (List.drop (Int.toNat a3) (List.take (Int.toNat ((List.length a1) : Int)) a1)))) a1))) ((((Int.toNat a2) + (List.length (List.drop (Int.toNat a3) (List.take (Int.toNat ((List.length a1) : Int)) a1)))) - 0 : Nat) : Int) ((List.length a1) : Int)) = true then
              some (Sum.inr ())
            else
              none
          else
            none
        else
          none
      else
        none
  else
    none

def table_Learn (a1 : List Api_Entry) (a2 : Int) (a3 : Int) (a4 : Int) : Option (((List Api_Entry) × Nat)) :=
  (slices_Clone_Entry a1).bind fun r5 => match r5 with
  | l7 =>
    (table_Right a1).bind fun r8 =>
    if (!r8) = true then
      some (l7, (List.length l7))
    else
      (table_station a2).bind fun r11 =>
      if (!r11) = true then
        some (l7, (List.length l7))
      else
        (table_timely a4).bind fun r14 =>
        if (!r14) = true then
          some (l7, (List.length l7))
        else
          (table_index a1 a2).bind fun r17 =>
          if (decide (r17 ≥ 0)) = true then
            if (lin l7 r17) = true then
              (l7[(Int.toNat r17)]?).bind fun x21 =>
              if (lin (List.set l7 (Int.toNat r17) (⟨x21.mac, a3, x21.seen⟩ : Api_Entry)) r17) = true then
                ((List.set l7 (Int.toNat r17) (⟨x21.mac, a3, x21.seen⟩ : Api_Entry))[(Int.toNat r17)]?).bind fun x24 =>
                some (List.set (List.set l7 (Int.toNat r17) (⟨x21.mac, a3, x21.seen⟩ : Api_Entry)) (Int.toNat r17) (⟨x24.mac, x24.where_, a4⟩ : Api_Entry), (List.length l7))
              else
                none
            else
              none
          else
            if (((List.length l7) : Int) == 8) = true then
              (table_oldest l7).bind fun r27 =>
              (slices_Delete_Entry_own l7 r27 (wr_i64 (r27 + 1))).bind fun r29 => match r29 with
              | Sum.inl () =>
                if (roomy 24 (l7 ++ [(⟨a2, a3, a4⟩ : Api_Entry)])) = true then
                  some (l7 ++ [(⟨a2, a3, a4⟩ : Api_Entry)], (List.length (l7 ++ [(⟨a2, a3, a4⟩ : Api_Entry)])))
                else
                  none
              | Sum.inr () =>
                if (ptwok (List.length (List.take (Int.toNat ((((Int.toNat r27) + (List.length (List.drop (Int.toNat (wr_i64 (r27 + 1))) (List.take (Int.toNat ((List.length l7) : Int)) l7)))) - 0 : Nat) : Int)) (List.take (Int.toNat r27) l7 ++ (List.drop (Int.toNat (wr_i64 (r27 + 1))) (List.take (Int.toNat ((List.length l7) : Int)) l7) ++ List.drop ((Int.toNat r27) + (List.length (List.drop (Int.toNat (wr_i64 (r27 + 1))) (List.take (Int.toNat ((List.length l7) : Int)) l7)))) l7)) ++ (List.replicate ((Int.toNat ((List.length l7) : Int)) - (Int.toNat ((((Int.toNat r27) + (List.length (List.drop (Int.toNat (wr_i64 (r27 + 1))) (List.take (Int.toNat ((List.length l7) : Int)) l7)))) - 0 : Nat) : Int))) (⟨0, 0, 0⟩ : Api_Entry) ++ List.drop (Int.toNat ((List.length l7) : Int)) (List.take (Int.toNat r27) l7 ++ (List.drop (Int.toNat (wr_i64 (r27 + 1))) (List.take (Int.toNat ((List.length l7) : Int)) l7) ++ List.drop ((Int.toNat r27) + (List.length (List.drop (Int.toNat (wr_i64 (r27 + 1))) (List.take (Int.toNat ((List.length l7) : Int)) l7)))) l7))))) ((Int.toNat r27) + (List.length (List.drop (Int.toNat (wr_i64 (r27 + 1))) (List.take (Int.toNat ((List.length l7) : Int)) l7)))) (List.length [(⟨a2, a3, a4⟩ : Api_Entry)])) = true then
                  some (List.take ((Int.toNat r27) + (List.length (List.drop (Int.toNat (wr_i64 (r27 + 1))) (List.take (Int.toNat ((List.length l7) : Int)) l7)))) (List.take (Int.toNat ((((Int.toNat r27) + (List.length (List.drop (Int.toNat (wr_i64 (r27 + 1))) (List.take (Int.toNat ((List.length l7) : Int)) l7)))) - 0 : Nat) : Int)) (List.take (Int.toNat r27) l7 ++ (List.drop (Int.toNat (wr_i64 (r27 + 1))) (List.take (Int.toNat ((List.length l7) : Int)) l7) ++ List.drop ((Int.toNat r27) + (List.length (List.drop (Int.toNat (wr_i64 (r27 + 1))) (List.take (Int.toNat ((List.length l7) : Int)) l7)))) l7)) ++ (List.replicate ((Int.toNat ((List.length l7) : Int)) - (Int.toNat ((((Int.toNat r27) + (List.length (List.drop (Int.toNat (wr_i64 (r27 + 1))) (List.take (Int.toNat ((List.length l7) : Int)) l7)))) - 0 : Nat) : Int))) (⟨0, 0, 0⟩ : Api_Entry) ++ List.drop (Int.toNat ((List.length l7) : Int)) (List.take (Int.toNat r27) l7 ++ (List.drop (Int.toNat (wr_i64 (r27 + 1))) (List.take (Int.toNat ((List.length l7) : Int)) l7) ++ List.drop ((Int.toNat r27) + (List.length (List.drop (Int.toNat (wr_i64 (r27 + 1))) (List.take (Int.toNat ((List.length l7) : Int)) l7)))) l7)))) ++ ([(⟨a2, a3, a4⟩ : Api_Entry)] ++ List.drop (((Int.toNat r27) + (List.length (List.drop (Int.toNat (wr_i64 (r27 + 1))) (List.take (Int.toNat ((List.length l7) : Int)) l7)))) + (List.length [(⟨a2, a3, a4⟩ : Api_Entry)])) (List.take (Int.toNat ((((Int.toNat r27) + (List.length (List.drop (Int.toNat (wr_i64 (r27 + 1))) (List.take (Int.toNat ((List.length l7) : Int)) l7)))) - 0 : Nat) : Int)) (List.take (Int.toNat r27) l7 ++ (List.drop (Int.toNat (wr_i64 (r27 + 1))) (List.take (Int.toNat ((List.length l7) : Int)) l7) ++ List.drop ((Int.toNat r27) + (List.length (List.drop (Int.toNat (wr_i64 (r27 + 1))) (List.take (Int.toNat ((List.length l7) : Int)) l7)))) l7)) ++ (List.replicate ((Int.toNat ((List.length l7) : Int)) - (Int.toNat ((((Int.toNat r27) + (List.length (List.drop (Int.toNat (wr_i64 (r27 + 1))) (List.take (Int.toNat ((List.length l7) : Int)) l7)))) - 0 : Nat) : Int))) (⟨0, 0, 0⟩ : Api_Entry) ++ List.drop (Int.toNat ((List.length l7) : Int)) (List.take (Int.toNat r27) l7 ++ (List.drop (Int.toNat (wr_i64 (r27 + 1))) (List.take (Int.toNat ((List.length l7) : Int)) l7) ++ List.drop ((Int.toNat r27) + (List.length (List.drop (Int.toNat (wr_i64 (r27 + 1))) (List.take (Int.toNat ((List.length l7) : Int)) l7)))) l7))))), (List.length l7))
                else
                  none
            else
              if (roomy 24 (l7 ++ [(⟨a2, a3, a4⟩ : Api_Entry)])) = true then
                some (l7 ++ [(⟨a2, a3, a4⟩ : Api_Entry)], (List.length (l7 ++ [(⟨a2, a3, a4⟩ : Api_Entry)])))
              else
                none

def bridge_learn (a1 : List Api_Entry) (a2 : Api_Queued) (a3 : Int) : Option (((List Api_Entry) × Nat)) :=
  if (a2.from_ == (-2)) = true then
    (slices_Clone_Entry a1).bind fun r5 => match r5 with
    | l7 =>
      some (l7, (List.length l7))
  else
    if (a2.from_ == (-1)) = true then
      (table_Learn a1 a2.frame.src (wr_i64 ((-1) - a2.peer)) a3).bind fun r9 => match r9 with
      | (l11, n12) =>
        some (l11, n12)
    else
      (table_Learn a1 a2.frame.src a2.from_ a3).bind fun r13 => match r13 with
      | (l15, n16) =>
        some (l15, n16)

def mac_Host (a1 : Int) : Option (Int) :=
  some (bits_or .u64 2199023255552 (wr_u64 a1))

def vrfs_Router (a1 : Api_Net) (a2 : Int) (a3 : Int) : Option (Int × Bool) :=
  if (decide (a2 < 0)) = true then
    some (0, false)
  else
    if (decide (a2 ≥ (a1.domains.length : Int))) = true then
      some (0, false)
    else
      (names_Right a1).bind fun r6 =>
      if (!r6) = true then
        some (0, false)
      else
        (nth a1.domains a2).bind fun x9 =>
        if (decide (x9.irb < 0)) = true then
          some (0, false)
        else
          (nth a1.irbs x9.irb).bind fun x12 =>
          (mac_Host x12.net.addr).bind fun r14 =>
          if (r14 != a3) = true then
            some (0, false)
          else
            some (x9.irb, true)

def ipv4_pair (a1 : List Int) (a2 : Int) : Option (Int) :=
  (nth a1 a2).bind fun x3 =>
  (nth a1 (wr_i64 (a2 + 1))).bind fun x5 =>
  some (bits_or .i64 (wr_i64 ((wr_i64 x3) * 2 ^ 8)) (wr_i64 x5))

def sum_down_1_own (a1 : Int) : Option ((Unit)) :=
  some ()

def sum_down_L1 (v2 : Int) : Option ((Int) ⊕ (Int)) :=
  if (decide (v2 > 65535)) = true then
    (sum_down_1_own v2).bind fun r4 => match r4 with
    | () =>
      some (Sum.inl (wr_i64 ((Int.fdiv v2 (2 ^ 16)) + (bits_and .i64 v2 65535))))
  else
    some (Sum.inr v2)

def sum_down (a1 : Int) : Option (Int) :=
  (loopM (sum_down_L1) a1).bind fun r10 => match r10 with
  | v8 =>
    some v8

def sum_add_L1 (a1 : List Int) (v2 : Int) (v3 : Int) : Option ((Int × Int) ⊕ (Int)) :=
  if (decide ((wr_i64 (v3 + 1)) < (a1.length : Int))) = true then
    (nth a1 v3).bind fun x5 =>
    (nth a1 (wr_i64 (v3 + 1))).bind fun x7 =>
    some (Sum.inl (wr_i64 (v2 + (bits_or .i64 (wr_i64 ((wr_i64 x5) * 2 ^ 8)) (wr_i64 x7))), wr_i64 (v3 + 2)))
  else
    some (Sum.inr v2)

def sum_add (a1 : List Int) : Option (Int) :=
  (loopM (fun s : Int × Int => match s with | (v2, v3) => sum_add_L1 a1 v2 v3) (0, 0)).bind fun r12 => match r12 with
  | v10 =>
    if ((bits_and .i64 (a1.length : Int) 1) == 1) = true then
      (nth a1 (wr_i64 ((a1.length : Int) - 1))).bind fun x14 =>
      (sum_down (wr_i64 (v10 + (wr_i64 ((wr_i64 x14) * 2 ^ 8))))).bind fun r16 =>
      some r16
    else
      (sum_down v10).bind fun r18 =>
      some r18

def sum_Right (a1 : List Int) : Option (Bool) :=
  (sum_add a1).bind fun r2 =>
  some (r2 == 65535)

def ipv4_four (a1 : List Int) (a2 : Int) : Option (Int) :=
  (ipv4_pair a1 a2).bind fun r3 =>
  (ipv4_pair a1 (wr_i64 (a2 + 2))).bind fun r5 =>
  some (bits_or .u32 (wr_u32 ((wr_u32 r3) * 2 ^ 16)) (wr_u32 r5))

def slices_Clone_byte (a1 : List Int) : Option (List Int) :=
  if roomy 1 a1 = true then some a1 else none

def ipv4_Take_J1 (a1 : List Int) : Option (Bool) :=
  (nth a1 0).bind fun x3 =>
  if (x3 != 69) = true then
    some true
  else
    (ipv4_pair a1 2).bind fun r6 =>
    some (decide (r6 < 20))

def ipv4_Take (a1 : List Int) : Option (((List Int) × Int × Int × Int × Int × Int × Int × Int)) :=
  if (decide ((a1.length : Int) < 20)) = true then
    some ([], 0, 0, 0, 0, 0, 0, 10)
  else
    (ipv4_Take_J1 a1).bind fun r11 => match r11 with
    | v9 =>
      if (v9) = true then
        some ([], 0, 0, 0, 0, 0, 0, 11)
      else
        (ipv4_pair a1 2).bind fun r13 =>
        if (decide (r13 > (a1.length : Int))) = true then
          some ([], 0, 0, 0, 0, 0, 0, 10)
        else
          (ipv4_pair a1 6).bind fun r16 =>
          if (r16 != 0) = true then
            some ([], 0, 0, 0, 0, 0, 0, 11)
          else
            if (slok (List.length a1) 0 20) = true then
              (sum_Right (List.drop (Int.toNat 0) (List.take (Int.toNat 20) a1))).bind fun r20 =>
              if (!r20) = true then
                some ([], 0, 0, 0, 0, 0, 0, 12)
              else
                (nth a1 1).bind fun x23 =>
                (ipv4_pair a1 4).bind fun r25 =>
                (nth a1 8).bind fun x27 =>
                (nth a1 9).bind fun x29 =>
                (ipv4_four a1 12).bind fun r31 =>
                (ipv4_four a1 16).bind fun r33 =>
                (ipv4_pair a1 2).bind fun r35 =>
                if (slok (List.length a1) 20 r35) = true then
                  (slices_Clone_byte (List.drop (Int.toNat 20) (List.take (Int.toNat r35) a1))).bind fun r38 => match r38 with
                  | l40 =>
                    some (l40, wr_i64 x23, r25, wr_i64 x27, wr_i64 x29, r31, r33, 0)
                else
                  none
            else
              none

def ipv4_Hop (a1 : Api_Packet) : Option (((List Int) × Int × Int × Int × Int × Int × Int × Int)) :=
  if (decide (a1.ttl ≤ 1)) = true then
    some ([], 0, 0, 0, 0, 0, 0, 13)
  else
    (slices_Clone_byte a1.body).bind fun r3 => match r3 with
    | l5 =>
      some (l5, a1.tos, a1.id, wr_i64 (a1.ttl - 1), a1.proto, a1.src, a1.dst, 0)

def route_device (a1 : Api_Net) (a2 : Int) : Option (Int) :=
  (nth a1.irbs a2).bind fun x3 =>
  (nth a1.domains x3.domain).bind fun x5 =>
  some x5.dev

def addr_Right (a1 : Api_Prefix) : Option (Bool) :=
  if (decide (a1.bits ≥ 0)) = true then
    some (decide (a1.bits ≤ 32))
  else
    some false

def addr_rest (a1 : Api_Prefix) : Option (Int) :=
  if (decide (0 ≤ (wr_i64 (32 - a1.bits)))) = true then
    some (wr_u32 ((wr_u32 (1 * 2 ^ (min (Int.toNat (wr_i64 (32 - a1.bits))) 32))) - 1))
  else
    none

def addr_Has (a1 : Api_Prefix) (a2 : Int) : Option (Bool) :=
  (addr_Right a1).bind fun r3 =>
  if (r3) = true then
    (addr_rest a1).bind fun r6 =>
    some ((bits_andNot .u32 (bits_xor .u32 a1.addr a2) r6) == 0)
  else
    some false

def vrfs_Leaks_1 (a1 : Int) (a2 : Api_Vrf) : Option (Bool) :=
  (slices_Contains_int a2.imports a1).bind fun r3 =>
  some r3

def slices_IndexFunc_int_Leaks_1_L1 (a1 : List Int) (a2 : Api_Vrf) (v3 : Int) : Option ((Int) ⊕ (Int ⊕ Unit)) :=
  if (decide (v3 < (a1.length : Int))) = true then
    (nth a1 v3).bind fun x5 =>
    (vrfs_Leaks_1 x5 a2).bind fun r7 =>
    if (r7) = true then
      some (Sum.inr (Sum.inl v3))
    else
      some (Sum.inl (wr_i64 (v3 + 1)))
  else
    some (Sum.inr (Sum.inr ()))

def slices_IndexFunc_int_Leaks_1 (a1 : List Int) (a2 : Api_Vrf) : Option (Int) :=
  (loopM (slices_IndexFunc_int_Leaks_1_L1 a1 a2) 0).bind fun r13 => match r13 with
  | Sum.inl v11 =>
    some v11
  | Sum.inr () =>
    some (-1)

def slices_ContainsFunc_int_Leaks_1 (a1 : List Int) (a2 : Api_Vrf) : Option (Bool) :=
  (slices_IndexFunc_int_Leaks_1 a1 a2).bind fun r3 =>
  some (decide (r3 ≥ 0))

def vrfs_Leaks (a1 : Api_Net) (a2 : Int) (a3 : Int) : Option (Bool) :=
  if (decide (a2 < 0)) = true then
    some false
  else
    if (decide (a3 < 0)) = true then
      some false
    else
      if (decide (a2 ≥ (a1.vrfs.length : Int))) = true then
        some false
      else
        if (decide (a3 ≥ (a1.vrfs.length : Int))) = true then
          some false
        else
          (names_Right a1).bind fun r8 =>
          if (!r8) = true then
            some false
          else
            (nth a1.vrfs a2).bind fun x11 =>
            (nth a1.vrfs a3).bind fun x13 =>
            if (a2 == a3) = true then
              some true
            else
              if (x11.dev == x13.dev) = true then
                (slices_ContainsFunc_int_Leaks_1 x11.exports x13).bind fun r17 =>
                some r17
              else
                some false

def route_sees (a1 : Api_Net) (a2 : Int) (a3 : Int) : Option (Bool) :=
  (route_device a1 a2).bind fun r4 =>
  (route_device a1 a3).bind fun r6 =>
  if (r4 == r6) = true then
    (nth a1.irbs a3).bind fun x9 =>
    (nth a1.irbs a2).bind fun x11 =>
    (vrfs_Leaks a1 x9.vrf x11.vrf).bind fun r13 =>
    some r13
  else
    some false

def route_lookup_1 (a1 : Int) (a2 : Api_Net) (a3 : Int) : Option (Int) :=
  (nth a2.irbs a1).bind fun x4 =>
  (nth a2.irbs a3).bind fun x6 =>
  if (x4.vrf == x6.vrf) = true then
    some 1
  else
    some 0

def route_lookup_2 (a1 : Int) (a2 : Int) (a3 : Api_Net) (a4 : Api_Net) (a5 : Int) : Option (Int) :=
  (nth a3.irbs a1).bind fun x6 =>
  (nth a3.irbs a2).bind fun x8 =>
  if (x6.net.bits != x8.net.bits) = true then
    some (wr_i64 (x6.net.bits - x8.net.bits))
  else
    (route_lookup_1 a1 a4 a5).bind fun r11 =>
    (route_lookup_1 a2 a4 a5).bind fun r13 =>
    some (wr_i64 (r11 - r13))

def slices_MaxFunc_int_lookup_2_L1 (a1 : List Int) (a2 : Api_Net) (a3 : Api_Net) (a4 : Int) (v8 : Int) (v9 : Int) : Option ((Int × Int) ⊕ (Int)) :=
  if (decide (v9 < (a1.length : Int))) = true then
    (nth a1 v9).bind fun x11 =>
    (route_lookup_2 x11 v8 a2 a3 a4).bind fun r13 =>
    if (decide (r13 > 0)) = true then
      (nth a1 v9).bind fun x16 =>
      some (Sum.inl (x16, wr_i64 (v9 + 1)))
    else
      some (Sum.inl (v8, wr_i64 (v9 + 1)))
  else
    some (Sum.inr v8)

def slices_MaxFunc_int_lookup_2 (a1 : List Int) (a2 : Api_Net) (a3 : Api_Net) (a4 : Int) : Option (Int) :=
  if (decide ((a1.length : Int) < 1)) = true then
    none
  else
    (nth a1 0).bind fun x6 =>
    (loopM (fun s : Int × Int => match s with | (v8, v9) => slices_MaxFunc_int_lookup_2_L1 a1 a2 a3 a4 v8 v9) (x6, 1)).bind fun r21 => match r21 with
    | v19 =>
      some v19

def route_lookup_J2 (a1 : Api_Net) (a2 : Int) (a3 : Int) (l4 : List Int) (v5 : Int) (x7 : Api_Irb) : Option (Unit ⊕ Unit) :=
  (route_device a1 v5).bind fun r9 =>
  (route_device a1 a2).bind fun r11 =>
  if (r9 == r11) = true then
    if (x7.net.addr == a3) = true then
      some (Sum.inl ())
    else
      some (Sum.inr ())
  else
    some (Sum.inr ())

def route_lookup_L1 (a1 : Api_Net) (a2 : Int) (a3 : Int) (l4 : List Int) (v5 : Int) : Option (((List Int) × Int) ⊕ (Unit ⊕ (List Int))) :=
  if (decide (v5 < (a1.irbs.length : Int))) = true then
    (nth a1.irbs v5).bind fun x7 =>
    (route_lookup_J2 a1 a2 a3 l4 v5 x7).bind fun r16 => match r16 with
    | Sum.inl () =>
      some (Sum.inr (Sum.inl ()))
    | Sum.inr () =>
      (addr_Has x7.net a3).bind fun r17 =>
      if (r17) = true then
        (route_sees a1 a2 v5).bind fun r20 =>
        if (r20) = true then
          if (roomy 8 (l4 ++ [v5])) = true then
            some (Sum.inl (l4 ++ [v5], wr_i64 (v5 + 1)))
          else
            none
        else
          some (Sum.inl (l4, wr_i64 (v5 + 1)))
      else
        some (Sum.inl (l4, wr_i64 (v5 + 1)))
  else
    some (Sum.inr (Sum.inr l4))

def route_lookup (a1 : Api_Net) (a2 : Int) (a3 : Int) : Option (Int × Bool) :=
  (loopM (fun s : (List Int) × Int => match s with | (l4, v5) => route_lookup_L1 a1 a2 a3 l4 v5) ([], 0)).bind fun r31 => match r31 with
  | Sum.inl () =>
    some (0, false)
  | Sum.inr l29 =>
    if (((List.length l29) : Int) == 0) = true then
      some (0, false)
    else
      (slices_MaxFunc_int_lookup_2 l29 a1 a1 a2).bind fun r33 =>
      some (r33, true)

def ipv4_Put_1 (a1 : Int) (a2 : Int) : Option (Bool) :=
  if (decide (a1 ≥ 0)) = true then
    some (decide (a1 ≤ a2))
  else
    some false

def ipv4_put_own_L1 (a2 : List Int) (l3 : List Int) (v4 : Int) : Option (((List Int) × Int) ⊕ ((List Int))) :=
  if (decide (v4 < ((List.length a2) : Int))) = true then
    if (lin a2 v4) = true then
      (a2[(Int.toNat v4)]?).bind fun x7 =>
      if (roomy 1 (l3 ++ [(wr_u8 (Int.fdiv x7 (2 ^ 8)) : Int), (wr_u8 x7 : Int)])) = true then
        some (Sum.inl (l3 ++ [(wr_u8 (Int.fdiv x7 (2 ^ 8)) : Int), (wr_u8 x7 : Int)], wr_i64 (v4 + 1)))
      else
        none
    else
      none
  else
    some (Sum.inr l3)

def ipv4_put_own (a1 : List Int) (a2 : List Int) : Option (((List Int))) :=
  (loopM (fun s : (List Int) × Int => match s with | (l3, v4) => ipv4_put_own_L1 a2 l3 v4) (a1, 0)).bind fun r14 => match r14 with
  | l12 =>
    some l12

def sum_Of (a1 : List Int) : Option (Int) :=
  (sum_add a1).bind fun r2 =>
  some (wr_i64 (65535 - r2))

def ipv4_Put (a1 : Api_Packet) : Option (((List Int) × Int)) :=
  (ipv4_Put_1 a1.tos 255).bind fun r2 =>
  if (!r2) = true then
    some ([], 11)
  else
    (ipv4_Put_1 a1.ttl 255).bind fun r5 =>
    if (!r5) = true then
      some ([], 11)
    else
      (ipv4_Put_1 a1.proto 255).bind fun r8 =>
      if (!r8) = true then
        some ([], 11)
      else
        (ipv4_Put_1 a1.id 65535).bind fun r11 =>
        if (!r11) = true then
          some ([], 11)
        else
          if (decide ((a1.body.length : Int) > 1480)) = true then
            some ([], 14)
          else
            (ipv4_put_own [] [(bits_or .i64 17664 a1.tos : Int), (wr_i64 (20 + (a1.body.length : Int)) : Int), a1.id, (0 : Int), (bits_or .i64 (wr_i64 (a1.ttl * 2 ^ 8)) a1.proto : Int), (0 : Int), (wr_i64 (Int.fdiv a1.src (2 ^ 16)) : Int), (wr_i64 a1.src : Int), (wr_i64 (Int.fdiv a1.dst (2 ^ 16)) : Int), (wr_i64 a1.dst : Int)]).bind fun r15 => match r15 with
            | l17 =>
              (sum_Of l17).bind fun r18 =>
              if (lin l17 10) = true then
                (l17[(Int.toNat 10)]?).bind fun x21 =>
                if (lin (List.set l17 (Int.toNat 10) (wr_u8 (Int.fdiv r18 (2 ^ 8)) : Int)) 11) = true then
                  ((List.set l17 (Int.toNat 10) (wr_u8 (Int.fdiv r18 (2 ^ 8)) : Int))[(Int.toNat 11)]?).bind fun x24 =>
                  if (roomy 1 ((List.set (List.set l17 (Int.toNat 10) (wr_u8 (Int.fdiv r18 (2 ^ 8)) : Int)) (Int.toNat 11) (wr_u8 r18 : Int)) ++ a1.body)) = true then
                    some ((List.set (List.set l17 (Int.toNat 10) (wr_u8 (Int.fdiv r18 (2 ^ 8)) : Int)) (Int.toNat 11) (wr_u8 r18 : Int)) ++ a1.body, 0)
                  else
                    none
                else
                  none
              else
                none

def route_Hop_J1 (a1 : Api_Net) (a2 : Int) (l12 : List Int) (v13 : Int) (v14 : Int) (v15 : Int) (v16 : Int) (v17 : Int) (v18 : Int) (v19 : Int) : Option (((List Int) × Int × Int × Int × Int × Int × Int × Int)) :=
  if (v19 == 0) = true then
    (ipv4_Hop (⟨v13, v14, v15, v16, v17, v18, l12⟩ : Api_Packet)).bind fun r21 => match r21 with
    | (l23, v24, v25, v26, v27, v28, v29, v30) =>
      some (l23, v24, v25, v26, v27, v28, v29, v30)
  else
    some (l12, v13, v14, v15, v16, v17, v18, v19)

def route_Hop (a1 : Api_Net) (a2 : Int) (a3 : Api_Frame) : Option (((List Int) × Int × Int × Int × Int × Int)) :=
  if (decide (a2 < 0)) = true then
    some ([], 0, 0, 0, 0, 2)
  else
    if (decide (a2 ≥ (a1.irbs.length : Int))) = true then
      some ([], 0, 0, 0, 0, 2)
    else
      (names_Right a1).bind fun r6 =>
      if (!r6) = true then
        some ([], 0, 0, 0, 0, 2)
      else
        if (a3.type_ != 2048) = true then
          some ([], 0, 0, 0, 0, 11)
        else
          (ipv4_Take a3.body).bind fun r10 => match r10 with
          | (l12, v13, v14, v15, v16, v17, v18, v19) =>
            (route_Hop_J1 a1 a2 l12 v13 v14 v15 v16 v17 v18 v19).bind fun r83 => match r83 with
            | (l74, v75, v76, v77, v78, v79, v80, v81) =>
              if (v81 != 0) = true then
                some ([], 0, 0, 0, 0, v81)
              else
                (route_lookup a1 a2 v80).bind fun r85 =>
                if (!r85.2) = true then
                  some ([], 0, 0, 0, 0, 31)
                else
                  (ipv4_Put (⟨v75, v76, v77, v78, v79, v80, l74⟩ : Api_Packet)).bind fun r88 => match r88 with
                  | (l90, v91) =>
                    if (v91 != 0) = true then
                      some ([], 0, 0, 0, 0, v91)
                    else
                      (nth a1.irbs r85.1).bind fun x93 =>
                      (mac_Host v80).bind fun r95 =>
                      (nth a1.irbs r85.1).bind fun x97 =>
                      (mac_Host x97.net.addr).bind fun r99 =>
                      some (l90, x93.domain, r95, r99, 2048, 0)

def domains_entry_1 (a1 : Api_Static) (a2 : Int) (a3 : Int) : Option (Bool) :=
  if (a1.domain == a2) = true then
    some (a1.mac == a3)
  else
    some false

def slices_IndexFunc_Static_entry_1_L1 (a1 : List Api_Static) (a2 : Int) (a3 : Int) (v4 : Int) : Option ((Int) ⊕ (Int ⊕ Unit)) :=
  if (decide (v4 < (a1.length : Int))) = true then
    (nth a1 v4).bind fun x6 =>
    (domains_entry_1 x6 a2 a3).bind fun r8 =>
    if (r8) = true then
      some (Sum.inr (Sum.inl v4))
    else
      some (Sum.inl (wr_i64 (v4 + 1)))
  else
    some (Sum.inr (Sum.inr ()))

def slices_IndexFunc_Static_entry_1 (a1 : List Api_Static) (a2 : Int) (a3 : Int) : Option (Int) :=
  (loopM (slices_IndexFunc_Static_entry_1_L1 a1 a2 a3) 0).bind fun r14 => match r14 with
  | Sum.inl v12 =>
    some v12
  | Sum.inr () =>
    some (-1)

def domains_entry (a1 : Api_Net) (a2 : Int) (a3 : Int) : Option (Int) :=
  (slices_IndexFunc_Static_entry_1 a1.statics a2 a3).bind fun r4 =>
  some r4

def domains_Lookup (a1 : Api_Net) (a2 : Int) (a3 : Int) : Option (Int) :=
  (domains_entry a1 a2 a3).bind fun r4 =>
  if (decide (r4 < 0)) = true then
    some (-1)
  else
    (names_Right a1).bind fun r7 =>
    if (!r7) = true then
      some (-1)
    else
      (nth a1.statics r4).bind fun x10 =>
      some x10.port

def table_Find (a1 : List Api_Entry) (a2 : Int) : Option (Int × Bool) :=
  (table_index a1 a2).bind fun r3 =>
  if (decide (r3 < 0)) = true then
    some (0, false)
  else
    (nth a1 r3).bind fun x6 =>
    some (x6.where_, true)

def lookup_room_known_J1 (a1 : Lookup_room) (r9 : Int × Bool) : Option (Bool) :=
  if (decide (r9.1 ≥ 0)) = true then
    (slices_Contains_int a1.members r9.1).bind fun r13 =>
    some r13
  else
    some false

def lookup_room_known_J2 (a1 : Lookup_room) (r9 : Int × Bool) : Option (Bool) :=
  if (decide (r9.1 < 0)) = true then
    (nth a1.n.domains a1.at_).bind fun x23 =>
    (slices_Contains_int x23.peers (wr_i64 ((-1) - r9.1))).bind fun r25 =>
    some r25
  else
    some false

def lookup_room_known (a1 : Lookup_room) (a2 : List Api_Entry) (a3 : Int) : Option (((List Int) × (List Int) × Bool)) :=
  (domains_Lookup a1.n a1.at_ a3).bind fun r4 =>
  if (decide (r4 ≥ 0)) = true then
    (lookup_room_ports a1 [r4]).bind fun r7 =>
    some (r7, [], true)
  else
    (table_Find a2 a3).bind fun r9 =>
    if (!r9.2) = true then
      some ([], [], false)
    else
      (lookup_room_known_J1 a1 r9).bind fun r18 => match r18 with
      | v16 =>
        if (v16) = true then
          (lookup_room_ports a1 [r9.1]).bind fun r20 =>
          some (r20, [], true)
        else
          (lookup_room_known_J2 a1 r9).bind fun r30 => match r30 with
          | v28 =>
            if (v28) = true then
              if (a1.from_ == (-1)) = true then
                some ([], [], true)
              else
                some ([], [(wr_i64 ((-1) - r9.1) : Int)], true)
            else
              some ([], [], false)

def lookup_Decide (a1 : Api_Net) (a2 : List Bool) (a3 : List Api_Entry) (a4 : Int) (a5 : Int) (a6 : Int) : Option (((List Int) × (List Int) × Int)) :=
  (lookup_open a1 a2 a4 a5).bind fun r11 => match r11 with
  | Sum.inl () =>
    some ([], [], 2)
  | Sum.inr (l13, v14) =>
    if (!v14) = true then
      some ([], [], 2)
    else
      (mac_Group a6).bind fun r16 =>
      if (!r16) = true then
        (lookup_room_known (⟨a1, a2, a4, a5, l13⟩ : Lookup_room) a3 a6).bind fun r19 => match r19 with
        | (r21, r22, r23) =>
          if (r23) = true then
            some (r21, r22, 0)
          else
            (lookup_room_ports (⟨a1, a2, a4, a5, l13⟩ : Lookup_room) l13).bind fun r25 =>
            (lookup_room_peers (⟨a1, a2, a4, a5, l13⟩ : Lookup_room)).bind fun r27 => match r27 with
            | l29 =>
              some (r25, l29, 0)
      else
        (lookup_room_ports (⟨a1, a2, a4, a5, l13⟩ : Lookup_room) l13).bind fun r30 =>
        (lookup_room_peers (⟨a1, a2, a4, a5, l13⟩ : Lookup_room)).bind fun r32 => match r32 with
        | l34 =>
          some (r30, l34, 0)

def leave_place (a1 : Int) (a2 : Int) : Option (Bool) :=
  if (decide (a1 ≥ 0)) = true then
    some (decide (a1 < a2))
  else
    some false

def tag_Is (a1 : Api_Frame) : Option (Bool) :=
  some (a1.type_ == 33024)

def mac_shift (a1 : Int) : Option (Int) :=
  some (wr_u64 (wr_i64 (8 * (wr_i64 (5 - a1)))))

def mac_Put_own_L1 (a2 : Int) (l3 : List Int) (v4 : Int) : Option (((List Int) × Int) ⊕ ((List Int))) :=
  if (decide (v4 < 6)) = true then
    (mac_shift v4).bind fun r6 =>
    if (decide (0 ≤ r6)) = true then
      if (roomy 1 (l3 ++ [(wr_u8 (Int.fdiv a2 (2 ^ (min (Int.toNat r6) 64))) : Int)])) = true then
        some (Sum.inl (l3 ++ [(wr_u8 (Int.fdiv a2 (2 ^ (min (Int.toNat r6) 64))) : Int)], wr_i64 (v4 + 1)))
      else
        none
    else
      none
  else
    some (Sum.inr l3)

def mac_Put_own (a1 : List Int) (a2 : Int) : Option (((List Int))) :=
  (loopM (fun s : (List Int) × Int => match s with | (l3, v4) => mac_Put_own_L1 a2 l3 v4) (a1, 0)).bind fun r14 => match r14 with
  | l12 =>
    some l12

def ether_Put (a1 : Api_Frame) : Option (((List Int) × Int)) :=
  if (decide (a1.dst > 281474976710655)) = true then
    some ([], 11)
  else
    if (decide (a1.src > 281474976710655)) = true then
      some ([], 11)
    else
      if (decide (a1.type_ < 0)) = true then
        some ([], 11)
      else
        if (decide (a1.type_ > 65535)) = true then
          some ([], 11)
        else
          if (decide ((a1.body.length : Int) > 1504)) = true then
            some ([], 14)
          else
            (mac_Put_own [] a1.dst).bind fun r7 => match r7 with
            | l9 =>
              (mac_Put_own l9 a1.src).bind fun r10 => match r10 with
              | l12 =>
                if (roomy 1 (l12 ++ [(wr_u8 (Int.fdiv a1.type_ (2 ^ 8)) : Int), (wr_u8 a1.type_ : Int)])) = true then
                  if (roomy 1 ((l12 ++ [(wr_u8 (Int.fdiv a1.type_ (2 ^ 8)) : Int), (wr_u8 a1.type_ : Int)]) ++ a1.body)) = true then
                    some ((l12 ++ [(wr_u8 (Int.fdiv a1.type_ (2 ^ 8)) : Int), (wr_u8 a1.type_ : Int)]) ++ a1.body, 0)
                  else
                    none
                else
                  none

def leave_whole_bare (a1 : Leave_whole) (a2 : Api_Frame) (a3 : Int) : Option (((List Int) × Int)) :=
  (ether_Put a2).bind fun r4 => match r4 with
  | (l6, v7) =>
    some (l6, v7)

def tag_Add_J1 (a1 : Api_Frame) (a2 : Int) (a3 : Int) : Option (Bool) :=
  (tag_Is a1).bind fun r4 =>
  if (r4) = true then
    some true
  else
    if (decide (a2 < 0)) = true then
      some true
    else
      if (decide (a2 > 4094)) = true then
        some true
      else
        if (decide (a3 < 0)) = true then
          some true
        else
          some (decide (a3 > 15))

def tag_Add_J2 (a1 : Api_Frame) (a2 : Int) (a3 : Int) : Option (Bool) :=
  if (decide (a1.type_ < 0)) = true then
    some true
  else
    some (decide (a1.type_ > 65535))

def tag_Add (a1 : Api_Frame) (a2 : Int) (a3 : Int) : Option (((List Int) × Int × Int × Int × Int)) :=
  (tag_Add_J1 a1 a2 a3).bind fun r13 => match r13 with
  | v11 =>
    if (v11) = true then
      some ([], 0, 0, 0, 15)
    else
      (tag_Add_J2 a1 a2 a3).bind fun r19 => match r19 with
      | v17 =>
        if (v17) = true then
          some ([], 0, 0, 0, 11)
        else
          if (decide ((a1.body.length : Int) > 1500)) = true then
            some ([], 0, 0, 0, 14)
          else
            if (roomy 1 ([(wr_u8 (Int.fdiv (bits_or .i64 (wr_i64 (a3 * 2 ^ 12)) a2) (2 ^ 8)) : Int), (wr_u8 (bits_or .i64 (wr_i64 (a3 * 2 ^ 12)) a2) : Int), (wr_u8 (Int.fdiv a1.type_ (2 ^ 8)) : Int), (wr_u8 a1.type_ : Int)] ++ a1.body)) = true then
              some ([(wr_u8 (Int.fdiv (bits_or .i64 (wr_i64 (a3 * 2 ^ 12)) a2) (2 ^ 8)) : Int), (wr_u8 (bits_or .i64 (wr_i64 (a3 * 2 ^ 12)) a2) : Int), (wr_u8 (Int.fdiv a1.type_ (2 ^ 8)) : Int), (wr_u8 a1.type_ : Int)] ++ a1.body, a1.dst, a1.src, 33024, 0)
            else
              none

def leave_whole_tagged (a1 : Leave_whole) (a2 : Api_Frame) (a3 : Int) : Option (((List Int) × Int)) :=
  (tag_Add a2 a3 0).bind fun r4 => match r4 with
  | (l6, v7, v8, v9, v10) =>
    if (v10 != 0) = true then
      some ([], v10)
    else
      (ether_Put (⟨v7, v8, v9, l6⟩ : Api_Frame)).bind fun r12 => match r12 with
      | (l14, v15) =>
        some (l14, v15)

def leave_At_J1 (a1 : Api_Net) (a4 : Api_Frame) (x14 : Api_Port) (x16 : Api_Domain) : Option (Bool) :=
  if (x14.dev != x16.dev) = true then
    some true
  else
    (names_Member x14 x16.vlan).bind fun r19 =>
    some (!r19)

def leave_At (a1 : Api_Net) (a2 : Int) (a3 : Int) (a4 : Api_Frame) : Option (((List Int) × Int)) :=
  (leave_place a2 (a1.ports.length : Int)).bind fun r5 =>
  if (!r5) = true then
    some ([], 2)
  else
    (leave_place a3 (a1.domains.length : Int)).bind fun r8 =>
    if (!r8) = true then
      some ([], 2)
    else
      (names_Right a1).bind fun r11 =>
      if (!r11) = true then
        some ([], 2)
      else
        (nth a1.ports a2).bind fun x14 =>
        (nth a1.domains a3).bind fun x16 =>
        (leave_At_J1 a1 a4 x14 x16).bind fun r24 => match r24 with
        | v22 =>
          if (v22) = true then
            some ([], 16)
          else
            (tag_Is a4).bind fun r26 =>
            if (r26) = true then
              some ([], 15)
            else
              if (x16.vlan == x14.native) = true then
                (leave_whole_bare (⟨a1⟩ : Leave_whole) a4 x16.vlan).bind fun r30 => match r30 with
                | (l32, v33) =>
                  some (l32, v33)
              else
                (leave_whole_tagged (⟨a1⟩ : Leave_whole) a4 x16.vlan).bind fun r34 => match r34 with
                | (l36, v37) =>
                  some (l36, v37)

def bridge_Step_1_own (a1 : Bridge_Out) (a2 : List Int) (a3 : Int) (a4 : List Bridge_Out) : Option ((Unit) ⊕ (Unit)) :=
  if (a3 != 0) = true then
    if (roomy 104 (a4 ++ [(⟨5, a1.port, a1.domain, [], a1.frame, a3⟩ : Bridge_Out)])) = true then
      some (Sum.inl ())
    else
      none
  else
    if (roomy 104 (a4 ++ [(⟨a1.kind, a1.port, a1.domain, a2, a1.frame, a1.error⟩ : Bridge_Out)])) = true then
      some (Sum.inr ())
    else
      none

def leave_whole_vtep (a1 : Leave_whole) (a2 : Int) : Option (Int) :=
  (nth a1.net.domains a2).bind fun x3 =>
  (nth a1.net.devices x3.dev).bind fun x5 =>
  some x5.vtep

def vxlan_Head (a1 : Int) : Option (((List Int) × Int)) :=
  if (decide (a1 < 1)) = true then
    some ([], 17)
  else
    if (decide (a1 > 16777215)) = true then
      some ([], 17)
    else
      some ([(8 : Int), (0 : Int), (0 : Int), (0 : Int), (wr_u8 (Int.fdiv a1 (2 ^ 16)) : Int), (wr_u8 (Int.fdiv a1 (2 ^ 8)) : Int), (wr_u8 a1 : Int), (0 : Int)], 0)

def udp_Port (a1 : Int) (a2 : Int) : Option (Int) :=
  some (wr_i64 (49152 + (wr_i64 (Int.tmod (bits_xor .u64 a1 a2) 16384))))

def udp_Put_L1 (a1 : Int) (a2 : Int) (a3 : List Int) (l9 : List Int) (v10 : Int) : Option (((List Int) × Int) ⊕ ((List Int))) :=
  if (decide (v10 < 4)) = true then
    if (v10 == 0) = true then
      if (roomy 1 (l9 ++ [(wr_u8 (Int.fdiv a1 (2 ^ 8)) : Int), (wr_u8 a1 : Int)])) = true then
        some (Sum.inl (l9 ++ [(wr_u8 (Int.fdiv a1 (2 ^ 8)) : Int), (wr_u8 a1 : Int)], wr_i64 (v10 + 1)))
      else
        none
    else
      if (v10 == 1) = true then
        if (roomy 1 (l9 ++ [(wr_u8 (Int.fdiv a2 (2 ^ 8)) : Int), (wr_u8 a2 : Int)])) = true then
          some (Sum.inl (l9 ++ [(wr_u8 (Int.fdiv a2 (2 ^ 8)) : Int), (wr_u8 a2 : Int)], wr_i64 (v10 + 1)))
        else
          none
      else
        if (v10 == 2) = true then
          if (roomy 1 (l9 ++ [(wr_u8 (Int.fdiv (wr_i64 (8 + (a3.length : Int))) (2 ^ 8)) : Int), (wr_u8 (wr_i64 (8 + (a3.length : Int))) : Int)])) = true then
            some (Sum.inl (l9 ++ [(wr_u8 (Int.fdiv (wr_i64 (8 + (a3.length : Int))) (2 ^ 8)) : Int), (wr_u8 (wr_i64 (8 + (a3.length : Int))) : Int)], wr_i64 (v10 + 1)))
          else
            none
        else
          if (v10 == 3) = true then
            if (roomy 1 (l9 ++ [(wr_u8 (Int.fdiv 0 (2 ^ 8)) : Int), (wr_u8 0 : Int)])) = true then
              some (Sum.inl (l9 ++ [(wr_u8 (Int.fdiv 0 (2 ^ 8)) : Int), (wr_u8 0 : Int)], wr_i64 (v10 + 1)))
            else
              none
          else
            none
  else
    some (Sum.inr l9)

def udp_Put (a1 : Int) (a2 : Int) (a3 : List Int) : Option (((List Int) × Int)) :=
  if (decide (a1 < 0)) = true then
    some ([], 11)
  else
    if (decide (a1 > 65535)) = true then
      some ([], 11)
    else
      if (decide (a2 < 0)) = true then
        some ([], 11)
      else
        if (decide (a2 > 65535)) = true then
          some ([], 11)
        else
          if (decide ((a3.length : Int) > 1472)) = true then
            some ([], 14)
          else
            (loopM (fun s : (List Int) × Int => match s with | (l9, v10) => udp_Put_L1 a1 a2 a3 l9 v10) ([], 0)).bind fun r26 => match r26 with
            | l24 =>
              if (roomy 1 (l24 ++ a3)) = true then
                some (l24 ++ a3, 0)
              else
                none

def vxlan_Wrap (a1 : Int) (a2 : Int) (a3 : Int) (a4 : Api_Frame) : Option (((List Int) × Int)) :=
  (tag_Is a4).bind fun r5 =>
  if (r5) = true then
    some ([], 15)
  else
    (ether_Put a4).bind fun r8 => match r8 with
    | (l10, v11) =>
      if (v11 != 0) = true then
        some ([], v11)
      else
        (vxlan_Head a3).bind fun r13 => match r13 with
        | (l15, v16) =>
          if (v16 != 0) = true then
            some ([], v16)
          else
            if (decide (((List.length l10) : Int) > 1464)) = true then
              some ([], 14)
            else
              (udp_Port a4.dst a4.src).bind fun r19 =>
              if (roomy 1 (l15 ++ l10)) = true then
                (udp_Put r19 4789 (l15 ++ l10)).bind fun r22 => match r22 with
                | (l24, v25) =>
                  (ipv4_Put (⟨0, 0, 64, 17, a1, a2, l24⟩ : Api_Packet)).bind fun r26 => match r26 with
                  | (l28, v29) =>
                    (mac_Host a2).bind fun r30 =>
                    (mac_Host a1).bind fun r32 =>
                    (ether_Put (⟨r30, r32, 2048, l28⟩ : Api_Frame)).bind fun r34 => match r34 with
                    | (l36, v37) =>
                      some (l36, v37)
              else
                none

def leave_Mesh (a1 : Api_Net) (a2 : Int) (a3 : Int) (a4 : Api_Frame) : Option (((List Int) × Int)) :=
  (leave_place a3 (a1.domains.length : Int)).bind fun r5 =>
  if (!r5) = true then
    some ([], 2)
  else
    (leave_place a2 (a1.domains.length : Int)).bind fun r8 =>
    if (!r8) = true then
      some ([], 2)
    else
      (names_Right a1).bind fun r11 =>
      if (!r11) = true then
        some ([], 2)
      else
        (nth a1.domains a2).bind fun x14 =>
        (slices_Contains_int x14.peers a3).bind fun r16 =>
        if (!r16) = true then
          some ([], 17)
        else
          (leave_whole_vtep (⟨a1⟩ : Leave_whole) a2).bind fun r19 =>
          (leave_whole_vtep (⟨a1⟩ : Leave_whole) a3).bind fun r21 =>
          (nth a1.domains a2).bind fun x23 =>
          (vxlan_Wrap r19 r21 x23.vni a4).bind fun r25 => match r25 with
          | (l27, v28) =>
            some (l27, v28)

def bridge_Step_J2 (a1 : Api_Net) (a4 : Int) (a5 : Api_Queued) (l18 : List Api_Entry) (n19 : Nat) (r34 : List Int) (r35 : List Int) (l37 : List Bridge_Out) (v38 : Int) (x40 : Int) : Option (Int) :=
  (nth a1.ports x40).bind fun x42 =>
  if (decide (x42.link ≥ 0)) = true then
    some 2
  else
    some 1

def bridge_Step_L1 (a1 : Api_Net) (a4 : Int) (a5 : Api_Queued) (l18 : List Api_Entry) (n19 : Nat) (r34 : List Int) (r35 : List Int) (l37 : List Bridge_Out) (v38 : Int) : Option (((List Bridge_Out) × Int) ⊕ ((List Bridge_Out))) :=
  if (decide (v38 < (r34.length : Int))) = true then
    (nth r34 v38).bind fun x40 =>
    (bridge_Step_J2 a1 a4 a5 l18 n19 r34 r35 l37 v38 x40).bind fun r48 => match r48 with
    | v46 =>
      (leave_At a1 x40 a4 a5.frame).bind fun r49 => match r49 with
      | (l51, v52) =>
        (bridge_Step_1_own (⟨v46, x40, 0, [], (⟨0, 0, 0, []⟩ : Api_Frame), 0⟩ : Bridge_Out) l51 v52 l37).bind fun r53 => match r53 with
        | Sum.inl () =>
          some (Sum.inl (l37 ++ [(⟨5, (⟨v46, x40, 0, [], (⟨0, 0, 0, []⟩ : Api_Frame), 0⟩ : Bridge_Out).port, (⟨v46, x40, 0, [], (⟨0, 0, 0, []⟩ : Api_Frame), 0⟩ : Bridge_Out).domain, [], (⟨v46, x40, 0, [], (⟨0, 0, 0, []⟩ : Api_Frame), 0⟩ : Bridge_Out).frame, v52⟩ : Bridge_Out)], wr_i64 (v38 + 1)))
        | Sum.inr () =>
          some (Sum.inl (l37 ++ [(⟨(⟨v46, x40, 0, [], (⟨0, 0, 0, []⟩ : Api_Frame), 0⟩ : Bridge_Out).kind, (⟨v46, x40, 0, [], (⟨0, 0, 0, []⟩ : Api_Frame), 0⟩ : Bridge_Out).port, (⟨v46, x40, 0, [], (⟨0, 0, 0, []⟩ : Api_Frame), 0⟩ : Bridge_Out).domain, l51, (⟨v46, x40, 0, [], (⟨0, 0, 0, []⟩ : Api_Frame), 0⟩ : Bridge_Out).frame, (⟨v46, x40, 0, [], (⟨0, 0, 0, []⟩ : Api_Frame), 0⟩ : Bridge_Out).error⟩ : Bridge_Out)], wr_i64 (v38 + 1)))
  else
    some (Sum.inr l37)

def bridge_Step_L3 (a1 : Api_Net) (a4 : Int) (a5 : Api_Queued) (l18 : List Api_Entry) (n19 : Nat) (r35 : List Int) (l66 : List Bridge_Out) (v67 : Int) : Option (((List Bridge_Out) × Int) ⊕ ((List Bridge_Out))) :=
  if (decide (v67 < (r35.length : Int))) = true then
    (nth r35 v67).bind fun x69 =>
    (leave_Mesh a1 a4 x69 a5.frame).bind fun r71 => match r71 with
    | (l73, v74) =>
      (bridge_Step_1_own (⟨3, 0, x69, [], (⟨0, 0, 0, []⟩ : Api_Frame), 0⟩ : Bridge_Out) l73 v74 l66).bind fun r75 => match r75 with
      | Sum.inl () =>
        some (Sum.inl (l66 ++ [(⟨5, (⟨3, 0, x69, [], (⟨0, 0, 0, []⟩ : Api_Frame), 0⟩ : Bridge_Out).port, (⟨3, 0, x69, [], (⟨0, 0, 0, []⟩ : Api_Frame), 0⟩ : Bridge_Out).domain, [], (⟨3, 0, x69, [], (⟨0, 0, 0, []⟩ : Api_Frame), 0⟩ : Bridge_Out).frame, v74⟩ : Bridge_Out)], wr_i64 (v67 + 1)))
      | Sum.inr () =>
        some (Sum.inl (l66 ++ [(⟨(⟨3, 0, x69, [], (⟨0, 0, 0, []⟩ : Api_Frame), 0⟩ : Bridge_Out).kind, (⟨3, 0, x69, [], (⟨0, 0, 0, []⟩ : Api_Frame), 0⟩ : Bridge_Out).port, (⟨3, 0, x69, [], (⟨0, 0, 0, []⟩ : Api_Frame), 0⟩ : Bridge_Out).domain, l73, (⟨3, 0, x69, [], (⟨0, 0, 0, []⟩ : Api_Frame), 0⟩ : Bridge_Out).frame, (⟨3, 0, x69, [], (⟨0, 0, 0, []⟩ : Api_Frame), 0⟩ : Bridge_Out).error⟩ : Bridge_Out)], wr_i64 (v67 + 1)))
  else
    some (Sum.inr l66)

def bridge_Step (a1 : Api_Net) (a2 : List Bool) (a3 : List Api_Entry) (a4 : Int) (a5 : Api_Queued) (a6 : Int) : Option (((List Api_Entry) × (List Bridge_Out) × Int)) :=
  (lookup_Flood a1 a2 a4 a5.from_).bind fun r7 => match r7 with
  | (r9, r10, r11) =>
    if (r11 != 0) = true then
      some ([], [], 2)
    else
      (table_Right a3).bind fun r13 =>
      if (!r13) = true then
        some ([], [], 2)
      else
        (bridge_learn a3 a5 a6).bind fun r16 => match r16 with
        | (l18, n19) =>
          (vrfs_Router a1 a4 a5.frame.dst).bind fun r20 =>
          if (r20.2) = true then
            (route_Hop a1 r20.1 a5.frame).bind fun r23 => match r23 with
            | (l25, v26, v27, v28, v29, v30) =>
              if (v30 != 0) = true then
                some (l18, [], v30)
              else
                some (l18, [(⟨4, 0, v26, [], (⟨v27, v28, v29, l25⟩ : Api_Frame), 0⟩ : Bridge_Out)], 0)
          else
            (lookup_Decide a1 a2 l18 a4 a5.from_ a5.frame.dst).bind fun r32 => match r32 with
            | (r34, r35, r36) =>
              (loopM (fun s : (List Bridge_Out) × Int => match s with | (l37, v38) => bridge_Step_L1 a1 a4 a5 l18 n19 r34 r35 l37 v38) ([], 0)).bind fun r65 => match r65 with
              | l63 =>
                (loopM (fun s : (List Bridge_Out) × Int => match s with | (l66, v67) => bridge_Step_L3 a1 a4 a5 l18 n19 r35 l66 v67) (l63, 0)).bind fun r82 => match r82 with
                | l80 =>
                  some (l18, l80, 0)

def palinglaw31_works : Option (Bool) :=
  (bridge_Step (⟨[(⟨0, 0, (⟨#[97]⟩ : ByteArray), 0, 0⟩ : Api_Device)], [(⟨0, 0, 10, 0, (-1), (⟨#[112]⟩ : ByteArray), []⟩ : Api_Port), (⟨0, 0, 10, 0, (-1), (⟨#[113]⟩ : ByteArray), []⟩ : Api_Port), (⟨0, 0, 10, 0, (-1), (⟨#[114]⟩ : ByteArray), []⟩ : Api_Port)], [], [(⟨0, 10, 0, (-1), 0, []⟩ : Api_Domain)], [], [], [], []⟩ : Api_Net) [] [] 0 (⟨1, 0, 0, (⟨281474976710655, 5, 0, []⟩ : Api_Frame)⟩ : Api_Queued) 3).bind fun r1 => match r1 with
  | (r3, r4, r5) =>
    (bridge_Step (⟨[(⟨0, 0, (⟨#[97]⟩ : ByteArray), 0, 0⟩ : Api_Device)], [(⟨0, 0, 10, 0, (-1), (⟨#[112]⟩ : ByteArray), []⟩ : Api_Port), (⟨0, 0, 10, 0, (-1), (⟨#[113]⟩ : ByteArray), []⟩ : Api_Port), (⟨0, 0, 10, 0, (-1), (⟨#[114]⟩ : ByteArray), []⟩ : Api_Port)], [], [(⟨0, 10, 0, (-1), 0, []⟩ : Api_Domain)], [], [], [], []⟩ : Api_Net) [] [] 1 (⟨0, 0, 0, (⟨0, 0, 0, []⟩ : Api_Frame)⟩ : Api_Queued) 3).bind fun r6 => match r6 with
    | (r8, r9, r10) =>
      if (r5 == 0) = true then
        if ((r3.length : Int) == 1) = true then
          (nth r3 0).bind fun x13 =>
          if (eq_Api_Entry x13 (⟨5, 1, 3⟩ : Api_Entry)) = true then
            if ((r4.length : Int) == 2) = true then
              (nth r4 0).bind fun x17 =>
              if (x17.kind == 1) = true then
                (nth r4 1).bind fun x20 =>
                if (x20.port == 2) = true then
                  (nth r4 1).bind fun x23 =>
                  if ((x23.bytes.length : Int) == 14) = true then
                    some (r10 == 2)
                  else
                    some false
                else
                  some false
              else
                some false
            else
              some false
          else
            some false
        else
          some false
      else
        some false

def palingref15_Place (a1 : Int) (a2 : Int) : Option (Bool) :=
  if (decide (a1 ≥ 0)) = true then
    some (decide (a1 < a2))
  else
    some false

def palingref15_At_L1 (a1 : Api_Net) (a2 : Int) (a3 : Int) (v4 : Int) : Option ((Int) ⊕ (Int ⊕ Unit)) :=
  if (decide (v4 < (a1.domains.length : Int))) = true then
    (nth a1.domains v4).bind fun x6 =>
    if (x6.dev == a2) = true then
      (nth a1.domains v4).bind fun x9 =>
      if (x9.vlan == a3) = true then
        some (Sum.inr (Sum.inl v4))
      else
        some (Sum.inl (wr_i64 (v4 + 1)))
    else
      some (Sum.inl (wr_i64 (v4 + 1)))
  else
    some (Sum.inr (Sum.inr ()))

def palingref15_At (a1 : Api_Net) (a2 : Int) (a3 : Int) : Option (Int) :=
  (loopM (palingref15_At_L1 a1 a2 a3) 0).bind fun r15 => match r15 with
  | Sum.inl v13 =>
    some v13
  | Sum.inr () =>
    some (-1)

def palingref15_In_L1 (a1 : List Int) (a2 : Int) (v3 : Int) : Option ((Int) ⊕ (Unit ⊕ Unit)) :=
  if (decide (v3 < (a1.length : Int))) = true then
    (nth a1 v3).bind fun x5 =>
    if (x5 == a2) = true then
      some (Sum.inr (Sum.inl ()))
    else
      some (Sum.inl (wr_i64 (v3 + 1)))
  else
    some (Sum.inr (Sum.inr ()))

def palingref15_In (a1 : List Int) (a2 : Int) : Option (Bool) :=
  (loopM (palingref15_In_L1 a1 a2) 0).bind fun r9 => match r9 with
  | Sum.inl () =>
    some true
  | Sum.inr () =>
    some false

def palingref15_peer (a1 : Api_Net) (a2 : Int) (a3 : Int) : Option (Bool) :=
  (palingref15_Place a3 (a1.domains.length : Int)).bind fun r4 =>
  if (!r4) = true then
    some false
  else
    if (a3 == a2) = true then
      some false
    else
      (nth a1.domains a2).bind fun x8 =>
      (nth a1.domains a3).bind fun x10 =>
      if (x8.dev != x10.dev) = true then
        if (x8.vni == x10.vni) = true then
          if (x8.vni != 0) = true then
            (nth a1.devices x8.dev).bind fun x15 =>
            if (x15.vtep != 0) = true then
              (nth a1.devices x10.dev).bind fun x18 =>
              if (x18.vtep != 0) = true then
                (palingref15_In x10.peers a2).bind fun r21 =>
                some r21
              else
                some false
            else
              some false
          else
            some false
        else
          some false
      else
        some false

def palingref15_domains_L1 (a1 : Api_Net) (v2 : Int) : Option ((Int) ⊕ (Unit ⊕ Unit)) :=
  if (decide (v2 < (a1.domains.length : Int))) = true then
    (nth a1.domains v2).bind fun x4 =>
    (palingref15_Place x4.dev (a1.devices.length : Int)).bind fun r6 =>
    if (!r6) = true then
      some (Sum.inr (Sum.inl ()))
    else
      if (decide (x4.vlan < 1)) = true then
        some (Sum.inr (Sum.inl ()))
      else
        if (decide (x4.vlan > 4094)) = true then
          some (Sum.inr (Sum.inl ()))
        else
          if (decide (x4.vni < 0)) = true then
            some (Sum.inr (Sum.inl ()))
          else
            if (decide (x4.vni ≥ 16777216)) = true then
              some (Sum.inr (Sum.inl ()))
            else
              (palingref15_At a1 x4.dev x4.vlan).bind fun r13 =>
              if (r13 != v2) = true then
                some (Sum.inr (Sum.inl ()))
              else
                if (x4.irb != (-1)) = true then
                  (palingref15_Place x4.irb (a1.irbs.length : Int)).bind fun r17 =>
                  if (!r17) = true then
                    some (Sum.inr (Sum.inl ()))
                  else
                    (nth a1.irbs x4.irb).bind fun x20 =>
                    if (x20.domain != v2) = true then
                      some (Sum.inr (Sum.inl ()))
                    else
                      some (Sum.inl (wr_i64 (v2 + 1)))
                else
                  some (Sum.inl (wr_i64 (v2 + 1)))
  else
    some (Sum.inr (Sum.inr ()))

def palingref15_domains_L3 (a1 : Api_Net) (v25 : Int) (x27 : Api_Domain) (v29 : Int) : Option ((Int) ⊕ (Unit ⊕ Unit)) :=
  if (decide (v29 < (x27.peers.length : Int))) = true then
    (nth x27.peers v29).bind fun x31 =>
    (palingref15_peer a1 v25 x31).bind fun r33 =>
    if (!r33) = true then
      some (Sum.inr (Sum.inl ()))
    else
      if (slok (List.length x27.peers) 0 v29) = true then
        (nth x27.peers v29).bind fun x37 =>
        (palingref15_In (List.drop (Int.toNat 0) (List.take (Int.toNat v29) x27.peers)) x37).bind fun r39 =>
        if (r39) = true then
          some (Sum.inr (Sum.inl ()))
        else
          some (Sum.inl (wr_i64 (v29 + 1)))
      else
        none
  else
    some (Sum.inr (Sum.inr ()))

def palingref15_domains_L2 (a1 : Api_Net) (v25 : Int) : Option ((Int) ⊕ (Unit ⊕ Unit)) :=
  if (decide (v25 < (a1.domains.length : Int))) = true then
    (nth a1.domains v25).bind fun x27 =>
    (loopM (palingref15_domains_L3 a1 v25 x27) 0).bind fun r43 => match r43 with
    | Sum.inl () =>
      some (Sum.inr (Sum.inl ()))
    | Sum.inr () =>
      some (Sum.inl (wr_i64 (v25 + 1)))
  else
    some (Sum.inr (Sum.inr ()))

def palingref15_domains (a1 : Api_Net) : Option (Bool) :=
  (loopM (palingref15_domains_L1 a1) 0).bind fun r24 => match r24 with
  | Sum.inl () =>
    some false
  | Sum.inr () =>
    (loopM (palingref15_domains_L2 a1) 0).bind fun r45 => match r45 with
    | Sum.inl () =>
      some false
    | Sum.inr () =>
      some true

def palingref03_Rising_L1 (a1 : List Int) (a2 : Int) (a3 : Int) (v6 : Int) : Option ((Int) ⊕ (Unit ⊕ Unit)) :=
  if (decide (v6 < (a1.length : Int))) = true then
    (nth a1 v6).bind fun x8 =>
    if (decide (x8 < a2)) = true then
      some (Sum.inr (Sum.inl ()))
    else
      (nth a1 v6).bind fun x11 =>
      if (decide (x11 > a3)) = true then
        some (Sum.inr (Sum.inl ()))
      else
        if (decide (v6 > 0)) = true then
          (nth a1 v6).bind fun x15 =>
          (nth a1 (wr_i64 (v6 - 1))).bind fun x17 =>
          if (decide (x15 ≤ x17)) = true then
            some (Sum.inr (Sum.inl ()))
          else
            some (Sum.inl (wr_i64 (v6 + 1)))
        else
          some (Sum.inl (wr_i64 (v6 + 1)))
  else
    some (Sum.inr (Sum.inr ()))

def palingref03_Rising (a1 : List Int) (a2 : Int) (a3 : Int) : Option (Bool) :=
  if (decide ((a1.length : Int) < 1)) = true then
    some false
  else
    if (decide ((a1.length : Int) > 16)) = true then
      some false
    else
      (loopM (palingref03_Rising_L1 a1 a2 a3) 0).bind fun r21 => match r21 with
      | Sum.inl () =>
        some false
      | Sum.inr () =>
        some true

def palingref15_rising (a1 : List Int) (a2 : Int) : Option (Bool) :=
  if ((a1.length : Int) == 0) = true then
    some true
  else
    (palingref03_Rising a1 1 a2).bind fun r4 =>
    some r4

def palingref15_ports_J2 (a1 : Api_Net) (v2 : Int) (x4 : Api_Port) : Option (Unit ⊕ Unit) :=
  if (x4.native == 0) = true then
    if ((x4.tagged.length : Int) == 0) = true then
      some (Sum.inl ())
    else
      if (decide (x4.native > 0)) = true then
        (palingref15_At a1 x4.dev x4.native).bind fun r20 =>
        if (decide (r20 < 0)) = true then
          some (Sum.inl ())
        else
          some (Sum.inr ())
      else
        some (Sum.inr ())
  else
    if (decide (x4.native > 0)) = true then
      (palingref15_At a1 x4.dev x4.native).bind fun r24 =>
      if (decide (r24 < 0)) = true then
        some (Sum.inl ())
      else
        some (Sum.inr ())
    else
      some (Sum.inr ())

def palingref15_ports_L3 (a1 : Api_Net) (v2 : Int) (x4 : Api_Port) (v29 : Int) : Option ((Int) ⊕ (Unit ⊕ Unit)) :=
  if (decide (v29 < (x4.tagged.length : Int))) = true then
    (nth x4.tagged v29).bind fun x31 =>
    (palingref15_At a1 x4.dev x31).bind fun r33 =>
    if (decide (r33 < 0)) = true then
      some (Sum.inr (Sum.inl ()))
    else
      some (Sum.inl (wr_i64 (v29 + 1)))
  else
    some (Sum.inr (Sum.inr ()))

def palingref15_ports_L1 (a1 : Api_Net) (v2 : Int) : Option ((Int) ⊕ (Unit ⊕ Unit)) :=
  if (decide (v2 < (a1.ports.length : Int))) = true then
    (nth a1.ports v2).bind fun x4 =>
    (palingref15_Place x4.dev (a1.devices.length : Int)).bind fun r6 =>
    if (!r6) = true then
      some (Sum.inr (Sum.inl ()))
    else
      if (decide (x4.native < 0)) = true then
        some (Sum.inr (Sum.inl ()))
      else
        if (decide (x4.native > 4094)) = true then
          some (Sum.inr (Sum.inl ()))
        else
          (palingref15_rising x4.tagged 4094).bind fun r11 =>
          if (!r11) = true then
            some (Sum.inr (Sum.inl ()))
          else
            (palingref15_In x4.tagged x4.native).bind fun r14 =>
            if (r14) = true then
              some (Sum.inr (Sum.inl ()))
            else
              (palingref15_ports_J2 a1 v2 x4).bind fun r28 => match r28 with
              | Sum.inl () =>
                some (Sum.inr (Sum.inl ()))
              | Sum.inr () =>
                (loopM (palingref15_ports_L3 a1 v2 x4) 0).bind fun r37 => match r37 with
                | Sum.inl () =>
                  some (Sum.inr (Sum.inl ()))
                | Sum.inr () =>
                  if (x4.link == (-1)) = true then
                    some (Sum.inl (wr_i64 (v2 + 1)))
                  else
                    (palingref15_Place x4.link (a1.links.length : Int)).bind fun r39 =>
                    if (!r39) = true then
                      some (Sum.inr (Sum.inl ()))
                    else
                      (nth a1.links x4.link).bind fun x42 =>
                      if (x42.a != v2) = true then
                        (nth a1.links x4.link).bind fun x45 =>
                        if (x45.b != v2) = true then
                          some (Sum.inr (Sum.inl ()))
                        else
                          some (Sum.inl (wr_i64 (v2 + 1)))
                      else
                        some (Sum.inl (wr_i64 (v2 + 1)))
  else
    some (Sum.inr (Sum.inr ()))

def palingref15_ports (a1 : Api_Net) : Option (Bool) :=
  (loopM (palingref15_ports_L1 a1) 0).bind fun r49 => match r49 with
  | Sum.inl () =>
    some false
  | Sum.inr () =>
    some true

def palingref15_links_L1 (a1 : Api_Net) (v2 : Int) : Option ((Int) ⊕ (Unit ⊕ Unit)) :=
  if (decide (v2 < (a1.links.length : Int))) = true then
    (nth a1.links v2).bind fun x4 =>
    (palingref15_Place x4.a (a1.ports.length : Int)).bind fun r6 =>
    if (!r6) = true then
      some (Sum.inr (Sum.inl ()))
    else
      (palingref15_Place x4.b (a1.ports.length : Int)).bind fun r9 =>
      if (!r9) = true then
        some (Sum.inr (Sum.inl ()))
      else
        (nth a1.ports x4.a).bind fun x12 =>
        (nth a1.ports x4.b).bind fun x14 =>
        if (x12.dev == x14.dev) = true then
          some (Sum.inr (Sum.inl ()))
        else
          (nth a1.ports x4.a).bind fun x17 =>
          if (x17.link != v2) = true then
            some (Sum.inr (Sum.inl ()))
          else
            (nth a1.ports x4.b).bind fun x20 =>
            if (x20.link != v2) = true then
              some (Sum.inr (Sum.inl ()))
            else
              some (Sum.inl (wr_i64 (v2 + 1)))
  else
    some (Sum.inr (Sum.inr ()))

def palingref15_links (a1 : Api_Net) : Option (Bool) :=
  (loopM (palingref15_links_L1 a1) 0).bind fun r24 => match r24 with
  | Sum.inl () =>
    some false
  | Sum.inr () =>
    some true

def palingref15_Member (a1 : Api_Port) (a2 : Int) : Option (Bool) :=
  if (a2 != 0) = true then
    if (a1.native == a2) = true then
      some true
    else
      (palingref15_In a1.tagged a2).bind fun r5 =>
      some r5
  else
    some false

def palingref15_rest_L1 (a1 : Api_Net) (v2 : Int) : Option ((Int) ⊕ (Unit ⊕ Unit)) :=
  if (decide (v2 < (a1.statics.length : Int))) = true then
    (nth a1.statics v2).bind fun x4 =>
    (palingref15_Place x4.domain (a1.domains.length : Int)).bind fun r6 =>
    if (!r6) = true then
      some (Sum.inr (Sum.inl ()))
    else
      (palingref15_Place x4.port (a1.ports.length : Int)).bind fun r9 =>
      if (!r9) = true then
        some (Sum.inr (Sum.inl ()))
      else
        (nth a1.domains x4.domain).bind fun x12 =>
        (nth a1.ports x4.port).bind fun x14 =>
        if (x14.dev != x12.dev) = true then
          some (Sum.inr (Sum.inl ()))
        else
          (nth a1.ports x4.port).bind fun x17 =>
          (palingref15_Member x17 x12.vlan).bind fun r19 =>
          if (!r19) = true then
            some (Sum.inr (Sum.inl ()))
          else
            some (Sum.inl (wr_i64 (v2 + 1)))
  else
    some (Sum.inr (Sum.inr ()))

def palingref15_rest_L2 (a1 : Api_Net) (v24 : Int) : Option ((Int) ⊕ (Unit ⊕ Unit)) :=
  if (decide (v24 < (a1.floods.length : Int))) = true then
    (nth a1.floods v24).bind fun x26 =>
    (palingref15_Place x26.dev (a1.devices.length : Int)).bind fun r28 =>
    if (!r28) = true then
      some (Sum.inr (Sum.inl ()))
    else
      (nth a1.floods v24).bind fun x31 =>
      if (decide ((x31.addrs.length : Int) > 16)) = true then
        some (Sum.inr (Sum.inl ()))
      else
        some (Sum.inl (wr_i64 (v24 + 1)))
  else
    some (Sum.inr (Sum.inr ()))

def palingref15_rest_L3 (a1 : Api_Net) (v36 : Int) : Option ((Int) ⊕ (Unit ⊕ Unit)) :=
  if (decide (v36 < (a1.vrfs.length : Int))) = true then
    (nth a1.vrfs v36).bind fun x38 =>
    (palingref15_Place x38.dev (a1.devices.length : Int)).bind fun r40 =>
    if (!r40) = true then
      some (Sum.inr (Sum.inl ()))
    else
      (palingref15_rising x38.imports 65535).bind fun r43 =>
      if (!r43) = true then
        some (Sum.inr (Sum.inl ()))
      else
        (palingref15_rising x38.exports 65535).bind fun r46 =>
        if (!r46) = true then
          some (Sum.inr (Sum.inl ()))
        else
          some (Sum.inl (wr_i64 (v36 + 1)))
  else
    some (Sum.inr (Sum.inr ()))

def palingref15_rest_L4 (a1 : Api_Net) (v51 : Int) : Option ((Int) ⊕ (Unit ⊕ Unit)) :=
  if (decide (v51 < (a1.irbs.length : Int))) = true then
    (nth a1.irbs v51).bind fun x53 =>
    (palingref15_Place x53.domain (a1.domains.length : Int)).bind fun r55 =>
    if (!r55) = true then
      some (Sum.inr (Sum.inl ()))
    else
      (palingref15_Place x53.vrf (a1.vrfs.length : Int)).bind fun r58 =>
      if (!r58) = true then
        some (Sum.inr (Sum.inl ()))
      else
        if (decide (x53.net.bits < 1)) = true then
          some (Sum.inr (Sum.inl ()))
        else
          if (decide (x53.net.bits > 30)) = true then
            some (Sum.inr (Sum.inl ()))
          else
            (nth a1.domains x53.domain).bind fun x63 =>
            (nth a1.vrfs x53.vrf).bind fun x65 =>
            if (x63.dev != x65.dev) = true then
              some (Sum.inr (Sum.inl ()))
            else
              (nth a1.domains x53.domain).bind fun x68 =>
              if (x68.irb != v51) = true then
                some (Sum.inr (Sum.inl ()))
              else
                some (Sum.inl (wr_i64 (v51 + 1)))
  else
    some (Sum.inr (Sum.inr ()))

def palingref15_rest (a1 : Api_Net) : Option (Bool) :=
  (loopM (palingref15_rest_L1 a1) 0).bind fun r23 => match r23 with
  | Sum.inl () =>
    some false
  | Sum.inr () =>
    (loopM (palingref15_rest_L2 a1) 0).bind fun r35 => match r35 with
    | Sum.inl () =>
      some false
    | Sum.inr () =>
      (loopM (palingref15_rest_L3 a1) 0).bind fun r50 => match r50 with
      | Sum.inl () =>
        some false
      | Sum.inr () =>
        (loopM (palingref15_rest_L4 a1) 0).bind fun r72 => match r72 with
        | Sum.inl () =>
          some false
        | Sum.inr () =>
          some true

def palingref15_Right (a1 : Api_Net) : Option (Bool) :=
  if (decide ((a1.devices.length : Int) > 8)) = true then
    some false
  else
    if (decide ((a1.ports.length : Int) > 40)) = true then
      some false
    else
      if (decide ((a1.links.length : Int) > 20)) = true then
        some false
      else
        if (decide ((a1.domains.length : Int) > 48)) = true then
          some false
        else
          if (decide ((a1.statics.length : Int) > 64)) = true then
            some false
          else
            if (decide ((a1.floods.length : Int) > 48)) = true then
              some false
            else
              if (decide ((a1.vrfs.length : Int) > 16)) = true then
                some false
              else
                if (decide ((a1.irbs.length : Int) > 48)) = true then
                  some false
                else
                  (palingref15_domains a1).bind fun r10 =>
                  if (r10) = true then
                    (palingref15_ports a1).bind fun r13 =>
                    if (r13) = true then
                      (palingref15_links a1).bind fun r16 =>
                      if (r16) = true then
                        (palingref15_rest a1).bind fun r19 =>
                        some r19
                      else
                        some false
                    else
                      some false
                  else
                    some false

def palingref15_Members_L1 (a1 : Api_Net) (x6 : Api_Domain) (l8 : List Int) (v9 : Int) : Option (((List Int) × Int) ⊕ ((List Int))) :=
  if (decide (v9 < (a1.ports.length : Int))) = true then
    (nth a1.ports v9).bind fun x11 =>
    if (x11.dev == x6.dev) = true then
      (nth a1.ports v9).bind fun x14 =>
      (palingref15_Member x14 x6.vlan).bind fun r16 =>
      if (r16) = true then
        if (roomy 8 (l8 ++ [v9])) = true then
          some (Sum.inl (l8 ++ [v9], wr_i64 (v9 + 1)))
        else
          none
      else
        some (Sum.inl (l8, wr_i64 (v9 + 1)))
    else
      some (Sum.inl (l8, wr_i64 (v9 + 1)))
  else
    some (Sum.inr l8)

def palingref15_Members (a1 : Api_Net) (a2 : Int) : Option (((List Int))) :=
  (palingref15_Place a2 (a1.domains.length : Int)).bind fun r3 =>
  if (!r3) = true then
    some []
  else
    (nth a1.domains a2).bind fun x6 =>
    (loopM (fun s : (List Int) × Int => match s with | (l8, v9) => palingref15_Members_L1 a1 x6 l8 v9) ([], 0)).bind fun r24 => match r24 with
    | l22 =>
      some l22

def palingref29_fits (a1 : Api_Net) (a2 : List Bool) (a3 : Int) (a4 : Int) : Option (Bool) :=
  (palingref15_Right a1).bind fun r5 =>
  if (!r5) = true then
    some false
  else
    if ((a2.length : Int) != (a1.links.length : Int)) = true then
      some false
    else
      (palingref15_Place a3 (a1.domains.length : Int)).bind fun r9 =>
      if (!r9) = true then
        some false
      else
        if (a4 == (-1)) = true then
          some true
        else
          if (a4 == (-2)) = true then
            some true
          else
            (palingref15_Members a1 a3).bind fun r14 => match r14 with
            | l16 =>
              (palingref15_In l16 a4).bind fun r17 =>
              some r17

def palingref29_Usable (a1 : Api_Net) (a2 : List Bool) (a3 : Int) : Option (Bool) :=
  (palingref15_Place a3 (a1.ports.length : Int)).bind fun r4 =>
  if (r4) = true then
    (nth a1.ports a3).bind fun x7 =>
    if (x7.link == (-1)) = true then
      some true
    else
      (nth a1.ports a3).bind fun x10 =>
      (nth a2 x10.link).bind fun x12 =>
      some x12
  else
    some false

def palingref29_Flood_L1 (a1 : Api_Net) (a2 : List Bool) (a3 : Int) (a4 : Int) (l10 : List Int) (l11 : List Int) (v12 : Int) : Option (((List Int) × Int) ⊕ ((List Int))) :=
  if (decide (v12 < ((List.length l10) : Int))) = true then
    if (lin l10 v12) = true then
      (l10[(Int.toNat v12)]?).bind fun x15 =>
      if (x15 != a4) = true then
        (l10[(Int.toNat v12)]?).bind fun x18 =>
        (palingref29_Usable a1 a2 x18).bind fun r20 =>
        if (r20) = true then
          (l10[(Int.toNat v12)]?).bind fun x23 =>
          if (roomy 8 (l11 ++ [x23])) = true then
            some (Sum.inl (l11 ++ [x23], wr_i64 (v12 + 1)))
          else
            none
        else
          some (Sum.inl (l11, wr_i64 (v12 + 1)))
      else
        some (Sum.inl (l11, wr_i64 (v12 + 1)))
    else
      none
  else
    some (Sum.inr l11)

def palingref29_Flood (a1 : Api_Net) (a2 : List Bool) (a3 : Int) (a4 : Int) : Option (((List Int) × (List Int) × Int)) :=
  (palingref29_fits a1 a2 a3 a4).bind fun r5 =>
  if (!r5) = true then
    some ([], [], 2)
  else
    (palingref15_Members a1 a3).bind fun r8 => match r8 with
    | l10 =>
      (loopM (fun s : (List Int) × Int => match s with | (l11, v12) => palingref29_Flood_L1 a1 a2 a3 a4 l10 l11 v12) ([], 0)).bind fun r35 => match r35 with
      | l33 =>
        if (a4 == (-1)) = true then
          some (l33, [], 0)
        else
          (nth a1.domains a3).bind fun x37 =>
          some (l33, x37.peers, 0)

def palingref01_Bytes_L2 (a1 : Int) (l2 : List Int) (v3 : Int) (v5 : Int) (v6 : Int) : Option ((Int × Int) ⊕ (Int)) :=
  if (decide (v6 < v3)) = true then
    some (Sum.inl (wr_u64 (Int.tdiv v5 256), wr_i64 (v6 + 1)))
  else
    some (Sum.inr v5)

def palingref01_Bytes_L1 (a1 : Int) (l2 : List Int) (v3 : Int) : Option (((List Int) × Int) ⊕ ((List Int))) :=
  if (decide (v3 ≥ 0)) = true then
    (loopM (fun s : Int × Int => match s with | (v5, v6) => palingref01_Bytes_L2 a1 l2 v3 v5 v6) (a1, 0)).bind fun r11 => match r11 with
    | v9 =>
      if (roomy 1 (l2 ++ [(wr_u8 (Int.tmod v9 256) : Int)])) = true then
        some (Sum.inl (l2 ++ [(wr_u8 (Int.tmod v9 256) : Int)], wr_i64 (v3 - 1)))
      else
        none
  else
    some (Sum.inr l2)

def palingref01_Bytes (a1 : Int) : Option (((List Int))) :=
  (loopM (fun s : (List Int) × Int => match s with | (l2, v3) => palingref01_Bytes_L1 a1 l2 v3) ([], 5)).bind fun r17 => match r17 with
  | l15 =>
    some l15

def palingref01_Group (a1 : Int) : Option (Bool) :=
  (palingref01_Bytes a1).bind fun r2 => match r2 with
  | l4 =>
    if (lin l4 0) = true then
      (l4[(Int.toNat 0)]?).bind fun x6 =>
      some ((Int.tmod x6 2) == 1)
    else
      none

def palingref26_station (a1 : Int) : Option (Bool) :=
  if (decide (a1 < 281474976710656)) = true then
    (palingref01_Group a1).bind fun r3 =>
    some (!r3)
  else
    some false

def palingref26_timely (a1 : Int) : Option (Bool) :=
  if (decide (a1 ≥ 0)) = true then
    some (decide (a1 ≤ 1099511627776))
  else
    some false

def palingref26_Right_L2 (a1 : List Api_Entry) (v3 : Int) (v15 : Int) : Option ((Int) ⊕ (Unit ⊕ Unit)) :=
  if (decide (v15 < v3)) = true then
    (nth a1 v15).bind fun x17 =>
    (nth a1 v3).bind fun x19 =>
    if (x17.mac == x19.mac) = true then
      some (Sum.inr (Sum.inl ()))
    else
      some (Sum.inl (wr_i64 (v15 + 1)))
  else
    some (Sum.inr (Sum.inr ()))

def palingref26_Right_L1 (a1 : List Api_Entry) (v3 : Int) : Option ((Int) ⊕ (Unit ⊕ Unit)) :=
  if (decide (v3 < (a1.length : Int))) = true then
    (nth a1 v3).bind fun x5 =>
    (palingref26_station x5.mac).bind fun r7 =>
    if (!r7) = true then
      some (Sum.inr (Sum.inl ()))
    else
      (nth a1 v3).bind fun x10 =>
      (palingref26_timely x10.seen).bind fun r12 =>
      if (!r12) = true then
        some (Sum.inr (Sum.inl ()))
      else
        (loopM (palingref26_Right_L2 a1 v3) 0).bind fun r23 => match r23 with
        | Sum.inl () =>
          some (Sum.inr (Sum.inl ()))
        | Sum.inr () =>
          some (Sum.inl (wr_i64 (v3 + 1)))
  else
    some (Sum.inr (Sum.inr ()))

def palingref26_Right (a1 : List Api_Entry) : Option (Bool) :=
  if (decide ((a1.length : Int) > 8)) = true then
    some false
  else
    (loopM (palingref26_Right_L1 a1) 0).bind fun r25 => match r25 with
    | Sum.inl () =>
      some false
    | Sum.inr () =>
      some true

def palingref26_Find_L1 (a1 : List Api_Entry) (a2 : Int) (v3 : Int) : Option ((Int) ⊕ (Int ⊕ Unit)) :=
  if (decide (v3 < (a1.length : Int))) = true then
    (nth a1 v3).bind fun x5 =>
    if (x5.mac == a2) = true then
      (nth a1 v3).bind fun x8 =>
      some (Sum.inr (Sum.inl x8.where_))
    else
      some (Sum.inl (wr_i64 (v3 + 1)))
  else
    some (Sum.inr (Sum.inr ()))

def palingref26_Find (a1 : List Api_Entry) (a2 : Int) : Option (Int × Bool) :=
  (loopM (palingref26_Find_L1 a1 a2) 0).bind fun r13 => match r13 with
  | Sum.inl v11 =>
    some (v11, true)
  | Sum.inr () =>
    some (0, false)

def palingref26_Learn_L1 (a1 : List Api_Entry) (a2 : Int) (a3 : Int) (a4 : Int) (r17 : Int × Bool) (v19 : Int) (v20 : Int) : Option ((Int × Int) ⊕ (Int)) :=
  if (decide (v20 < (a1.length : Int))) = true then
    if ((a1.length : Int) == 8) = true then
      if (!r17.2) = true then
        if (decide (v19 < 0)) = true then
          some (Sum.inl (v20, wr_i64 (v20 + 1)))
        else
          (nth a1 v20).bind fun x25 =>
          (nth a1 v19).bind fun x27 =>
          if (decide (x25.seen < x27.seen)) = true then
            some (Sum.inl (v20, wr_i64 (v20 + 1)))
          else
            some (Sum.inl (v19, wr_i64 (v20 + 1)))
      else
        some (Sum.inr v19)
    else
      some (Sum.inr v19)
  else
    some (Sum.inr v19)

def palingref26_Learn_L2 (a1 : List Api_Entry) (a2 : Int) (a3 : Int) (a4 : Int) (r17 : Int × Bool) (v31 : Int) (l34 : List Api_Entry) (v35 : Int) : Option (((List Api_Entry) × Int) ⊕ ((List Api_Entry))) :=
  if (decide (v35 < (a1.length : Int))) = true then
    (nth a1 v35).bind fun x37 =>
    if (x37.mac == a2) = true then
      if (roomy 24 (l34 ++ [(⟨a2, a3, a4⟩ : Api_Entry)])) = true then
        some (Sum.inl (l34 ++ [(⟨a2, a3, a4⟩ : Api_Entry)], wr_i64 (v35 + 1)))
      else
        none
    else
      if (v35 != v31) = true then
        (nth a1 v35).bind fun x42 =>
        if (roomy 24 (l34 ++ [x42])) = true then
          some (Sum.inl (l34 ++ [x42], wr_i64 (v35 + 1)))
        else
          none
      else
        some (Sum.inl (l34, wr_i64 (v35 + 1)))
  else
    some (Sum.inr l34)

def palingref26_Learn (a1 : List Api_Entry) (a2 : Int) (a3 : Int) (a4 : Int) : Option (((List Api_Entry))) :=
  (palingref26_Right a1).bind fun r5 =>
  if (!r5) = true then
    if (roomy 24 a1) = true then
      some a1
    else
      none
  else
    (palingref26_station a2).bind fun r9 =>
    if (!r9) = true then
      if (roomy 24 a1) = true then
        some a1
      else
        none
    else
      (palingref26_timely a4).bind fun r13 =>
      if (!r13) = true then
        if (roomy 24 a1) = true then
          some a1
        else
          none
      else
        (palingref26_Find a1 a2).bind fun r17 =>
        (loopM (fun s : Int × Int => match s with | (v19, v20) => palingref26_Learn_L1 a1 a2 a3 a4 r17 v19 v20) ((-1), 0)).bind fun r33 => match r33 with
        | v31 =>
          (loopM (fun s : (List Api_Entry) × Int => match s with | (l34, v35) => palingref26_Learn_L2 a1 a2 a3 a4 r17 v31 l34 v35) ([], 0)).bind fun r53 => match r53 with
          | l51 =>
            if (!r17.2) = true then
              if (roomy 24 (l51 ++ [(⟨a2, a3, a4⟩ : Api_Entry)])) = true then
                some (l51 ++ [(⟨a2, a3, a4⟩ : Api_Entry)])
              else
                none
            else
              some l51

def palingref01_Host (a1 : Int) : Option (Int) :=
  some (wr_u64 (2199023255552 + (wr_u64 a1)))

def palingref20_Router_L1 (a1 : Api_Net) (a2 : Int) (a3 : Int) (v4 : Int) : Option ((Int) ⊕ (Int ⊕ Unit)) :=
  if (decide (v4 < (a1.irbs.length : Int))) = true then
    (nth a1.irbs v4).bind fun x6 =>
    if (x6.domain == a2) = true then
      (nth a1.irbs v4).bind fun x9 =>
      (palingref01_Host x9.net.addr).bind fun r11 =>
      if (r11 == a3) = true then
        some (Sum.inr (Sum.inl v4))
      else
        some (Sum.inl (wr_i64 (v4 + 1)))
    else
      some (Sum.inl (wr_i64 (v4 + 1)))
  else
    some (Sum.inr (Sum.inr ()))

def palingref20_Router (a1 : Api_Net) (a2 : Int) (a3 : Int) : Option (Int × Bool) :=
  (loopM (palingref20_Router_L1 a1 a2 a3) 0).bind fun r17 => match r17 with
  | Sum.inl v15 =>
    some (v15, true)
  | Sum.inr () =>
    some (0, false)

def palingref07_number_L1 (a1 : List Int) (v2 : Int) (v3 : Int) : Option ((Int × Int) ⊕ (Int)) :=
  if (decide (v3 < (a1.length : Int))) = true then
    (nth a1 v3).bind fun x5 =>
    some (Sum.inl (wr_i64 ((wr_i64 (v2 * 256)) + (wr_i64 x5)), wr_i64 (v3 + 1)))
  else
    some (Sum.inr v2)

def palingref07_number (a1 : List Int) : Option (Int) :=
  (loopM (fun s : Int × Int => match s with | (v2, v3) => palingref07_number_L1 a1 v2 v3) (0, 0)).bind fun r10 => match r10 with
  | v8 =>
    some v8

def palingref06_Sum_L1 (a1 : List Int) (v2 : Int) (v3 : Int) : Option ((Int × Int) ⊕ (Int)) :=
  if (decide (v3 < (a1.length : Int))) = true then
    (nth a1 v3).bind fun x5 =>
    if (decide ((wr_i64 (v3 + 1)) < (a1.length : Int))) = true then
      (nth a1 (wr_i64 (v3 + 1))).bind fun x8 =>
      if (decide ((wr_i64 (v2 + (wr_i64 ((wr_i64 ((wr_i64 x5) * 256)) + (wr_i64 x8))))) > 65535)) = true then
        some (Sum.inl (wr_i64 ((wr_i64 (v2 + (wr_i64 ((wr_i64 ((wr_i64 x5) * 256)) + (wr_i64 x8))))) - 65535), wr_i64 (v3 + 2)))
      else
        some (Sum.inl (wr_i64 (v2 + (wr_i64 ((wr_i64 ((wr_i64 x5) * 256)) + (wr_i64 x8)))), wr_i64 (v3 + 2)))
    else
      if (decide ((wr_i64 (v2 + (wr_i64 ((wr_i64 x5) * 256)))) > 65535)) = true then
        some (Sum.inl (wr_i64 ((wr_i64 (v2 + (wr_i64 ((wr_i64 x5) * 256)))) - 65535), wr_i64 (v3 + 2)))
      else
        some (Sum.inl (wr_i64 (v2 + (wr_i64 ((wr_i64 x5) * 256))), wr_i64 (v3 + 2)))
  else
    some (Sum.inr v2)

def palingref06_Sum (a1 : List Int) : Option (Int) :=
  (loopM (fun s : Int × Int => match s with | (v2, v3) => palingref06_Sum_L1 a1 v2 v3) (0, 0)).bind fun r15 => match r15 with
  | v13 =>
    some v13

def palingref06_Right (a1 : List Int) : Option (Bool) :=
  (palingref06_Sum a1).bind fun r2 =>
  some (r2 == 65535)

def palingref07_Take (a1 : List Int) : Option (((List Int) × Int × Int × Int × Int × Int × Int × Int)) :=
  if (decide ((a1.length : Int) < 20)) = true then
    some ([], 0, 0, 0, 0, 0, 0, 10)
  else
    if (slok (List.length a1) 2 4) = true then
      (palingref07_number (List.drop (Int.toNat 2) (List.take (Int.toNat 4) a1))).bind fun r4 =>
      (nth a1 0).bind fun x6 =>
      if (x6 != 69) = true then
        some ([], 0, 0, 0, 0, 0, 0, 11)
      else
        if (decide (r4 < 20)) = true then
          some ([], 0, 0, 0, 0, 0, 0, 11)
        else
          if (decide (r4 > (a1.length : Int))) = true then
            some ([], 0, 0, 0, 0, 0, 0, 10)
          else
            if (slok (List.length a1) 6 8) = true then
              (palingref07_number (List.drop (Int.toNat 6) (List.take (Int.toNat 8) a1))).bind fun r12 =>
              if (r12 != 0) = true then
                some ([], 0, 0, 0, 0, 0, 0, 11)
              else
                if (slok (List.length a1) 0 20) = true then
                  (palingref06_Right (List.drop (Int.toNat 0) (List.take (Int.toNat 20) a1))).bind fun r16 =>
                  if (!r16) = true then
                    some ([], 0, 0, 0, 0, 0, 0, 12)
                  else
                    (nth a1 1).bind fun x19 =>
                    if (slok (List.length a1) 4 6) = true then
                      (palingref07_number (List.drop (Int.toNat 4) (List.take (Int.toNat 6) a1))).bind fun r22 =>
                      (nth a1 8).bind fun x24 =>
                      (nth a1 9).bind fun x26 =>
                      if (slok (List.length a1) 12 16) = true then
                        (palingref07_number (List.drop (Int.toNat 12) (List.take (Int.toNat 16) a1))).bind fun r29 =>
                        if (slok (List.length a1) 16 20) = true then
                          (palingref07_number (List.drop (Int.toNat 16) (List.take (Int.toNat 20) a1))).bind fun r32 =>
                          if (slok (List.length a1) 20 r4) = true then
                            if (roomy 1 (List.drop (Int.toNat 20) (List.take (Int.toNat r4) a1))) = true then
                              some (List.drop (Int.toNat 20) (List.take (Int.toNat r4) a1), wr_i64 x19, r22, wr_i64 x24, wr_i64 x26, wr_u32 r29, wr_u32 r32, 0)
                            else
                              none
                          else
                            none
                        else
                          none
                      else
                        none
                    else
                      none
                else
                  none
            else
              none
    else
      none

def palingref07_Hop (a1 : Api_Packet) : Option ((Api_Packet × Int)) :=
  if (decide (a1.ttl ≤ 1)) = true then
    some ((⟨0, 0, 0, 0, 0, 0, []⟩ : Api_Packet), 13)
  else
    some ((⟨a1.tos, a1.id, wr_i64 (a1.ttl - 1), a1.proto, a1.src, a1.dst, a1.body⟩ : Api_Packet), 0)

def palingref30_device (a1 : Api_Net) (a2 : Int) : Option (Int) :=
  (nth a1.irbs a2).bind fun x3 =>
  (nth a1.domains x3.domain).bind fun x5 =>
  some x5.dev

def palingref02_Right (a1 : Api_Prefix) : Option (Bool) :=
  if (decide (a1.bits ≥ 0)) = true then
    some (decide (a1.bits ≤ 32))
  else
    some false

def palingref02_size_L1 (v2 : Int) (v3 : Int) : Option ((Int × Int) ⊕ (Int)) :=
  if (decide (v3 < 32)) = true then
    some (Sum.inl (wr_i64 (v2 * 2), wr_i64 (v3 + 1)))
  else
    some (Sum.inr v2)

def palingref02_size (a1 : Api_Prefix) : Option (Int) :=
  (loopM (fun s : Int × Int => match s with | (v2, v3) => palingref02_size_L1 v2 v3) (1, a1.bits)).bind fun r8 => match r8 with
  | v6 =>
    some v6

def palingref02_First (a1 : Api_Prefix) : Option (Int) :=
  (palingref02_Right a1).bind fun r2 =>
  if (!r2) = true then
    some 0
  else
    (palingref02_size a1).bind fun r5 =>
    if (r5 != 0) = true then
      (palingref02_size a1).bind fun r8 =>
      some (wr_u32 (wr_i64 ((wr_i64 (Int.tdiv (wr_i64 a1.addr) r5)) * r8)))
    else
      none

def palingref02_Last (a1 : Api_Prefix) : Option (Int) :=
  (palingref02_Right a1).bind fun r2 =>
  if (!r2) = true then
    some 0
  else
    (palingref02_First a1).bind fun r5 =>
    (palingref02_size a1).bind fun r7 =>
    some (wr_u32 (wr_i64 ((wr_i64 ((wr_i64 r5) + r7)) - 1)))

def palingref02_Has (a1 : Api_Prefix) (a2 : Int) : Option (Bool) :=
  (palingref02_Right a1).bind fun r3 =>
  if (r3) = true then
    (palingref02_First a1).bind fun r6 =>
    if (decide (a2 ≥ r6)) = true then
      (palingref02_Last a1).bind fun r9 =>
      some (decide (a2 ≤ r9))
    else
      some false
  else
    some false

def palingref20_Leaks_L1 (a1 : Api_Net) (a2 : Int) (a3 : Int) (v11 : Int) : Option ((Int) ⊕ (Unit ⊕ Unit)) :=
  (nth a1.vrfs a2).bind fun x12 =>
  if (decide (v11 < (x12.exports.length : Int))) = true then
    (nth a1.vrfs a2).bind fun x15 =>
    (nth a1.vrfs a3).bind fun x17 =>
    if (x15.dev == x17.dev) = true then
      (nth a1.vrfs a3).bind fun x20 =>
      (nth a1.vrfs a2).bind fun x22 =>
      (nth x22.exports v11).bind fun x24 =>
      (palingref15_In x20.imports x24).bind fun r26 =>
      if (r26) = true then
        some (Sum.inr (Sum.inl ()))
      else
        some (Sum.inl (wr_i64 (v11 + 1)))
    else
      some (Sum.inl (wr_i64 (v11 + 1)))
  else
    some (Sum.inr (Sum.inr ()))

def palingref20_Leaks (a1 : Api_Net) (a2 : Int) (a3 : Int) : Option (Bool) :=
  (palingref15_Place a2 (a1.vrfs.length : Int)).bind fun r4 =>
  if (!r4) = true then
    some false
  else
    (palingref15_Place a3 (a1.vrfs.length : Int)).bind fun r7 =>
    if (!r7) = true then
      some false
    else
      if (a2 == a3) = true then
        some true
      else
        (loopM (palingref20_Leaks_L1 a1 a2 a3) 0).bind fun r30 => match r30 with
        | Sum.inl () =>
          some true
        | Sum.inr () =>
          some false

def palingref30_better (a1 : Api_Net) (a2 : Int) (a3 : Int) (a4 : Int) : Option (Bool) :=
  (nth a1.irbs a3).bind fun x5 =>
  (nth a1.irbs a4).bind fun x7 =>
  if (x5.net.bits != x7.net.bits) = true then
    (nth a1.irbs a3).bind fun x10 =>
    (nth a1.irbs a4).bind fun x12 =>
    some (decide (x10.net.bits > x12.net.bits))
  else
    (nth a1.irbs a3).bind fun x14 =>
    (nth a1.irbs a2).bind fun x16 =>
    if (x14.vrf == x16.vrf) = true then
      (nth a1.irbs a4).bind fun x19 =>
      (nth a1.irbs a2).bind fun x21 =>
      some (x19.vrf != x21.vrf)
    else
      some false

def palingref30_Lookup_L1 (a1 : Api_Net) (a2 : Int) (a3 : Int) (v7 : Int) (v8 : Int) : Option ((Int × Int) ⊕ (Unit ⊕ Int)) :=
  if (decide (v8 < (a1.irbs.length : Int))) = true then
    (palingref30_device a1 v8).bind fun r10 =>
    (palingref30_device a1 a2).bind fun r12 =>
    if (r10 != r12) = true then
      some (Sum.inl (v7, wr_i64 (v8 + 1)))
    else
      (nth a1.irbs v8).bind fun x15 =>
      if (x15.net.addr == a3) = true then
        some (Sum.inr (Sum.inl ()))
      else
        (nth a1.irbs v8).bind fun x18 =>
        (palingref02_Has x18.net a3).bind fun r20 =>
        if (!r20) = true then
          some (Sum.inl (v7, wr_i64 (v8 + 1)))
        else
          (nth a1.irbs v8).bind fun x23 =>
          (nth a1.irbs a2).bind fun x25 =>
          (palingref20_Leaks a1 x23.vrf x25.vrf).bind fun r27 =>
          if (!r27) = true then
            some (Sum.inl (v7, wr_i64 (v8 + 1)))
          else
            if (decide (v7 < 0)) = true then
              some (Sum.inl (v8, wr_i64 (v8 + 1)))
            else
              (palingref30_better a1 a2 v8 v7).bind fun r31 =>
              if (r31) = true then
                some (Sum.inl (v8, wr_i64 (v8 + 1)))
              else
                some (Sum.inl (v7, wr_i64 (v8 + 1)))
  else
    some (Sum.inr (Sum.inr v7))

def palingref30_Lookup (a1 : Api_Net) (a2 : Int) (a3 : Int) : Option (Int × Bool) :=
  (palingref15_Place a2 (a1.irbs.length : Int)).bind fun r4 =>
  if (!r4) = true then
    some (0, false)
  else
    (loopM (fun s : Int × Int => match s with | (v7, v8) => palingref30_Lookup_L1 a1 a2 a3 v7 v8) ((-1), 0)).bind fun r37 => match r37 with
    | Sum.inl () =>
      some (0, false)
    | Sum.inr v35 =>
      if (decide (v35 < 0)) = true then
        some (0, false)
      else
        some (v35, true)

def palingref07_out (a1 : Int) (a2 : Int) : Option (Bool) :=
  if (decide (a1 < 0)) = true then
    some true
  else
    some (decide (a1 > a2))

def palingref07_bytes_L1 (a2 : Int) (l4 : List Int) (v5 : Int) (v6 : Int) : Option (((List Int) × Int × Int) ⊕ ((List Int))) :=
  if (decide (v6 < a2)) = true then
    if (lin l4 (wr_i64 ((wr_i64 (a2 - 1)) - v6))) = true then
      (l4[(Int.toNat (wr_i64 ((wr_i64 (a2 - 1)) - v6)))]?).bind fun x9 =>
      some (Sum.inl (List.set l4 (Int.toNat (wr_i64 ((wr_i64 (a2 - 1)) - v6))) (wr_u8 (Int.tmod v5 256) : Int), wr_i64 (Int.tdiv v5 256), wr_i64 (v6 + 1)))
    else
      none
  else
    some (Sum.inr l4)

def palingref07_bytes (a1 : Int) (a2 : Int) : Option (((List Int))) :=
  if (mkok 1 a2 a2) = true then
    (loopM (fun s : (List Int) × Int × Int => match s with | (l4, v5, v6) => palingref07_bytes_L1 a2 l4 v5 v6) (List.replicate (Int.toNat a2) (0 : Int), a1, 0)).bind fun r15 => match r15 with
    | l13 =>
      some l13
  else
    none

def palingref06_Of (a1 : List Int) : Option (Int) :=
  (palingref06_Sum a1).bind fun r2 =>
  some (wr_i64 (65535 - r2))

def palingref07_Put (a1 : Api_Packet) : Option (((List Int) × Int)) :=
  (palingref07_out a1.tos 255).bind fun r2 =>
  if (r2) = true then
    some ([], 11)
  else
    (palingref07_out a1.ttl 255).bind fun r5 =>
    if (r5) = true then
      some ([], 11)
    else
      (palingref07_out a1.proto 255).bind fun r8 =>
      if (r8) = true then
        some ([], 11)
      else
        (palingref07_out a1.id 65535).bind fun r11 =>
        if (r11) = true then
          some ([], 11)
        else
          if (decide ((a1.body.length : Int) > 1480)) = true then
            some ([], 14)
          else
            (palingref07_bytes (wr_i64 (20 + (a1.body.length : Int))) 2).bind fun r15 => match r15 with
            | l17 =>
              if (roomy 1 ([(69 : Int), (wr_u8 a1.tos : Int)] ++ l17)) = true then
                (palingref07_bytes a1.id 2).bind fun r19 => match r19 with
                | l21 =>
                  if (roomy 1 (([(69 : Int), (wr_u8 a1.tos : Int)] ++ l17) ++ l21)) = true then
                    if (roomy 1 ((([(69 : Int), (wr_u8 a1.tos : Int)] ++ l17) ++ l21) ++ [(0 : Int), (0 : Int), (wr_u8 a1.ttl : Int), (wr_u8 a1.proto : Int)])) = true then
                      (palingref07_bytes (wr_i64 a1.src) 4).bind fun r24 => match r24 with
                      | l26 =>
                        (palingref07_bytes (wr_i64 a1.dst) 4).bind fun r27 => match r27 with
                        | l29 =>
                          if (roomy 1 (l26 ++ l29)) = true then
                            if (roomy 1 (((([(69 : Int), (wr_u8 a1.tos : Int)] ++ l17) ++ l21) ++ [(0 : Int), (0 : Int), (wr_u8 a1.ttl : Int), (wr_u8 a1.proto : Int)]) ++ (l26 ++ l29))) = true then
                              (palingref06_Of (((([(69 : Int), (wr_u8 a1.tos : Int)] ++ l17) ++ l21) ++ [(0 : Int), (0 : Int), (wr_u8 a1.ttl : Int), (wr_u8 a1.proto : Int)]) ++ (l26 ++ l29))).bind fun r32 =>
                              (palingref07_bytes r32 2).bind fun r34 => match r34 with
                              | l36 =>
                                if (roomy 1 (((([(69 : Int), (wr_u8 a1.tos : Int)] ++ l17) ++ l21) ++ [(0 : Int), (0 : Int), (wr_u8 a1.ttl : Int), (wr_u8 a1.proto : Int)]) ++ l36)) = true then
                                  if (roomy 1 ((((([(69 : Int), (wr_u8 a1.tos : Int)] ++ l17) ++ l21) ++ [(0 : Int), (0 : Int), (wr_u8 a1.ttl : Int), (wr_u8 a1.proto : Int)]) ++ l36) ++ (l26 ++ l29))) = true then
                                    if (roomy 1 (((((([(69 : Int), (wr_u8 a1.tos : Int)] ++ l17) ++ l21) ++ [(0 : Int), (0 : Int), (wr_u8 a1.ttl : Int), (wr_u8 a1.proto : Int)]) ++ l36) ++ (l26 ++ l29)) ++ a1.body)) = true then
                                      some (((((([(69 : Int), (wr_u8 a1.tos : Int)] ++ l17) ++ l21) ++ [(0 : Int), (0 : Int), (wr_u8 a1.ttl : Int), (wr_u8 a1.proto : Int)]) ++ l36) ++ (l26 ++ l29)) ++ a1.body, 0)
                                    else
                                      none
                                  else
                                    none
                                else
                                  none
                            else
                              none
                          else
                            none
                    else
                      none
                  else
                    none
              else
                none

def palingref30_Hop (a1 : Api_Net) (a2 : Int) (a3 : Api_Frame) : Option (((List Int) × Int × Int × Int × Int × Int)) :=
  (palingref15_Right a1).bind fun r4 =>
  if (!r4) = true then
    some ([], 0, 0, 0, 0, 2)
  else
    (palingref15_Place a2 (a1.irbs.length : Int)).bind fun r7 =>
    if (!r7) = true then
      some ([], 0, 0, 0, 0, 2)
    else
      if (a3.type_ != 2048) = true then
        some ([], 0, 0, 0, 0, 11)
      else
        (palingref07_Take a3.body).bind fun r11 => match r11 with
        | (l13, v14, v15, v16, v17, v18, v19, v20) =>
          if (v20 != 0) = true then
            some ([], 0, 0, 0, 0, v20)
          else
            (palingref07_Hop (⟨v14, v15, v16, v17, v18, v19, l13⟩ : Api_Packet)).bind fun r22 => match r22 with
            | (r24, r25) =>
              if (r25 != 0) = true then
                some ([], 0, 0, 0, 0, r25)
              else
                (palingref30_Lookup a1 a2 v19).bind fun r27 =>
                if (!r27.2) = true then
                  some ([], 0, 0, 0, 0, 31)
                else
                  (palingref07_Put r24).bind fun r30 => match r30 with
                  | (l32, v33) =>
                    if (v33 != 0) = true then
                      some ([], 0, 0, 0, 0, v33)
                    else
                      (nth a1.irbs r27.1).bind fun x35 =>
                      (palingref01_Host v19).bind fun r37 =>
                      (palingref01_Host x35.net.addr).bind fun r39 =>
                      some (l32, x35.domain, r37, r39, 2048, 0)

def palingref18_Lookup_L1 (a1 : Api_Net) (a2 : Int) (a3 : Int) (v4 : Int) : Option ((Int) ⊕ (Int ⊕ Unit)) :=
  if (decide (v4 < (a1.statics.length : Int))) = true then
    (nth a1.statics v4).bind fun x6 =>
    if (x6.domain == a2) = true then
      (nth a1.statics v4).bind fun x9 =>
      if (x9.mac == a3) = true then
        (nth a1.statics v4).bind fun x12 =>
        some (Sum.inr (Sum.inl x12.port))
      else
        some (Sum.inl (wr_i64 (v4 + 1)))
    else
      some (Sum.inl (wr_i64 (v4 + 1)))
  else
    some (Sum.inr (Sum.inr ()))

def palingref18_Lookup (a1 : Api_Net) (a2 : Int) (a3 : Int) : Option (Int) :=
  (loopM (palingref18_Lookup_L1 a1 a2 a3) 0).bind fun r17 => match r17 with
  | Sum.inl v15 =>
    some v15
  | Sum.inr () =>
    some (-1)

def palingref29_one (a1 : Api_Net) (a2 : List Bool) (a3 : Int) (a4 : Int) : Option (((List Int))) :=
  if (a3 == a4) = true then
    some []
  else
    (palingref29_Usable a1 a2 a3).bind fun r6 =>
    if (!r6) = true then
      some []
    else
      some [a3]

def palingref29_Decide_J1 (a1 : Api_Net) (a2 : List Bool) (a4 : Int) (a5 : Int) (r9 : List Int) (r10 : List Int) (r22 : Int × Bool) : Option ((List Int) ⊕ Unit) :=
  if (r22.2) = true then
    (palingref15_Members a1 a4).bind fun r25 => match r25 with
    | l27 =>
      (palingref15_In l27 r22.1).bind fun r28 =>
      if (r28) = true then
        (palingref29_one a1 a2 r22.1 a5).bind fun r31 => match r31 with
        | l33 =>
          some (Sum.inl l33)
      else
        some (Sum.inr ())
  else
    some (Sum.inr ())

def palingref29_Decide_J2 (a1 : Api_Net) (a4 : Int) (a5 : Int) (r9 : List Int) (r10 : List Int) (r22 : Int × Bool) : Option (Bool) :=
  if (r22.2) = true then
    if (decide (r22.1 < 0)) = true then
      (nth a1.domains a4).bind fun x42 =>
      (palingref15_In x42.peers (wr_i64 (0 - (wr_i64 (r22.1 + 1))))).bind fun r44 =>
      some r44
    else
      some false
  else
    some false

def palingref29_Decide (a1 : Api_Net) (a2 : List Bool) (a3 : List Api_Entry) (a4 : Int) (a5 : Int) (a6 : Int) : Option (((List Int) × (List Int) × Int)) :=
  (palingref29_Flood a1 a2 a4 a5).bind fun r7 => match r7 with
  | (r9, r10, r11) =>
    if (r11 != 0) = true then
      some (r9, r10, r11)
    else
      (palingref01_Group a6).bind fun r13 =>
      if (r13) = true then
        some (r9, r10, r11)
      else
        (palingref18_Lookup a1 a4 a6).bind fun r16 =>
        if (decide (r16 ≥ 0)) = true then
          (palingref29_one a1 a2 r16 a5).bind fun r19 => match r19 with
          | l21 =>
            some (l21, [], 0)
        else
          (palingref26_Find a3 a6).bind fun r22 =>
          (palingref29_Decide_J1 a1 a2 a4 a5 r9 r10 r22).bind fun r39 => match r39 with
          | Sum.inl l37 =>
            some (l37, [], 0)
          | Sum.inr () =>
            (palingref29_Decide_J2 a1 a4 a5 r9 r10 r22).bind fun r49 => match r49 with
            | v47 =>
              if (v47) = true then
                if (a5 == (-1)) = true then
                  some ([], [], 0)
                else
                  some ([], [(wr_i64 (0 - (wr_i64 (r22.1 + 1))) : Int)], 0)
              else
                some (r9, r10, 0)

def palingref04_Put (a1 : Api_Frame) : Option (((List Int) × Int)) :=
  if (decide (a1.dst ≥ 281474976710656)) = true then
    some ([], 11)
  else
    if (decide (a1.src ≥ 281474976710656)) = true then
      some ([], 11)
    else
      if (decide (a1.type_ < 0)) = true then
        some ([], 11)
      else
        if (decide (a1.type_ ≥ 65536)) = true then
          some ([], 11)
        else
          if (decide ((a1.body.length : Int) > 1504)) = true then
            some ([], 14)
          else
            (palingref01_Bytes a1.dst).bind fun r7 => match r7 with
            | l9 =>
              (palingref01_Bytes a1.src).bind fun r10 => match r10 with
              | l12 =>
                if (roomy 1 (l9 ++ l12)) = true then
                  if (roomy 1 ((l9 ++ l12) ++ [(wr_u8 (wr_i64 (Int.tdiv a1.type_ 256)) : Int), (wr_u8 (Int.tmod a1.type_ 256) : Int)])) = true then
                    if (roomy 1 (((l9 ++ l12) ++ [(wr_u8 (wr_i64 (Int.tdiv a1.type_ 256)) : Int), (wr_u8 (Int.tmod a1.type_ 256) : Int)]) ++ a1.body)) = true then
                      some (((l9 ++ l12) ++ [(wr_u8 (wr_i64 (Int.tdiv a1.type_ 256)) : Int), (wr_u8 (Int.tmod a1.type_ 256) : Int)]) ++ a1.body, 0)
                    else
                      none
                  else
                    none
                else
                  none

def palingref05_Add (a1 : Api_Frame) (a2 : Int) (a3 : Int) : Option (((List Int) × Int × Int × Int × Int)) :=
  if (a1.type_ == 33024) = true then
    some ([], 0, 0, 0, 15)
  else
    if (decide (a2 < 0)) = true then
      some ([], 0, 0, 0, 15)
    else
      if (decide (a2 ≥ 4095)) = true then
        some ([], 0, 0, 0, 15)
      else
        if (decide (a3 < 0)) = true then
          some ([], 0, 0, 0, 15)
        else
          if (decide (a3 ≥ 16)) = true then
            some ([], 0, 0, 0, 15)
          else
            if (decide (a1.type_ < 0)) = true then
              some ([], 0, 0, 0, 11)
            else
              if (decide (a1.type_ ≥ 65536)) = true then
                some ([], 0, 0, 0, 11)
              else
                if (decide ((a1.body.length : Int) > 1500)) = true then
                  some ([], 0, 0, 0, 14)
                else
                  if (roomy 1 ([(wr_u8 (wr_i64 (Int.tdiv (wr_i64 ((wr_i64 (a3 * 4096)) + a2)) 256)) : Int), (wr_u8 (Int.tmod (wr_i64 ((wr_i64 (a3 * 4096)) + a2)) 256) : Int), (wr_u8 (wr_i64 (Int.tdiv a1.type_ 256)) : Int), (wr_u8 (Int.tmod a1.type_ 256) : Int)] ++ a1.body)) = true then
                    some ([(wr_u8 (wr_i64 (Int.tdiv (wr_i64 ((wr_i64 (a3 * 4096)) + a2)) 256)) : Int), (wr_u8 (Int.tmod (wr_i64 ((wr_i64 (a3 * 4096)) + a2)) 256) : Int), (wr_u8 (wr_i64 (Int.tdiv a1.type_ 256)) : Int), (wr_u8 (Int.tmod a1.type_ 256) : Int)] ++ a1.body, a1.dst, a1.src, 33024, 0)
                  else
                    none

def palingref28_At (a1 : Api_Net) (a2 : Int) (a3 : Int) (a4 : Api_Frame) : Option (((List Int) × Int)) :=
  (palingref15_Right a1).bind fun r5 =>
  if (!r5) = true then
    some ([], 2)
  else
    (palingref15_Place a2 (a1.ports.length : Int)).bind fun r8 =>
    if (!r8) = true then
      some ([], 2)
    else
      (palingref15_Place a3 (a1.domains.length : Int)).bind fun r11 =>
      if (!r11) = true then
        some ([], 2)
      else
        (palingref15_Members a1 a3).bind fun r14 => match r14 with
        | l16 =>
          (palingref15_In l16 a2).bind fun r17 =>
          if (!r17) = true then
            some ([], 16)
          else
            if (a4.type_ == 33024) = true then
              some ([], 15)
            else
              (nth a1.domains a3).bind fun x21 =>
              (nth a1.ports a2).bind fun x23 =>
              if (x23.native == x21.vlan) = true then
                (palingref04_Put a4).bind fun r26 => match r26 with
                | (l28, v29) =>
                  some (l28, v29)
              else
                (palingref05_Add a4 x21.vlan 0).bind fun r30 => match r30 with
                | (l32, v33, v34, v35, v36) =>
                  if (v36 != 0) = true then
                    some ([], v36)
                  else
                    (palingref04_Put (⟨v33, v34, v35, l32⟩ : Api_Frame)).bind fun r38 => match r38 with
                    | (l40, v41) =>
                      some (l40, v41)

def palingref31_lost (a1 : Palingref31_Out) (a2 : List Int) (a3 : Int) : Option ((Palingref31_Out)) :=
  if (a3 != 0) = true then
    some (⟨5, a1.port, a1.domain, [], (⟨0, 0, 0, []⟩ : Api_Frame), a3⟩ : Palingref31_Out)
  else
    some (⟨a1.kind, a1.port, a1.domain, a2, a1.frame, a1.error⟩ : Palingref31_Out)

def palingref28_vtep (a1 : Api_Net) (a2 : Int) : Option (Int) :=
  (nth a1.domains a2).bind fun x3 =>
  (nth a1.devices x3.dev).bind fun x5 =>
  some x5.vtep

def palingref09_Head (a1 : Int) : Option (((List Int) × Int)) :=
  if (decide (a1 < 1)) = true then
    some ([], 17)
  else
    if (decide (a1 ≥ 16777216)) = true then
      some ([], 17)
    else
      some ([(8 : Int), (0 : Int), (0 : Int), (0 : Int), (wr_u8 (wr_i64 (Int.tdiv a1 65536)) : Int), (wr_u8 (Int.tmod (wr_i64 (Int.tdiv a1 256)) 256) : Int), (wr_u8 (Int.tmod a1 256) : Int), (0 : Int)], 0)

def palingref08_Port_L1 (v3 : Int) (v4 : Int) (v5 : Int) (v6 : Int) (v7 : Int) : Option ((Int × Int × Int × Int × Int) ⊕ (Int)) :=
  if (decide (v7 < 14)) = true then
    if ((Int.tmod v3 2) != (Int.tmod v4 2)) = true then
      some (Sum.inl (wr_u64 (Int.tdiv v3 2), wr_u64 (Int.tdiv v4 2), wr_i64 (v5 + v6), wr_i64 (v6 * 2), wr_i64 (v7 + 1)))
    else
      some (Sum.inl (wr_u64 (Int.tdiv v3 2), wr_u64 (Int.tdiv v4 2), v5, wr_i64 (v6 * 2), wr_i64 (v7 + 1)))
  else
    some (Sum.inr v5)

def palingref08_Port (a1 : Int) (a2 : Int) : Option (Int) :=
  (loopM (fun s : Int × Int × Int × Int × Int => match s with | (v3, v4, v5, v6, v7) => palingref08_Port_L1 v3 v4 v5 v6 v7) (a1, a2, 0, 1, 0)).bind fun r13 => match r13 with
  | v11 =>
    some (wr_i64 (49152 + v11))

def palingref08_Put (a1 : Int) (a2 : Int) (a3 : List Int) : Option (((List Int) × Int)) :=
  if (decide (a1 < 0)) = true then
    some ([], 11)
  else
    if (decide (a2 < 0)) = true then
      some ([], 11)
    else
      if (decide (a1 ≥ 65536)) = true then
        some ([], 11)
      else
        if (decide (a2 ≥ 65536)) = true then
          some ([], 11)
        else
          if (decide ((a3.length : Int) > 1472)) = true then
            some ([], 14)
          else
            if (roomy 1 ([(wr_u8 (wr_i64 (Int.tdiv a1 256)) : Int), (wr_u8 (Int.tmod a1 256) : Int), (wr_u8 (wr_i64 (Int.tdiv a2 256)) : Int), (wr_u8 (Int.tmod a2 256) : Int), (wr_u8 (wr_i64 (Int.tdiv (wr_i64 (8 + (a3.length : Int))) 256)) : Int), (wr_u8 (Int.tmod (wr_i64 (8 + (a3.length : Int))) 256) : Int), (0 : Int), (0 : Int)] ++ a3)) = true then
              some ([(wr_u8 (wr_i64 (Int.tdiv a1 256)) : Int), (wr_u8 (Int.tmod a1 256) : Int), (wr_u8 (wr_i64 (Int.tdiv a2 256)) : Int), (wr_u8 (Int.tmod a2 256) : Int), (wr_u8 (wr_i64 (Int.tdiv (wr_i64 (8 + (a3.length : Int))) 256)) : Int), (wr_u8 (Int.tmod (wr_i64 (8 + (a3.length : Int))) 256) : Int), (0 : Int), (0 : Int)] ++ a3, 0)
            else
              none

def palingref09_Wrap (a1 : Int) (a2 : Int) (a3 : Int) (a4 : Api_Frame) : Option (((List Int) × Int)) :=
  if (a4.type_ == 33024) = true then
    some ([], 15)
  else
    (palingref04_Put a4).bind fun r6 => match r6 with
    | (l8, v9) =>
      if (v9 != 0) = true then
        some ([], v9)
      else
        (palingref09_Head a3).bind fun r11 => match r11 with
        | (l13, v14) =>
          if (v14 != 0) = true then
            some ([], v14)
          else
            if (decide (((List.length l8) : Int) > 1464)) = true then
              some ([], 14)
            else
              (palingref08_Port a4.dst a4.src).bind fun r17 =>
              if (roomy 1 (l13 ++ l8)) = true then
                (palingref08_Put r17 4789 (l13 ++ l8)).bind fun r20 => match r20 with
                | (l22, v23) =>
                  (palingref07_Put (⟨0, 0, 64, 17, a1, a2, l22⟩ : Api_Packet)).bind fun r24 => match r24 with
                  | (l26, v27) =>
                    (palingref01_Host a2).bind fun r28 =>
                    (palingref01_Host a1).bind fun r30 =>
                    (palingref04_Put (⟨r28, r30, 2048, l26⟩ : Api_Frame)).bind fun r32 => match r32 with
                    | (l34, v35) =>
                      some (l34, v35)
              else
                none

def palingref28_Mesh (a1 : Api_Net) (a2 : Int) (a3 : Int) (a4 : Api_Frame) : Option (((List Int) × Int)) :=
  (palingref15_Right a1).bind fun r5 =>
  if (!r5) = true then
    some ([], 2)
  else
    (palingref15_Place a3 (a1.domains.length : Int)).bind fun r8 =>
    if (!r8) = true then
      some ([], 2)
    else
      (palingref15_Place a2 (a1.domains.length : Int)).bind fun r11 =>
      if (!r11) = true then
        some ([], 2)
      else
        (nth a1.domains a2).bind fun x14 =>
        (palingref15_In x14.peers a3).bind fun r16 =>
        if (!r16) = true then
          some ([], 17)
        else
          (palingref28_vtep a1 a2).bind fun r19 =>
          (palingref28_vtep a1 a3).bind fun r21 =>
          (nth a1.domains a2).bind fun x23 =>
          (palingref09_Wrap r19 r21 x23.vni a4).bind fun r25 => match r25 with
          | (l27, v28) =>
            some (l27, v28)

def palingref31_Step_J1 (a1 : Api_Net) (a2 : List Bool) (a3 : List Api_Entry) (a4 : Int) (a5 : Api_Queued) (a6 : Int) : Option ((List Api_Entry)) :=
  if (decide (a5.from_ ≥ 0)) = true then
    (palingref26_Learn a3 a5.frame.src a5.from_ a6).bind fun r18 => match r18 with
    | l20 =>
      some l20
  else
    some a3

def palingref31_Step_J2 (a1 : Api_Net) (a2 : List Bool) (a3 : List Api_Entry) (a4 : Int) (a5 : Api_Queued) (a6 : Int) (l31 : List Api_Entry) : Option ((List Api_Entry)) :=
  if (a5.from_ == (-1)) = true then
    (palingref26_Learn a3 a5.frame.src (wr_i64 ((-1) - a5.peer)) a6).bind fun r35 => match r35 with
    | l37 =>
      some l37
  else
    some l31

def palingref31_Step_L3 (a1 : Api_Net) (a4 : Int) (a5 : Api_Queued) (l46 : List Api_Entry) (r63 : List Int) (r64 : List Int) (l66 : List Palingref31_Out) (v67 : Int) : Option (((List Palingref31_Out) × Int) ⊕ ((List Palingref31_Out))) :=
  if (decide (v67 < (r63.length : Int))) = true then
    (nth r63 v67).bind fun x69 =>
    (palingref28_At a1 x69 a4 a5.frame).bind fun r71 => match r71 with
    | (l73, v74) =>
      (nth r63 v67).bind fun x75 =>
      (nth r63 v67).bind fun x77 =>
      (nth a1.ports x77).bind fun x79 =>
      if (x79.link != (-1)) = true then
        (palingref31_lost (⟨2, x75, 0, [], (⟨0, 0, 0, []⟩ : Api_Frame), 0⟩ : Palingref31_Out) l73 v74).bind fun r82 => match r82 with
        | r84 =>
          if (roomy 104 (l66 ++ [r84])) = true then
            some (Sum.inl (l66 ++ [r84], wr_i64 (v67 + 1)))
          else
            none
      else
        (palingref31_lost (⟨1, x75, 0, [], (⟨0, 0, 0, []⟩ : Api_Frame), 0⟩ : Palingref31_Out) l73 v74).bind fun r86 => match r86 with
        | r88 =>
          if (roomy 104 (l66 ++ [r88])) = true then
            some (Sum.inl (l66 ++ [r88], wr_i64 (v67 + 1)))
          else
            none
  else
    some (Sum.inr l66)

def palingref31_Step_L4 (a1 : Api_Net) (a4 : Int) (a5 : Api_Queued) (l46 : List Api_Entry) (r64 : List Int) (l102 : List Palingref31_Out) (v103 : Int) : Option (((List Palingref31_Out) × Int) ⊕ ((List Palingref31_Out))) :=
  if (decide (v103 < (r64.length : Int))) = true then
    (nth r64 v103).bind fun x105 =>
    (palingref28_Mesh a1 a4 x105 a5.frame).bind fun r107 => match r107 with
    | (l109, v110) =>
      (nth r64 v103).bind fun x111 =>
      (palingref31_lost (⟨3, 0, x111, [], (⟨0, 0, 0, []⟩ : Api_Frame), 0⟩ : Palingref31_Out) l109 v110).bind fun r113 => match r113 with
      | r115 =>
        if (roomy 104 (l102 ++ [r115])) = true then
          some (Sum.inl (l102 ++ [r115], wr_i64 (v103 + 1)))
        else
          none
  else
    some (Sum.inr l102)

def palingref31_Step (a1 : Api_Net) (a2 : List Bool) (a3 : List Api_Entry) (a4 : Int) (a5 : Api_Queued) (a6 : Int) : Option (((List Api_Entry) × (List Palingref31_Out) × Int)) :=
  (palingref29_Flood a1 a2 a4 a5.from_).bind fun r7 => match r7 with
  | (r9, r10, r11) =>
    if (r11 != 0) = true then
      some ([], [], 2)
    else
      (palingref26_Right a3).bind fun r13 =>
      if (!r13) = true then
        some ([], [], 2)
      else
        if (roomy 24 a3) = true then
          (palingref31_Step_J1 a1 a2 a3 a4 a5 a6).bind fun r33 => match r33 with
          | l31 =>
            (palingref31_Step_J2 a1 a2 a3 a4 a5 a6 l31).bind fun r48 => match r48 with
            | l46 =>
              (palingref20_Router a1 a4 a5.frame.dst).bind fun r49 =>
              if (r49.2) = true then
                (palingref30_Hop a1 r49.1 a5.frame).bind fun r52 => match r52 with
                | (l54, v55, v56, v57, v58, v59) =>
                  if (v59 != 0) = true then
                    some (l46, [], v59)
                  else
                    some (l46, [(⟨4, 0, v55, [], (⟨v56, v57, v58, l54⟩ : Api_Frame), 0⟩ : Palingref31_Out)], 0)
              else
                (palingref29_Decide a1 a2 l46 a4 a5.from_ a5.frame.dst).bind fun r61 => match r61 with
                | (r63, r64, r65) =>
                  (loopM (fun s : (List Palingref31_Out) × Int => match s with | (l66, v67) => palingref31_Step_L3 a1 a4 a5 l46 r63 r64 l66 v67) ([], 0)).bind fun r101 => match r101 with
                  | l99 =>
                    (loopM (fun s : (List Palingref31_Out) × Int => match s with | (l102, v103) => palingref31_Step_L4 a1 a4 a5 l46 r64 l102 v103) (l99, 0)).bind fun r124 => match r124 with
                    | l122 =>
                      some (l46, l122, 0)
        else
          none

def palingref26_Same_L1 (a1 : List Api_Entry) (a2 : List Api_Entry) (v4 : Int) : Option ((Int) ⊕ (Unit ⊕ Unit)) :=
  if (decide (v4 < (a1.length : Int))) = true then
    (nth a1 v4).bind fun x6 =>
    (nth a2 v4).bind fun x8 =>
    if (!(eq_Api_Entry x6 x8)) = true then
      some (Sum.inr (Sum.inl ()))
    else
      some (Sum.inl (wr_i64 (v4 + 1)))
  else
    some (Sum.inr (Sum.inr ()))

def palingref26_Same (a1 : List Api_Entry) (a2 : List Api_Entry) : Option (Bool) :=
  if ((a1.length : Int) != (a2.length : Int)) = true then
    some false
  else
    (loopM (palingref26_Same_L1 a1 a2) 0).bind fun r12 => match r12 with
    | Sum.inl () =>
      some false
    | Sum.inr () =>
      some true

def palinglaw31_told_L1 (a1 : List Bridge_Out) (l2 : List Palingref31_Out) (v3 : Int) : Option (((List Palingref31_Out) × Int) ⊕ ((List Palingref31_Out))) :=
  if (decide (v3 < (a1.length : Int))) = true then
    (nth a1 v3).bind fun x5 =>
    if (roomy 104 (l2 ++ [(⟨x5.kind, x5.port, x5.domain, x5.bytes, x5.frame, x5.error⟩ : Palingref31_Out)])) = true then
      some (Sum.inl (l2 ++ [(⟨x5.kind, x5.port, x5.domain, x5.bytes, x5.frame, x5.error⟩ : Palingref31_Out)], wr_i64 (v3 + 1)))
    else
      none
  else
    some (Sum.inr l2)

def palinglaw31_told (a1 : List Bridge_Out) : Option (((List Palingref31_Out))) :=
  (loopM (fun s : (List Palingref31_Out) × Int => match s with | (l2, v3) => palinglaw31_told_L1 a1 l2 v3) ([], 0)).bind fun r12 => match r12 with
  | l10 =>
    some l10

def palingref04_Same (a1 : Api_Frame) (a2 : Api_Frame) : Option (Bool) :=
  if (a1.dst == a2.dst) = true then
    if (a1.src == a2.src) = true then
      if (a1.type_ == a2.type_) = true then
        some (seqB (bstr a1.body) (bstr a2.body))
      else
        some false
    else
      some false
  else
    some false

def palingref31_Same_L1 (a1 : List Palingref31_Out) (a2 : List Palingref31_Out) (v4 : Int) : Option ((Int) ⊕ (Unit ⊕ Unit)) :=
  if (decide (v4 < (a1.length : Int))) = true then
    (nth a1 v4).bind fun x6 =>
    (nth a2 v4).bind fun x8 =>
    if (x6.kind != x8.kind) = true then
      some (Sum.inr (Sum.inl ()))
    else
      if (x6.port != x8.port) = true then
        some (Sum.inr (Sum.inl ()))
      else
        if (x6.domain != x8.domain) = true then
          some (Sum.inr (Sum.inl ()))
        else
          if (x6.error != x8.error) = true then
            some (Sum.inr (Sum.inl ()))
          else
            if (!(seqB (bstr x6.bytes) (bstr x8.bytes))) = true then
              some (Sum.inr (Sum.inl ()))
            else
              (palingref04_Same x6.frame x8.frame).bind fun r15 =>
              if (!r15) = true then
                some (Sum.inr (Sum.inl ()))
              else
                some (Sum.inl (wr_i64 (v4 + 1)))
  else
    some (Sum.inr (Sum.inr ()))

def palingref31_Same (a1 : List Palingref31_Out) (a2 : List Palingref31_Out) : Option (Bool) :=
  if ((a1.length : Int) != (a2.length : Int)) = true then
    some false
  else
    (loopM (palingref31_Same_L1 a1 a2) 0).bind fun r19 => match r19 with
    | Sum.inl () =>
      some false
    | Sum.inr () =>
      some true

def palinglaw31_BridgeSteps (a1 : Api_Net) (a2 : List Bool) (a3 : List Api_Entry) (a4 : Int) (a5 : Api_Queued) (a6 : Int) : Option (Bool) :=
  (palinglaw31_Great a1 a2 a3 a5).bind fun r7 =>
  if (r7) = true then
    (palinglaw31_works).bind fun r10 =>
    some r10
  else
    (bridge_Step a1 a2 a3 a4 a5 a6).bind fun r12 => match r12 with
    | (r14, r15, r16) =>
      (palingref31_Step a1 a2 a3 a4 a5 a6).bind fun r17 => match r17 with
      | (r19, r20, r21) =>
        (palingref26_Same r14 r19).bind fun r22 =>
        if (r22) = true then
          (palinglaw31_told r15).bind fun r25 => match r25 with
          | l27 =>
            (palingref31_Same l27 r20).bind fun r28 =>
            if (r28) = true then
              if (r16 == r21) = true then
                (palinglaw31_works).bind fun r32 =>
                some r32
              else
                some false
            else
              some false
        else
          some false

end Go.Eng
