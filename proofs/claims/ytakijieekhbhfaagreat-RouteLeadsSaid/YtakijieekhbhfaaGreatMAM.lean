/- Part of the proof of RouteLeads: printed mirrors of the functions, or their contracts. No conditions. -/
import Derived.Test.YtakijieekhbhfaaGreatEng14
set_option linter.unusedVariables false
set_option maxRecDepth 100000
namespace Go.Eng
open Go
structure Api_Device where
  row : Int
  priority : Int
  name : ByteArray
  mac : Int
  vtep : Int
  deriving DecidableEq, Inhabited

def Api_Device.Ok (x : Api_Device) : Prop := (okI .i64) x.row ∧ (okI .i64) x.priority ∧ okS x.name ∧ (okI .u64) x.mac ∧ (okI .u32) x.vtep ∧ True

structure Api_Port where
  row : Int
  dev : Int
  native : Int
  cost : Int
  link : Int
  name : ByteArray
  tagged : List Int
  deriving DecidableEq, Inhabited

def Api_Port.Ok (x : Api_Port) : Prop := (okI .i64) x.row ∧ (okI .i64) x.dev ∧ (okI .i64) x.native ∧ (okI .i64) x.cost ∧ (okI .i64) x.link ∧ okS x.name ∧ (okL (okI .i64)) x.tagged ∧ True

structure Api_Link where
  row : Int
  a : Int
  b : Int
  deriving DecidableEq, Inhabited

def Api_Link.Ok (x : Api_Link) : Prop := (okI .i64) x.row ∧ (okI .i64) x.a ∧ (okI .i64) x.b ∧ True

structure Api_Domain where
  dev : Int
  vlan : Int
  vni : Int
  irb : Int
  row : Int
  peers : List Int
  deriving DecidableEq, Inhabited

def Api_Domain.Ok (x : Api_Domain) : Prop := (okI .i64) x.dev ∧ (okI .i64) x.vlan ∧ (okI .i64) x.vni ∧ (okI .i64) x.irb ∧ (okI .i64) x.row ∧ (okL (okI .i64)) x.peers ∧ True

structure Api_Static where
  row : Int
  domain : Int
  port : Int
  mac : Int
  deriving DecidableEq, Inhabited

def Api_Static.Ok (x : Api_Static) : Prop := (okI .i64) x.row ∧ (okI .i64) x.domain ∧ (okI .i64) x.port ∧ (okI .u64) x.mac ∧ True

structure Api_Flood where
  row : Int
  dev : Int
  vni : Int
  addrs : List Int
  deriving DecidableEq, Inhabited

def Api_Flood.Ok (x : Api_Flood) : Prop := (okI .i64) x.row ∧ (okI .i64) x.dev ∧ (okI .i64) x.vni ∧ (okL (okI .u32)) x.addrs ∧ True

structure Api_Vrf where
  row : Int
  dev : Int
  name : ByteArray
  imports : List Int
  exports : List Int
  deriving DecidableEq, Inhabited

def Api_Vrf.Ok (x : Api_Vrf) : Prop := (okI .i64) x.row ∧ (okI .i64) x.dev ∧ okS x.name ∧ (okL (okI .i64)) x.imports ∧ (okL (okI .i64)) x.exports ∧ True

structure Api_Prefix where
  addr : Int
  bits : Int
  deriving DecidableEq, Inhabited

def Api_Prefix.Ok (x : Api_Prefix) : Prop := (okI .u32) x.addr ∧ (okI .i64) x.bits ∧ True

structure Api_Irb where
  row : Int
  domain : Int
  vrf : Int
  net : Api_Prefix
  deriving DecidableEq, Inhabited

def Api_Irb.Ok (x : Api_Irb) : Prop := (okI .i64) x.row ∧ (okI .i64) x.domain ∧ (okI .i64) x.vrf ∧ Api_Prefix.Ok x.net ∧ True

structure Api_Net where
  devices : List Api_Device
  ports : List Api_Port
  links : List Api_Link
  domains : List Api_Domain
  statics : List Api_Static
  floods : List Api_Flood
  vrfs : List Api_Vrf
  irbs : List Api_Irb
  deriving DecidableEq, Inhabited

def Api_Net.Ok (x : Api_Net) : Prop := (okL Api_Device.Ok) x.devices ∧ (okL Api_Port.Ok) x.ports ∧ (okL Api_Link.Ok) x.links ∧ (okL Api_Domain.Ok) x.domains ∧ (okL Api_Static.Ok) x.statics ∧ (okL Api_Flood.Ok) x.floods ∧ (okL Api_Vrf.Ok) x.vrfs ∧ (okL Api_Irb.Ok) x.irbs ∧ True

structure Api_Frame where
  dst : Int
  src : Int
  type_ : Int
  body : List Int
  deriving DecidableEq, Inhabited

def Api_Frame.Ok (x : Api_Frame) : Prop := (okI .u64) x.dst ∧ (okI .u64) x.src ∧ (okI .i64) x.type_ ∧ (okL (okI .u8)) x.body ∧ True

structure Api_Packet where
  tos : Int
  id : Int
  ttl : Int
  proto : Int
  src : Int
  dst : Int
  body : List Int
  deriving DecidableEq, Inhabited

def Api_Packet.Ok (x : Api_Packet) : Prop := (okI .i64) x.tos ∧ (okI .i64) x.id ∧ (okI .i64) x.ttl ∧ (okI .i64) x.proto ∧ (okI .u32) x.src ∧ (okI .u32) x.dst ∧ (okL (okI .u8)) x.body ∧ True

structure Names_judge where
  n : Api_Net
  deriving DecidableEq, Inhabited

def Names_judge.Ok (x : Names_judge) : Prop := Api_Net.Ok x.n ∧ True

structure Leave_whole where
  net : Api_Net
  deriving DecidableEq, Inhabited

def Leave_whole.Ok (x : Leave_whole) : Prop := Api_Net.Ok x.net ∧ True

structure Vxlan_outer where
  packet : Api_Packet
  vni : Int
  deriving DecidableEq, Inhabited

def Vxlan_outer.Ok (x : Vxlan_outer) : Prop := Api_Packet.Ok x.packet ∧ (okI .i64) x.vni ∧ True

structure Vxlan_reader where
  outer : Vxlan_outer
  e : Int
  deriving DecidableEq, Inhabited

def Vxlan_reader.Ok (x : Vxlan_reader) : Prop := Vxlan_outer.Ok x.outer ∧ (okI .i64) x.e ∧ True


def palinglaw15_Great_L1 (a1 : Api_Net) (v10 : Int) : Option ((Int) ⊕ (Unit ⊕ Unit)) :=
  if (decide (v10 < (a1.ports.length : Int))) = true then
    (nth a1.ports v10).bind fun x12 =>
    if (decide ((x12.tagged.length : Int) > 100)) = true then
      some (Sum.inr (Sum.inl ()))
    else
      some (Sum.inl (wr_i64 (v10 + 1)))
  else
    some (Sum.inr (Sum.inr ()))

def palinglaw15_Great_L2 (a1 : Api_Net) (v17 : Int) : Option ((Int) ⊕ (Unit ⊕ Unit)) :=
  if (decide (v17 < (a1.domains.length : Int))) = true then
    (nth a1.domains v17).bind fun x19 =>
    if (decide ((x19.peers.length : Int) > 100)) = true then
      some (Sum.inr (Sum.inl ()))
    else
      some (Sum.inl (wr_i64 (v17 + 1)))
  else
    some (Sum.inr (Sum.inr ()))

def palinglaw15_Great_L3 (a1 : Api_Net) (v24 : Int) : Option ((Int) ⊕ (Unit ⊕ Unit)) :=
  if (decide (v24 < (a1.floods.length : Int))) = true then
    (nth a1.floods v24).bind fun x26 =>
    if (decide ((x26.addrs.length : Int) > 100)) = true then
      some (Sum.inr (Sum.inl ()))
    else
      some (Sum.inl (wr_i64 (v24 + 1)))
  else
    some (Sum.inr (Sum.inr ()))

def palinglaw15_Great_L4 (a1 : Api_Net) (v31 : Int) : Option ((Int) ⊕ (Unit ⊕ Unit)) :=
  if (decide (v31 < (a1.vrfs.length : Int))) = true then
    (nth a1.vrfs v31).bind fun x33 =>
    if (decide ((x33.imports.length : Int) > 100)) = true then
      some (Sum.inr (Sum.inl ()))
    else
      (nth a1.vrfs v31).bind fun x36 =>
      if (decide ((x36.exports.length : Int) > 100)) = true then
        some (Sum.inr (Sum.inl ()))
      else
        some (Sum.inl (wr_i64 (v31 + 1)))
  else
    some (Sum.inr (Sum.inr ()))

def palinglaw15_Great (a1 : Api_Net) : Option (Bool) :=
  if (decide ((a1.devices.length : Int) > 200)) = true then
    some true
  else
    if (decide ((a1.ports.length : Int) > 200)) = true then
      some true
    else
      if (decide ((a1.links.length : Int) > 200)) = true then
        some true
      else
        if (decide ((a1.domains.length : Int) > 200)) = true then
          some true
        else
          if (decide ((a1.statics.length : Int) > 200)) = true then
            some true
          else
            if (decide ((a1.floods.length : Int) > 200)) = true then
              some true
            else
              if (decide ((a1.vrfs.length : Int) > 200)) = true then
                some true
              else
                if (decide ((a1.irbs.length : Int) > 200)) = true then
                  some true
                else
                  (loopM (palinglaw15_Great_L1 a1) 0).bind fun r16 => match r16 with
                  | Sum.inl () =>
                    some true
                  | Sum.inr () =>
                    (loopM (palinglaw15_Great_L2 a1) 0).bind fun r23 => match r23 with
                    | Sum.inl () =>
                      some true
                    | Sum.inr () =>
                      (loopM (palinglaw15_Great_L3 a1) 0).bind fun r30 => match r30 with
                      | Sum.inl () =>
                        some true
                      | Sum.inr () =>
                        (loopM (palinglaw15_Great_L4 a1) 0).bind fun r40 => match r40 with
                        | Sum.inl () =>
                          some true
                        | Sum.inr () =>
                          some false

def ipv4_Put_1 (a1 : Int) (a2 : Int) : Option (Bool) :=
  if (decide (a1 ≥ 0)) = true then
    some (decide (a1 ≤ a2))
  else
    some false

def ipv4_put_own_L1 (a2 : List Int) (l3 : List Int) (v4 : Int) : Option (((List Int) × Int) ⊕ ((List Int))) :=
  if (decide (v4 < ((List.length a2) : Int))) = true then
    if (lin a2 v4) = true then
      (a2[(Int.toNat v4)]?).bind fun x7 =>
      if (roomy 1 (l3 ++ [(wr_u8 (Int.fdiv x7 (2 ^ 8)) : Int), (wr_u8 x7 : Int)])) = true then
        some (Sum.inl (l3 ++ [(wr_u8 (Int.fdiv x7 (2 ^ 8)) : Int), (wr_u8 x7 : Int)], wr_i64 (v4 + 1)))
      else
        none
    else
      none
  else
    some (Sum.inr l3)

def ipv4_put_own (a1 : List Int) (a2 : List Int) : Option (((List Int))) :=
  (loopM (fun s : (List Int) × Int => match s with | (l3, v4) => ipv4_put_own_L1 a2 l3 v4) (a1, 0)).bind fun r14 => match r14 with
  | l12 =>
    some l12

def sum_down_1_own (a1 : Int) : Option ((Unit)) :=
  some ()

def sum_down_L1 (v2 : Int) : Option ((Int) ⊕ (Int)) :=
  if (decide (v2 > 65535)) = true then
    (sum_down_1_own v2).bind fun r4 => match r4 with
    | () =>
      some (Sum.inl (wr_i64 ((Int.fdiv v2 (2 ^ 16)) + (bits_and .i64 v2 65535))))
  else
    some (Sum.inr v2)

def sum_down (a1 : Int) : Option (Int) :=
  (loopM (sum_down_L1) a1).bind fun r10 => match r10 with
  | v8 =>
    some v8

def sum_add_L1 (a1 : List Int) (v2 : Int) (v3 : Int) : Option ((Int × Int) ⊕ (Int)) :=
  if (decide ((wr_i64 (v3 + 1)) < (a1.length : Int))) = true then
    (nth a1 v3).bind fun x5 =>
    (nth a1 (wr_i64 (v3 + 1))).bind fun x7 =>
    some (Sum.inl (wr_i64 (v2 + (bits_or .i64 (wr_i64 ((wr_i64 x5) * 2 ^ 8)) (wr_i64 x7))), wr_i64 (v3 + 2)))
  else
    some (Sum.inr v2)

def sum_add (a1 : List Int) : Option (Int) :=
  (loopM (fun s : Int × Int => match s with | (v2, v3) => sum_add_L1 a1 v2 v3) (0, 0)).bind fun r12 => match r12 with
  | v10 =>
    if ((bits_and .i64 (a1.length : Int) 1) == 1) = true then
      (nth a1 (wr_i64 ((a1.length : Int) - 1))).bind fun x14 =>
      (sum_down (wr_i64 (v10 + (wr_i64 ((wr_i64 x14) * 2 ^ 8))))).bind fun r16 =>
      some r16
    else
      (sum_down v10).bind fun r18 =>
      some r18

def sum_Of (a1 : List Int) : Option (Int) :=
  (sum_add a1).bind fun r2 =>
  some (wr_i64 (65535 - r2))

def ipv4_Put (a1 : Api_Packet) : Option (((List Int) × Int)) :=
  (ipv4_Put_1 a1.tos 255).bind fun r2 =>
  if (!r2) = true then
    some ([], 11)
  else
    (ipv4_Put_1 a1.ttl 255).bind fun r5 =>
    if (!r5) = true then
      some ([], 11)
    else
      (ipv4_Put_1 a1.proto 255).bind fun r8 =>
      if (!r8) = true then
        some ([], 11)
      else
        (ipv4_Put_1 a1.id 65535).bind fun r11 =>
        if (!r11) = true then
          some ([], 11)
        else
          if (decide ((a1.body.length : Int) > 1480)) = true then
            some ([], 14)
          else
            (ipv4_put_own [] [(bits_or .i64 17664 a1.tos : Int), (wr_i64 (20 + (a1.body.length : Int)) : Int), a1.id, (0 : Int), (bits_or .i64 (wr_i64 (a1.ttl * 2 ^ 8)) a1.proto : Int), (0 : Int), (wr_i64 (Int.fdiv a1.src (2 ^ 16)) : Int), (wr_i64 a1.src : Int), (wr_i64 (Int.fdiv a1.dst (2 ^ 16)) : Int), (wr_i64 a1.dst : Int)]).bind fun r15 => match r15 with
            | l17 =>
              (sum_Of l17).bind fun r18 =>
              if (lin l17 10) = true then
                (l17[(Int.toNat 10)]?).bind fun x21 =>
                if (lin (List.set l17 (Int.toNat 10) (wr_u8 (Int.fdiv r18 (2 ^ 8)) : Int)) 11) = true then
                  ((List.set l17 (Int.toNat 10) (wr_u8 (Int.fdiv r18 (2 ^ 8)) : Int))[(Int.toNat 11)]?).bind fun x24 =>
                  if (roomy 1 ((List.set (List.set l17 (Int.toNat 10) (wr_u8 (Int.fdiv r18 (2 ^ 8)) : Int)) (Int.toNat 11) (wr_u8 r18 : Int)) ++ a1.body)) = true then
                    some ((List.set (List.set l17 (Int.toNat 10) (wr_u8 (Int.fdiv r18 (2 ^ 8)) : Int)) (Int.toNat 11) (wr_u8 r18 : Int)) ++ a1.body, 0)
                  else
                    none
                else
                  none
              else
                none

def palinglaw30_two : Option ((Unit)) :=
  some ()

def names_judge_few (a1 : Names_judge) : Option (Bool) :=
  if (decide ((a1.n.devices.length : Int) ≤ 8)) = true then
    if (decide ((a1.n.ports.length : Int) ≤ 40)) = true then
      if (decide ((a1.n.links.length : Int) ≤ 20)) = true then
        if (decide ((a1.n.domains.length : Int) ≤ 48)) = true then
          if (decide ((a1.n.statics.length : Int) ≤ 64)) = true then
            if (decide ((a1.n.floods.length : Int) ≤ 48)) = true then
              if (decide ((a1.n.vrfs.length : Int) ≤ 16)) = true then
                some (decide ((a1.n.irbs.length : Int) ≤ 48))
              else
                some false
            else
              some false
          else
            some false
        else
          some false
      else
        some false
    else
      some false
  else
    some false

def names_place_Device (a1 : List Api_Device) (a2 : Int) : Option (Bool) :=
  if (decide (a2 ≥ 0)) = true then
    some (decide (a2 < (a1.length : Int)))
  else
    some false

def names_judge_domain_1 (a1 : Api_Domain) (a2 : Int) (a3 : Int) : Option (Bool) :=
  if (a1.dev == a2) = true then
    some (a1.vlan == a3)
  else
    some false

def slices_IndexFunc_Domain_judge_domain_1_L1 (a1 : List Api_Domain) (a2 : Int) (a3 : Int) (v4 : Int) : Option ((Int) ⊕ (Int ⊕ Unit)) :=
  if (decide (v4 < (a1.length : Int))) = true then
    (nth a1 v4).bind fun x6 =>
    (names_judge_domain_1 x6 a2 a3).bind fun r8 =>
    if (r8) = true then
      some (Sum.inr (Sum.inl v4))
    else
      some (Sum.inl (wr_i64 (v4 + 1)))
  else
    some (Sum.inr (Sum.inr ()))

def slices_IndexFunc_Domain_judge_domain_1 (a1 : List Api_Domain) (a2 : Int) (a3 : Int) : Option (Int) :=
  (loopM (slices_IndexFunc_Domain_judge_domain_1_L1 a1 a2 a3) 0).bind fun r14 => match r14 with
  | Sum.inl v12 =>
    some v12
  | Sum.inr () =>
    some (-1)

def names_judge_domain (a1 : Names_judge) (a2 : Int) (a3 : Int) : Option (Int) :=
  (slices_IndexFunc_Domain_judge_domain_1 a1.n.domains a2 a3).bind fun r4 =>
  some r4

def names_place_Irb (a1 : List Api_Irb) (a2 : Int) : Option (Bool) :=
  if (decide (a2 ≥ 0)) = true then
    some (decide (a2 < (a1.length : Int)))
  else
    some false

def names_judge_bare (a1 : Names_judge) (a2 : Int) (a3 : Api_Domain) : Option (Bool) :=
  (names_place_Device a1.n.devices a3.dev).bind fun r4 =>
  if (r4) = true then
    if (decide (a3.vlan ≥ 1)) = true then
      if (decide (a3.vlan ≤ 4094)) = true then
        if (decide (a3.vni ≥ 0)) = true then
          if (decide (a3.vni ≤ 16777215)) = true then
            if (a3.irb == (-1)) = true then
              (names_judge_domain a1 a3.dev a3.vlan).bind fun r12 =>
              some (r12 == a2)
            else
              (names_place_Irb a1.n.irbs a3.irb).bind fun r14 =>
              if (r14) = true then
                (nth a1.n.irbs a3.irb).bind fun x17 =>
                if (x17.domain == a2) = true then
                  (names_judge_domain a1 a3.dev a3.vlan).bind fun r20 =>
                  some (r20 == a2)
                else
                  some false
              else
                some false
          else
            some false
        else
          some false
      else
        some false
    else
      some false
  else
    some false

def names_all_Domain_judge_bare_L1 (a1 : List Api_Domain) (a2 : Names_judge) (v3 : Int) : Option ((Int) ⊕ (Unit ⊕ Unit)) :=
  if (decide (v3 < (a1.length : Int))) = true then
    (nth a1 v3).bind fun x5 =>
    (names_judge_bare a2 v3 x5).bind fun r7 =>
    if (!r7) = true then
      some (Sum.inr (Sum.inl ()))
    else
      some (Sum.inl (wr_i64 (v3 + 1)))
  else
    some (Sum.inr (Sum.inr ()))

def names_all_Domain_judge_bare (a1 : List Api_Domain) (a2 : Names_judge) : Option (Bool) :=
  (loopM (names_all_Domain_judge_bare_L1 a1 a2) 0).bind fun r11 => match r11 with
  | Sum.inl () =>
    some false
  | Sum.inr () =>
    some true

def names_place_Domain (a1 : List Api_Domain) (a2 : Int) : Option (Bool) :=
  if (decide (a2 ≥ 0)) = true then
    some (decide (a2 < (a1.length : Int)))
  else
    some false

def names_judge_vtep (a1 : Names_judge) (a2 : Api_Domain) : Option (Bool) :=
  (nth a1.n.devices a2.dev).bind fun x3 =>
  some (x3.vtep != 0)

def slices_Index_int_L1 (a1 : List Int) (a2 : Int) (v3 : Int) : Option ((Int) ⊕ (Int ⊕ Unit)) :=
  if (decide (v3 < (a1.length : Int))) = true then
    (nth a1 v3).bind fun x5 =>
    if (a2 == x5) = true then
      some (Sum.inr (Sum.inl v3))
    else
      some (Sum.inl (wr_i64 (v3 + 1)))
  else
    some (Sum.inr (Sum.inr ()))

def slices_Index_int (a1 : List Int) (a2 : Int) : Option (Int) :=
  (loopM (slices_Index_int_L1 a1 a2) 0).bind fun r11 => match r11 with
  | Sum.inl v9 =>
    some v9
  | Sum.inr () =>
    some (-1)

def slices_Contains_int (a1 : List Int) (a2 : Int) : Option (Bool) :=
  (slices_Index_int a1 a2).bind fun r3 =>
  some (decide (r3 ≥ 0))

def names_judge_peer (a1 : Names_judge) (a2 : Int) (a3 : Api_Domain) (a4 : Int) : Option (Bool) :=
  (names_place_Domain a1.n.domains a4).bind fun r5 =>
  if (!r5) = true then
    some false
  else
    if (a4 == a2) = true then
      some false
    else
      (nth a1.n.domains a4).bind fun x9 =>
      (names_place_Device a1.n.devices x9.dev).bind fun r11 =>
      if (r11) = true then
        if (x9.dev != a3.dev) = true then
          if (x9.vni == a3.vni) = true then
            if (a3.vni != 0) = true then
              (names_judge_vtep a1 x9).bind fun r17 =>
              if (r17) = true then
                (names_judge_vtep a1 a3).bind fun r20 =>
                if (r20) = true then
                  (slices_Contains_int x9.peers a2).bind fun r23 =>
                  some r23
                else
                  some false
              else
                some false
            else
              some false
          else
            some false
        else
          some false
      else
        some false

def names_judge_peers_1 (a1 : Int) (a2 : Int) (a3 : Names_judge) (a4 : Int) (a5 : Api_Domain) : Option (Bool) :=
  (names_judge_peer a3 a4 a5 a2).bind fun r6 =>
  if (r6) = true then
    (slices_Index_int a5.peers a2).bind fun r9 =>
    some (r9 == a1)
  else
    some false

def names_all_int_judge_peers_1_L1 (a1 : List Int) (a2 : Names_judge) (a3 : Int) (a4 : Api_Domain) (v5 : Int) : Option ((Int) ⊕ (Unit ⊕ Unit)) :=
  if (decide (v5 < (a1.length : Int))) = true then
    (nth a1 v5).bind fun x7 =>
    (names_judge_peers_1 v5 x7 a2 a3 a4).bind fun r9 =>
    if (!r9) = true then
      some (Sum.inr (Sum.inl ()))
    else
      some (Sum.inl (wr_i64 (v5 + 1)))
  else
    some (Sum.inr (Sum.inr ()))

def names_all_int_judge_peers_1 (a1 : List Int) (a2 : Names_judge) (a3 : Int) (a4 : Api_Domain) : Option (Bool) :=
  (loopM (names_all_int_judge_peers_1_L1 a1 a2 a3 a4) 0).bind fun r13 => match r13 with
  | Sum.inl () =>
    some false
  | Sum.inr () =>
    some true

def names_judge_peers (a1 : Names_judge) (a2 : Int) (a3 : Api_Domain) : Option (Bool) :=
  (names_all_int_judge_peers_1 a3.peers a1 a2 a3).bind fun r4 =>
  some r4

def names_all_Domain_judge_peers_L1 (a1 : List Api_Domain) (a2 : Names_judge) (v3 : Int) : Option ((Int) ⊕ (Unit ⊕ Unit)) :=
  if (decide (v3 < (a1.length : Int))) = true then
    (nth a1 v3).bind fun x5 =>
    (names_judge_peers a2 v3 x5).bind fun r7 =>
    if (!r7) = true then
      some (Sum.inr (Sum.inl ()))
    else
      some (Sum.inl (wr_i64 (v3 + 1)))
  else
    some (Sum.inr (Sum.inr ()))

def names_all_Domain_judge_peers (a1 : List Api_Domain) (a2 : Names_judge) : Option (Bool) :=
  (loopM (names_all_Domain_judge_peers_L1 a1 a2) 0).bind fun r11 => match r11 with
  | Sum.inl () =>
    some false
  | Sum.inr () =>
    some true

def num_Rising_L1 (a1 : List Int) (a2 : Int) (a3 : Int) (v4 : Int) : Option ((Int) ⊕ (Unit ⊕ Unit)) :=
  if (decide (v4 < (a1.length : Int))) = true then
    (nth a1 v4).bind fun x6 =>
    if (decide (x6 < a2)) = true then
      some (Sum.inr (Sum.inl ()))
    else
      if (decide (x6 > a3)) = true then
        some (Sum.inr (Sum.inl ()))
      else
        if (decide (v4 > 0)) = true then
          (nth a1 (wr_i64 (v4 - 1))).bind fun x11 =>
          if (decide (x11 ≥ x6)) = true then
            some (Sum.inr (Sum.inl ()))
          else
            some (Sum.inl (wr_i64 (v4 + 1)))
        else
          some (Sum.inl (wr_i64 (v4 + 1)))
  else
    some (Sum.inr (Sum.inr ()))

def num_Rising (a1 : List Int) (a2 : Int) (a3 : Int) : Option (Bool) :=
  (loopM (num_Rising_L1 a1 a2 a3) 0).bind fun r15 => match r15 with
  | Sum.inl () =>
    some false
  | Sum.inr () =>
    if (decide ((a1.length : Int) > 0)) = true then
      some (decide ((a1.length : Int) ≤ 16))
    else
      some false

def names_rising (a1 : List Int) (a2 : Int) : Option (Bool) :=
  if ((a1.length : Int) == 0) = true then
    some true
  else
    (num_Rising a1 1 a2).bind fun r4 =>
    some r4

def names_place_Link (a1 : List Api_Link) (a2 : Int) : Option (Bool) :=
  if (decide (a2 ≥ 0)) = true then
    some (decide (a2 < (a1.length : Int)))
  else
    some false

def names_judge_port_J1 (a1 : Names_judge) (a2 : Int) (a3 : Api_Port) : Option (Unit ⊕ Unit) :=
  (names_place_Device a1.n.devices a3.dev).bind fun r4 =>
  if (!r4) = true then
    some (Sum.inl ())
  else
    if (decide (a3.native < 0)) = true then
      some (Sum.inl ())
    else
      if (decide (a3.native > 4094)) = true then
        some (Sum.inl ())
      else
        (names_rising a3.tagged 4094).bind fun r9 =>
        if (!r9) = true then
          some (Sum.inl ())
        else
          (slices_Contains_int a3.tagged a3.native).bind fun r12 =>
          if (r12) = true then
            some (Sum.inl ())
          else
            if (a3.native == 0) = true then
              if ((a3.tagged.length : Int) == 0) = true then
                some (Sum.inl ())
              else
                some (Sum.inr ())
            else
              some (Sum.inr ())

def names_judge_port_L2 (a1 : Names_judge) (a2 : Int) (a3 : Api_Port) (v19 : Int) : Option ((Int) ⊕ (Unit ⊕ Unit)) :=
  if (decide (v19 < (a3.tagged.length : Int))) = true then
    (nth a3.tagged v19).bind fun x21 =>
    (names_judge_domain a1 a3.dev x21).bind fun r23 =>
    if (decide (r23 < 0)) = true then
      some (Sum.inr (Sum.inl ()))
    else
      some (Sum.inl (wr_i64 (v19 + 1)))
  else
    some (Sum.inr (Sum.inr ()))

def names_judge_port_J3 (a1 : Names_judge) (a2 : Int) (a3 : Api_Port) : Option (Unit ⊕ Unit) :=
  if (decide (a3.native > 0)) = true then
    (names_judge_domain a1 a3.dev a3.native).bind fun r29 =>
    if (decide (r29 < 0)) = true then
      some (Sum.inl ())
    else
      some (Sum.inr ())
  else
    some (Sum.inr ())

def names_judge_port (a1 : Names_judge) (a2 : Int) (a3 : Api_Port) : Option (Bool) :=
  (names_judge_port_J1 a1 a2 a3).bind fun r18 => match r18 with
  | Sum.inl () =>
    some false
  | Sum.inr () =>
    (loopM (names_judge_port_L2 a1 a2 a3) 0).bind fun r27 => match r27 with
    | Sum.inl () =>
      some false
    | Sum.inr () =>
      (names_judge_port_J3 a1 a2 a3).bind fun r33 => match r33 with
      | Sum.inl () =>
        some false
      | Sum.inr () =>
        if (a3.link == (-1)) = true then
          some true
        else
          (names_place_Link a1.n.links a3.link).bind fun r35 =>
          if (r35) = true then
            (nth a1.n.links a3.link).bind fun x38 =>
            if (x38.a == a2) = true then
              some true
            else
              (nth a1.n.links a3.link).bind fun x41 =>
              some (x41.b == a2)
          else
            some false

def names_all_Port_judge_port_L1 (a1 : List Api_Port) (a2 : Names_judge) (v3 : Int) : Option ((Int) ⊕ (Unit ⊕ Unit)) :=
  if (decide (v3 < (a1.length : Int))) = true then
    (nth a1 v3).bind fun x5 =>
    (names_judge_port a2 v3 x5).bind fun r7 =>
    if (!r7) = true then
      some (Sum.inr (Sum.inl ()))
    else
      some (Sum.inl (wr_i64 (v3 + 1)))
  else
    some (Sum.inr (Sum.inr ()))

def names_all_Port_judge_port (a1 : List Api_Port) (a2 : Names_judge) : Option (Bool) :=
  (loopM (names_all_Port_judge_port_L1 a1 a2) 0).bind fun r11 => match r11 with
  | Sum.inl () =>
    some false
  | Sum.inr () =>
    some true

def names_place_Port (a1 : List Api_Port) (a2 : Int) : Option (Bool) :=
  if (decide (a2 ≥ 0)) = true then
    some (decide (a2 < (a1.length : Int)))
  else
    some false

def names_judge_link (a1 : Names_judge) (a2 : Int) (a3 : Api_Link) : Option (Bool) :=
  (names_place_Port a1.n.ports a3.a).bind fun r4 =>
  if (!r4) = true then
    some false
  else
    (names_place_Port a1.n.ports a3.b).bind fun r7 =>
    if (!r7) = true then
      some false
    else
      (nth a1.n.ports a3.a).bind fun x10 =>
      (nth a1.n.ports a3.b).bind fun x12 =>
      if (x10.dev != x12.dev) = true then
        if (x10.link == a2) = true then
          some (x12.link == a2)
        else
          some false
      else
        some false

def names_all_Link_judge_link_L1 (a1 : List Api_Link) (a2 : Names_judge) (v3 : Int) : Option ((Int) ⊕ (Unit ⊕ Unit)) :=
  if (decide (v3 < (a1.length : Int))) = true then
    (nth a1 v3).bind fun x5 =>
    (names_judge_link a2 v3 x5).bind fun r7 =>
    if (!r7) = true then
      some (Sum.inr (Sum.inl ()))
    else
      some (Sum.inl (wr_i64 (v3 + 1)))
  else
    some (Sum.inr (Sum.inr ()))

def names_all_Link_judge_link (a1 : List Api_Link) (a2 : Names_judge) : Option (Bool) :=
  (loopM (names_all_Link_judge_link_L1 a1 a2) 0).bind fun r11 => match r11 with
  | Sum.inl () =>
    some false
  | Sum.inr () =>
    some true

def names_Member (a1 : Api_Port) (a2 : Int) : Option (Bool) :=
  if (a2 != 0) = true then
    if (a2 == a1.native) = true then
      some true
    else
      (slices_Contains_int a1.tagged a2).bind fun r5 =>
      some r5
  else
    some false

def names_judge_static (a1 : Names_judge) (a2 : Int) (a3 : Api_Static) : Option (Bool) :=
  (names_place_Domain a1.n.domains a3.domain).bind fun r4 =>
  if (!r4) = true then
    some false
  else
    (names_place_Port a1.n.ports a3.port).bind fun r7 =>
    if (!r7) = true then
      some false
    else
      (nth a1.n.ports a3.port).bind fun x10 =>
      (nth a1.n.domains a3.domain).bind fun x12 =>
      if (x10.dev == x12.dev) = true then
        (names_Member x10 x12.vlan).bind fun r15 =>
        some r15
      else
        some false

def names_all_Static_judge_static_L1 (a1 : List Api_Static) (a2 : Names_judge) (v3 : Int) : Option ((Int) ⊕ (Unit ⊕ Unit)) :=
  if (decide (v3 < (a1.length : Int))) = true then
    (nth a1 v3).bind fun x5 =>
    (names_judge_static a2 v3 x5).bind fun r7 =>
    if (!r7) = true then
      some (Sum.inr (Sum.inl ()))
    else
      some (Sum.inl (wr_i64 (v3 + 1)))
  else
    some (Sum.inr (Sum.inr ()))

def names_all_Static_judge_static (a1 : List Api_Static) (a2 : Names_judge) : Option (Bool) :=
  (loopM (names_all_Static_judge_static_L1 a1 a2) 0).bind fun r11 => match r11 with
  | Sum.inl () =>
    some false
  | Sum.inr () =>
    some true

def names_Right_1 (a1 : Int) (a2 : Api_Flood) (a3 : Api_Net) : Option (Bool) :=
  (names_place_Device a3.devices a2.dev).bind fun r4 =>
  if (r4) = true then
    some (decide ((a2.addrs.length : Int) ≤ 16))
  else
    some false

def names_all_Flood_Right_1_L1 (a1 : List Api_Flood) (a2 : Api_Net) (v3 : Int) : Option ((Int) ⊕ (Unit ⊕ Unit)) :=
  if (decide (v3 < (a1.length : Int))) = true then
    (nth a1 v3).bind fun x5 =>
    (names_Right_1 v3 x5 a2).bind fun r7 =>
    if (!r7) = true then
      some (Sum.inr (Sum.inl ()))
    else
      some (Sum.inl (wr_i64 (v3 + 1)))
  else
    some (Sum.inr (Sum.inr ()))

def names_all_Flood_Right_1 (a1 : List Api_Flood) (a2 : Api_Net) : Option (Bool) :=
  (loopM (names_all_Flood_Right_1_L1 a1 a2) 0).bind fun r11 => match r11 with
  | Sum.inl () =>
    some false
  | Sum.inr () =>
    some true

def names_Right_2 (a1 : Int) (a2 : Api_Vrf) (a3 : Api_Net) : Option (Bool) :=
  (names_place_Device a3.devices a2.dev).bind fun r4 =>
  if (r4) = true then
    (names_rising a2.imports 65535).bind fun r7 =>
    if (r7) = true then
      (names_rising a2.exports 65535).bind fun r10 =>
      some r10
    else
      some false
  else
    some false

def names_all_Vrf_Right_2_L1 (a1 : List Api_Vrf) (a2 : Api_Net) (v3 : Int) : Option ((Int) ⊕ (Unit ⊕ Unit)) :=
  if (decide (v3 < (a1.length : Int))) = true then
    (nth a1 v3).bind fun x5 =>
    (names_Right_2 v3 x5 a2).bind fun r7 =>
    if (!r7) = true then
      some (Sum.inr (Sum.inl ()))
    else
      some (Sum.inl (wr_i64 (v3 + 1)))
  else
    some (Sum.inr (Sum.inr ()))

def names_all_Vrf_Right_2 (a1 : List Api_Vrf) (a2 : Api_Net) : Option (Bool) :=
  (loopM (names_all_Vrf_Right_2_L1 a1 a2) 0).bind fun r11 => match r11 with
  | Sum.inl () =>
    some false
  | Sum.inr () =>
    some true

def names_place_Vrf (a1 : List Api_Vrf) (a2 : Int) : Option (Bool) :=
  if (decide (a2 ≥ 0)) = true then
    some (decide (a2 < (a1.length : Int)))
  else
    some false

def names_judge_irb (a1 : Names_judge) (a2 : Int) (a3 : Api_Irb) : Option (Bool) :=
  (names_place_Domain a1.n.domains a3.domain).bind fun r4 =>
  if (r4) = true then
    (names_place_Vrf a1.n.vrfs a3.vrf).bind fun r7 =>
    if (r7) = true then
      (nth a1.n.domains a3.domain).bind fun x10 =>
      (nth a1.n.vrfs a3.vrf).bind fun x12 =>
      if (x10.dev == x12.dev) = true then
        (nth a1.n.domains a3.domain).bind fun x15 =>
        if (x15.irb == a2) = true then
          if (decide (a3.net.bits ≥ 1)) = true then
            some (decide (a3.net.bits ≤ 30))
          else
            some false
        else
          some false
      else
        some false
    else
      some false
  else
    some false

def names_all_Irb_judge_irb_L1 (a1 : List Api_Irb) (a2 : Names_judge) (v3 : Int) : Option ((Int) ⊕ (Unit ⊕ Unit)) :=
  if (decide (v3 < (a1.length : Int))) = true then
    (nth a1 v3).bind fun x5 =>
    (names_judge_irb a2 v3 x5).bind fun r7 =>
    if (!r7) = true then
      some (Sum.inr (Sum.inl ()))
    else
      some (Sum.inl (wr_i64 (v3 + 1)))
  else
    some (Sum.inr (Sum.inr ()))

def names_all_Irb_judge_irb (a1 : List Api_Irb) (a2 : Names_judge) : Option (Bool) :=
  (loopM (names_all_Irb_judge_irb_L1 a1 a2) 0).bind fun r11 => match r11 with
  | Sum.inl () =>
    some false
  | Sum.inr () =>
    some true

def names_Right (a1 : Api_Net) : Option (Bool) :=
  (names_judge_few (⟨a1⟩ : Names_judge)).bind fun r2 =>
  if (r2) = true then
    (names_all_Domain_judge_bare a1.domains (⟨a1⟩ : Names_judge)).bind fun r5 =>
    if (r5) = true then
      (names_all_Domain_judge_peers a1.domains (⟨a1⟩ : Names_judge)).bind fun r8 =>
      if (r8) = true then
        (names_all_Port_judge_port a1.ports (⟨a1⟩ : Names_judge)).bind fun r11 =>
        if (r11) = true then
          (names_all_Link_judge_link a1.links (⟨a1⟩ : Names_judge)).bind fun r14 =>
          if (r14) = true then
            (names_all_Static_judge_static a1.statics (⟨a1⟩ : Names_judge)).bind fun r17 =>
            if (r17) = true then
              (names_all_Flood_Right_1 a1.floods a1).bind fun r20 =>
              if (r20) = true then
                (names_all_Vrf_Right_2 a1.vrfs a1).bind fun r23 =>
                if (r23) = true then
                  (names_all_Irb_judge_irb a1.irbs (⟨a1⟩ : Names_judge)).bind fun r26 =>
                  some r26
                else
                  some false
              else
                some false
            else
              some false
          else
            some false
        else
          some false
      else
        some false
    else
      some false
  else
    some false

def ipv4_pair (a1 : List Int) (a2 : Int) : Option (Int) :=
  (nth a1 a2).bind fun x3 =>
  (nth a1 (wr_i64 (a2 + 1))).bind fun x5 =>
  some (bits_or .i64 (wr_i64 ((wr_i64 x3) * 2 ^ 8)) (wr_i64 x5))

def sum_Right (a1 : List Int) : Option (Bool) :=
  (sum_add a1).bind fun r2 =>
  some (r2 == 65535)

def ipv4_four (a1 : List Int) (a2 : Int) : Option (Int) :=
  (ipv4_pair a1 a2).bind fun r3 =>
  (ipv4_pair a1 (wr_i64 (a2 + 2))).bind fun r5 =>
  some (bits_or .u32 (wr_u32 ((wr_u32 r3) * 2 ^ 16)) (wr_u32 r5))

def slices_Clone_byte (a1 : List Int) : Option (List Int) :=
  if roomy 1 a1 = true then some a1 else none

def ipv4_Take_J1 (a1 : List Int) : Option (Bool) :=
  (nth a1 0).bind fun x3 =>
  if (x3 != 69) = true then
    some true
  else
    (ipv4_pair a1 2).bind fun r6 =>
    some (decide (r6 < 20))

def ipv4_Take (a1 : List Int) : Option (((List Int) × Int × Int × Int × Int × Int × Int × Int)) :=
  if (decide ((a1.length : Int) < 20)) = true then
    some ([], 0, 0, 0, 0, 0, 0, 10)
  else
    (ipv4_Take_J1 a1).bind fun r11 => match r11 with
    | v9 =>
      if (v9) = true then
        some ([], 0, 0, 0, 0, 0, 0, 11)
      else
        (ipv4_pair a1 2).bind fun r13 =>
        if (decide (r13 > (a1.length : Int))) = true then
          some ([], 0, 0, 0, 0, 0, 0, 10)
        else
          (ipv4_pair a1 6).bind fun r16 =>
          if (r16 != 0) = true then
            some ([], 0, 0, 0, 0, 0, 0, 11)
          else
            if (slok (List.length a1) 0 20) = true then
              (sum_Right (List.drop (Int.toNat 0) (List.take (Int.toNat 20) a1))).bind fun r20 =>
              if (!r20) = true then
                some ([], 0, 0, 0, 0, 0, 0, 12)
              else
                (nth a1 1).bind fun x23 =>
                (ipv4_pair a1 4).bind fun r25 =>
                (nth a1 8).bind fun x27 =>
                (nth a1 9).bind fun x29 =>
                (ipv4_four a1 12).bind fun r31 =>
                (ipv4_four a1 16).bind fun r33 =>
                (ipv4_pair a1 2).bind fun r35 =>
                if (slok (List.length a1) 20 r35) = true then
                  (slices_Clone_byte (List.drop (Int.toNat 20) (List.take (Int.toNat r35) a1))).bind fun r38 => match r38 with
                  | l40 =>
                    some (l40, wr_i64 x23, r25, wr_i64 x27, wr_i64 x29, r31, r33, 0)
                else
                  none
            else
              none

def ipv4_Hop (a1 : Api_Packet) : Option (((List Int) × Int × Int × Int × Int × Int × Int × Int)) :=
  if (decide (a1.ttl ≤ 1)) = true then
    some ([], 0, 0, 0, 0, 0, 0, 13)
  else
    (slices_Clone_byte a1.body).bind fun r3 => match r3 with
    | l5 =>
      some (l5, a1.tos, a1.id, wr_i64 (a1.ttl - 1), a1.proto, a1.src, a1.dst, 0)

def route_device (a1 : Api_Net) (a2 : Int) : Option (Int) :=
  (nth a1.irbs a2).bind fun x3 =>
  (nth a1.domains x3.domain).bind fun x5 =>
  some x5.dev

def addr_Right (a1 : Api_Prefix) : Option (Bool) :=
  if (decide (a1.bits ≥ 0)) = true then
    some (decide (a1.bits ≤ 32))
  else
    some false

def addr_rest (a1 : Api_Prefix) : Option (Int) :=
  if (decide (0 ≤ (wr_i64 (32 - a1.bits)))) = true then
    some (wr_u32 ((wr_u32 (1 * 2 ^ (min (Int.toNat (wr_i64 (32 - a1.bits))) 32))) - 1))
  else
    none

def addr_Has (a1 : Api_Prefix) (a2 : Int) : Option (Bool) :=
  (addr_Right a1).bind fun r3 =>
  if (r3) = true then
    (addr_rest a1).bind fun r6 =>
    some ((bits_andNot .u32 (bits_xor .u32 a1.addr a2) r6) == 0)
  else
    some false

def vrfs_Leaks_1 (a1 : Int) (a2 : Api_Vrf) : Option (Bool) :=
  (slices_Contains_int a2.imports a1).bind fun r3 =>
  some r3

def slices_IndexFunc_int_Leaks_1_L1 (a1 : List Int) (a2 : Api_Vrf) (v3 : Int) : Option ((Int) ⊕ (Int ⊕ Unit)) :=
  if (decide (v3 < (a1.length : Int))) = true then
    (nth a1 v3).bind fun x5 =>
    (vrfs_Leaks_1 x5 a2).bind fun r7 =>
    if (r7) = true then
      some (Sum.inr (Sum.inl v3))
    else
      some (Sum.inl (wr_i64 (v3 + 1)))
  else
    some (Sum.inr (Sum.inr ()))

def slices_IndexFunc_int_Leaks_1 (a1 : List Int) (a2 : Api_Vrf) : Option (Int) :=
  (loopM (slices_IndexFunc_int_Leaks_1_L1 a1 a2) 0).bind fun r13 => match r13 with
  | Sum.inl v11 =>
    some v11
  | Sum.inr () =>
    some (-1)

def slices_ContainsFunc_int_Leaks_1 (a1 : List Int) (a2 : Api_Vrf) : Option (Bool) :=
  (slices_IndexFunc_int_Leaks_1 a1 a2).bind fun r3 =>
  some (decide (r3 ≥ 0))

def vrfs_Leaks (a1 : Api_Net) (a2 : Int) (a3 : Int) : Option (Bool) :=
  if (decide (a2 < 0)) = true then
    some false
  else
    if (decide (a3 < 0)) = true then
      some false
    else
      if (decide (a2 ≥ (a1.vrfs.length : Int))) = true then
        some false
      else
        if (decide (a3 ≥ (a1.vrfs.length : Int))) = true then
          some false
        else
          (names_Right a1).bind fun r8 =>
          if (!r8) = true then
            some false
          else
            (nth a1.vrfs a2).bind fun x11 =>
            (nth a1.vrfs a3).bind fun x13 =>
            if (a2 == a3) = true then
              some true
            else
              if (x11.dev == x13.dev) = true then
                (slices_ContainsFunc_int_Leaks_1 x11.exports x13).bind fun r17 =>
                some r17
              else
                some false

def route_sees (a1 : Api_Net) (a2 : Int) (a3 : Int) : Option (Bool) :=
  (route_device a1 a2).bind fun r4 =>
  (route_device a1 a3).bind fun r6 =>
  if (r4 == r6) = true then
    (nth a1.irbs a3).bind fun x9 =>
    (nth a1.irbs a2).bind fun x11 =>
    (vrfs_Leaks a1 x9.vrf x11.vrf).bind fun r13 =>
    some r13
  else
    some false

def route_lookup_1 (a1 : Int) (a2 : Api_Net) (a3 : Int) : Option (Int) :=
  (nth a2.irbs a1).bind fun x4 =>
  (nth a2.irbs a3).bind fun x6 =>
  if (x4.vrf == x6.vrf) = true then
    some 1
  else
    some 0

def route_lookup_2 (a1 : Int) (a2 : Int) (a3 : Api_Net) (a4 : Api_Net) (a5 : Int) : Option (Int) :=
  (nth a3.irbs a1).bind fun x6 =>
  (nth a3.irbs a2).bind fun x8 =>
  if (x6.net.bits != x8.net.bits) = true then
    some (wr_i64 (x6.net.bits - x8.net.bits))
  else
    (route_lookup_1 a1 a4 a5).bind fun r11 =>
    (route_lookup_1 a2 a4 a5).bind fun r13 =>
    some (wr_i64 (r11 - r13))

def slices_MaxFunc_int_lookup_2_L1 (a1 : List Int) (a2 : Api_Net) (a3 : Api_Net) (a4 : Int) (v8 : Int) (v9 : Int) : Option ((Int × Int) ⊕ (Int)) :=
  if (decide (v9 < (a1.length : Int))) = true then
    (nth a1 v9).bind fun x11 =>
    (route_lookup_2 x11 v8 a2 a3 a4).bind fun r13 =>
    if (decide (r13 > 0)) = true then
      (nth a1 v9).bind fun x16 =>
      some (Sum.inl (x16, wr_i64 (v9 + 1)))
    else
      some (Sum.inl (v8, wr_i64 (v9 + 1)))
  else
    some (Sum.inr v8)

def slices_MaxFunc_int_lookup_2 (a1 : List Int) (a2 : Api_Net) (a3 : Api_Net) (a4 : Int) : Option (Int) :=
  if (decide ((a1.length : Int) < 1)) = true then
    none
  else
    (nth a1 0).bind fun x6 =>
    (loopM (fun s : Int × Int => match s with | (v8, v9) => slices_MaxFunc_int_lookup_2_L1 a1 a2 a3 a4 v8 v9) (x6, 1)).bind fun r21 => match r21 with
    | v19 =>
      some v19

def route_lookup_J2 (a1 : Api_Net) (a2 : Int) (a3 : Int) (l4 : List Int) (v5 : Int) (x7 : Api_Irb) : Option (Unit ⊕ Unit) :=
  (route_device a1 v5).bind fun r9 =>
  (route_device a1 a2).bind fun r11 =>
  if (r9 == r11) = true then
    if (x7.net.addr == a3) = true then
      some (Sum.inl ())
    else
      some (Sum.inr ())
  else
    some (Sum.inr ())

def route_lookup_L1 (a1 : Api_Net) (a2 : Int) (a3 : Int) (l4 : List Int) (v5 : Int) : Option (((List Int) × Int) ⊕ (Unit ⊕ (List Int))) :=
  if (decide (v5 < (a1.irbs.length : Int))) = true then
    (nth a1.irbs v5).bind fun x7 =>
    (route_lookup_J2 a1 a2 a3 l4 v5 x7).bind fun r16 => match r16 with
    | Sum.inl () =>
      some (Sum.inr (Sum.inl ()))
    | Sum.inr () =>
      (addr_Has x7.net a3).bind fun r17 =>
      if (r17) = true then
        (route_sees a1 a2 v5).bind fun r20 =>
        if (r20) = true then
          if (roomy 8 (l4 ++ [v5])) = true then
            some (Sum.inl (l4 ++ [v5], wr_i64 (v5 + 1)))
          else
            none
        else
          some (Sum.inl (l4, wr_i64 (v5 + 1)))
      else
        some (Sum.inl (l4, wr_i64 (v5 + 1)))
  else
    some (Sum.inr (Sum.inr l4))

def route_lookup (a1 : Api_Net) (a2 : Int) (a3 : Int) : Option (Int × Bool) :=
  (loopM (fun s : (List Int) × Int => match s with | (l4, v5) => route_lookup_L1 a1 a2 a3 l4 v5) ([], 0)).bind fun r31 => match r31 with
  | Sum.inl () =>
    some (0, false)
  | Sum.inr l29 =>
    if (((List.length l29) : Int) == 0) = true then
      some (0, false)
    else
      (slices_MaxFunc_int_lookup_2 l29 a1 a1 a2).bind fun r33 =>
      some (r33, true)

def mac_Host (a1 : Int) : Option (Int) :=
  some (bits_or .u64 2199023255552 (wr_u64 a1))

def route_Hop_J1 (a1 : Api_Net) (a2 : Int) (l12 : List Int) (v13 : Int) (v14 : Int) (v15 : Int) (v16 : Int) (v17 : Int) (v18 : Int) (v19 : Int) : Option (((List Int) × Int × Int × Int × Int × Int × Int × Int)) :=
  if (v19 == 0) = true then
    (ipv4_Hop (⟨v13, v14, v15, v16, v17, v18, l12⟩ : Api_Packet)).bind fun r21 => match r21 with
    | (l23, v24, v25, v26, v27, v28, v29, v30) =>
      some (l23, v24, v25, v26, v27, v28, v29, v30)
  else
    some (l12, v13, v14, v15, v16, v17, v18, v19)

def route_Hop (a1 : Api_Net) (a2 : Int) (a3 : Api_Frame) : Option (((List Int) × Int × Int × Int × Int × Int)) :=
  if (decide (a2 < 0)) = true then
    some ([], 0, 0, 0, 0, 2)
  else
    if (decide (a2 ≥ (a1.irbs.length : Int))) = true then
      some ([], 0, 0, 0, 0, 2)
    else
      (names_Right a1).bind fun r6 =>
      if (!r6) = true then
        some ([], 0, 0, 0, 0, 2)
      else
        if (a3.type_ != 2048) = true then
          some ([], 0, 0, 0, 0, 11)
        else
          (ipv4_Take a3.body).bind fun r10 => match r10 with
          | (l12, v13, v14, v15, v16, v17, v18, v19) =>
            (route_Hop_J1 a1 a2 l12 v13 v14 v15 v16 v17 v18 v19).bind fun r83 => match r83 with
            | (l74, v75, v76, v77, v78, v79, v80, v81) =>
              if (v81 != 0) = true then
                some ([], 0, 0, 0, 0, v81)
              else
                (route_lookup a1 a2 v80).bind fun r85 =>
                if (!r85.2) = true then
                  some ([], 0, 0, 0, 0, 31)
                else
                  (ipv4_Put (⟨v75, v76, v77, v78, v79, v80, l74⟩ : Api_Packet)).bind fun r88 => match r88 with
                  | (l90, v91) =>
                    if (v91 != 0) = true then
                      some ([], 0, 0, 0, 0, v91)
                    else
                      (nth a1.irbs r85.1).bind fun x93 =>
                      (mac_Host v80).bind fun r95 =>
                      (nth a1.irbs r85.1).bind fun x97 =>
                      (mac_Host x97.net.addr).bind fun r99 =>
                      some (l90, x93.domain, r95, r99, 2048, 0)

def route_Lookup (a1 : Api_Net) (a2 : Int) (a3 : Int) : Option (Int × Bool) :=
  if (decide (a2 < 0)) = true then
    some (0, false)
  else
    if (decide (a2 ≥ (a1.irbs.length : Int))) = true then
      some (0, false)
    else
      (names_Right a1).bind fun r6 =>
      if (!r6) = true then
        some (0, false)
      else
        (route_lookup a1 a2 a3).bind fun r9 =>
        some (r9.1, r9.2)

def palinglaw30_works : Option (Bool) :=
  (ipv4_Put (⟨0, 0, 2, 0, 167772167, 167772423, []⟩ : Api_Packet)).bind fun r1 => match r1 with
  | (l3, v4) =>
    (palinglaw30_two).bind fun r5 => match r5 with
    | () =>
      (route_Hop (⟨[(⟨0, 0, (⟨#[97]⟩ : ByteArray), 0, 0⟩ : Api_Device)], [], [], [(⟨0, 10, 0, 0, 0, []⟩ : Api_Domain), (⟨0, 20, 0, 1, 0, []⟩ : Api_Domain)], [], [], [(⟨0, 0, (⟨#[114, 101, 100]⟩ : ByteArray), [], []⟩ : Api_Vrf)], [(⟨0, 0, 0, (⟨167772161, 24⟩ : Api_Prefix)⟩ : Api_Irb), (⟨0, 1, 0, (⟨167772417, 24⟩ : Api_Prefix)⟩ : Api_Irb)]⟩ : Api_Net) 0 (⟨0, 0, 2048, l3⟩ : Api_Frame)).bind fun r7 => match r7 with
      | (l9, v10, v11, v12, v13, v14) =>
        (palinglaw30_two).bind fun r15 => match r15 with
        | () =>
          (route_Hop (⟨[(⟨0, 0, (⟨#[97]⟩ : ByteArray), 0, 0⟩ : Api_Device)], [], [], [(⟨0, 10, 0, 0, 0, []⟩ : Api_Domain), (⟨0, 20, 0, 1, 0, []⟩ : Api_Domain)], [], [], [(⟨0, 0, (⟨#[114, 101, 100]⟩ : ByteArray), [], []⟩ : Api_Vrf)], [(⟨0, 0, 0, (⟨167772161, 24⟩ : Api_Prefix)⟩ : Api_Irb), (⟨0, 1, 0, (⟨167772417, 24⟩ : Api_Prefix)⟩ : Api_Irb)]⟩ : Api_Net) 0 (⟨0, 0, 0, []⟩ : Api_Frame)).bind fun r17 => match r17 with
          | (l19, v20, v21, v22, v23, v24) =>
            (palinglaw30_two).bind fun r25 => match r25 with
            | () =>
              (route_Lookup (⟨[(⟨0, 0, (⟨#[97]⟩ : ByteArray), 0, 0⟩ : Api_Device)], [], [], [(⟨0, 10, 0, 0, 0, []⟩ : Api_Domain), (⟨0, 20, 0, 1, 0, []⟩ : Api_Domain)], [], [], [(⟨0, 0, (⟨#[114, 101, 100]⟩ : ByteArray), [], []⟩ : Api_Vrf)], [(⟨0, 0, 0, (⟨167772161, 24⟩ : Api_Prefix)⟩ : Api_Irb), (⟨0, 1, 0, (⟨167772417, 24⟩ : Api_Prefix)⟩ : Api_Irb)]⟩ : Api_Net) 0 167772417).bind fun r27 =>
              if (v14 == 0) = true then
                if (v10 == 1) = true then
                  if (v11 == 2199191027975) = true then
                    if (v12 == 2199191027969) = true then
                      if (v24 == 11) = true then
                        some (!r27.2)
                      else
                        some false
                    else
                      some false
                  else
                    some false
                else
                  some false
              else
                some false

def palingref15_Place (a1 : Int) (a2 : Int) : Option (Bool) :=
  if (decide (a1 ≥ 0)) = true then
    some (decide (a1 < a2))
  else
    some false

def palingref15_At_L1 (a1 : Api_Net) (a2 : Int) (a3 : Int) (v4 : Int) : Option ((Int) ⊕ (Int ⊕ Unit)) :=
  if (decide (v4 < (a1.domains.length : Int))) = true then
    (nth a1.domains v4).bind fun x6 =>
    if (x6.dev == a2) = true then
      (nth a1.domains v4).bind fun x9 =>
      if (x9.vlan == a3) = true then
        some (Sum.inr (Sum.inl v4))
      else
        some (Sum.inl (wr_i64 (v4 + 1)))
    else
      some (Sum.inl (wr_i64 (v4 + 1)))
  else
    some (Sum.inr (Sum.inr ()))

def palingref15_At (a1 : Api_Net) (a2 : Int) (a3 : Int) : Option (Int) :=
  (loopM (palingref15_At_L1 a1 a2 a3) 0).bind fun r15 => match r15 with
  | Sum.inl v13 =>
    some v13
  | Sum.inr () =>
    some (-1)

def palingref15_In_L1 (a1 : List Int) (a2 : Int) (v3 : Int) : Option ((Int) ⊕ (Unit ⊕ Unit)) :=
  if (decide (v3 < (a1.length : Int))) = true then
    (nth a1 v3).bind fun x5 =>
    if (x5 == a2) = true then
      some (Sum.inr (Sum.inl ()))
    else
      some (Sum.inl (wr_i64 (v3 + 1)))
  else
    some (Sum.inr (Sum.inr ()))

def palingref15_In (a1 : List Int) (a2 : Int) : Option (Bool) :=
  (loopM (palingref15_In_L1 a1 a2) 0).bind fun r9 => match r9 with
  | Sum.inl () =>
    some true
  | Sum.inr () =>
    some false

def palingref15_peer (a1 : Api_Net) (a2 : Int) (a3 : Int) : Option (Bool) :=
  (palingref15_Place a3 (a1.domains.length : Int)).bind fun r4 =>
  if (!r4) = true then
    some false
  else
    if (a3 == a2) = true then
      some false
    else
      (nth a1.domains a2).bind fun x8 =>
      (nth a1.domains a3).bind fun x10 =>
      if (x8.dev != x10.dev) = true then
        if (x8.vni == x10.vni) = true then
          if (x8.vni != 0) = true then
            (nth a1.devices x8.dev).bind fun x15 =>
            if (x15.vtep != 0) = true then
              (nth a1.devices x10.dev).bind fun x18 =>
              if (x18.vtep != 0) = true then
                (palingref15_In x10.peers a2).bind fun r21 =>
                some r21
              else
                some false
            else
              some false
          else
            some false
        else
          some false
      else
        some false

def palingref15_domains_L1 (a1 : Api_Net) (v2 : Int) : Option ((Int) ⊕ (Unit ⊕ Unit)) :=
  if (decide (v2 < (a1.domains.length : Int))) = true then
    (nth a1.domains v2).bind fun x4 =>
    (palingref15_Place x4.dev (a1.devices.length : Int)).bind fun r6 =>
    if (!r6) = true then
      some (Sum.inr (Sum.inl ()))
    else
      if (decide (x4.vlan < 1)) = true then
        some (Sum.inr (Sum.inl ()))
      else
        if (decide (x4.vlan > 4094)) = true then
          some (Sum.inr (Sum.inl ()))
        else
          if (decide (x4.vni < 0)) = true then
            some (Sum.inr (Sum.inl ()))
          else
            if (decide (x4.vni ≥ 16777216)) = true then
              some (Sum.inr (Sum.inl ()))
            else
              (palingref15_At a1 x4.dev x4.vlan).bind fun r13 =>
              if (r13 != v2) = true then
                some (Sum.inr (Sum.inl ()))
              else
                if (x4.irb != (-1)) = true then
                  (palingref15_Place x4.irb (a1.irbs.length : Int)).bind fun r17 =>
                  if (!r17) = true then
                    some (Sum.inr (Sum.inl ()))
                  else
                    (nth a1.irbs x4.irb).bind fun x20 =>
                    if (x20.domain != v2) = true then
                      some (Sum.inr (Sum.inl ()))
                    else
                      some (Sum.inl (wr_i64 (v2 + 1)))
                else
                  some (Sum.inl (wr_i64 (v2 + 1)))
  else
    some (Sum.inr (Sum.inr ()))

def palingref15_domains_L3 (a1 : Api_Net) (v25 : Int) (x27 : Api_Domain) (v29 : Int) : Option ((Int) ⊕ (Unit ⊕ Unit)) :=
  if (decide (v29 < (x27.peers.length : Int))) = true then
    (nth x27.peers v29).bind fun x31 =>
    (palingref15_peer a1 v25 x31).bind fun r33 =>
    if (!r33) = true then
      some (Sum.inr (Sum.inl ()))
    else
      if (slok (List.length x27.peers) 0 v29) = true then
        (nth x27.peers v29).bind fun x37 =>
        (palingref15_In (List.drop (Int.toNat 0) (List.take (Int.toNat v29) x27.peers)) x37).bind fun r39 =>
        if (r39) = true then
          some (Sum.inr (Sum.inl ()))
        else
          some (Sum.inl (wr_i64 (v29 + 1)))
      else
        none
  else
    some (Sum.inr (Sum.inr ()))

def palingref15_domains_L2 (a1 : Api_Net) (v25 : Int) : Option ((Int) ⊕ (Unit ⊕ Unit)) :=
  if (decide (v25 < (a1.domains.length : Int))) = true then
    (nth a1.domains v25).bind fun x27 =>
    (loopM (palingref15_domains_L3 a1 v25 x27) 0).bind fun r43 => match r43 with
    | Sum.inl () =>
      some (Sum.inr (Sum.inl ()))
    | Sum.inr () =>
      some (Sum.inl (wr_i64 (v25 + 1)))
  else
    some (Sum.inr (Sum.inr ()))

def palingref15_domains (a1 : Api_Net) : Option (Bool) :=
  (loopM (palingref15_domains_L1 a1) 0).bind fun r24 => match r24 with
  | Sum.inl () =>
    some false
  | Sum.inr () =>
    (loopM (palingref15_domains_L2 a1) 0).bind fun r45 => match r45 with
    | Sum.inl () =>
      some false
    | Sum.inr () =>
      some true

def palingref03_Rising_L1 (a1 : List Int) (a2 : Int) (a3 : Int) (v6 : Int) : Option ((Int) ⊕ (Unit ⊕ Unit)) :=
  if (decide (v6 < (a1.length : Int))) = true then
    (nth a1 v6).bind fun x8 =>
    if (decide (x8 < a2)) = true then
      some (Sum.inr (Sum.inl ()))
    else
      (nth a1 v6).bind fun x11 =>
      if (decide (x11 > a3)) = true then
        some (Sum.inr (Sum.inl ()))
      else
        if (decide (v6 > 0)) = true then
          (nth a1 v6).bind fun x15 =>
          (nth a1 (wr_i64 (v6 - 1))).bind fun x17 =>
          if (decide (x15 ≤ x17)) = true then
            some (Sum.inr (Sum.inl ()))
          else
            some (Sum.inl (wr_i64 (v6 + 1)))
        else
          some (Sum.inl (wr_i64 (v6 + 1)))
  else
    some (Sum.inr (Sum.inr ()))

def palingref03_Rising (a1 : List Int) (a2 : Int) (a3 : Int) : Option (Bool) :=
  if (decide ((a1.length : Int) < 1)) = true then
    some false
  else
    if (decide ((a1.length : Int) > 16)) = true then
      some false
    else
      (loopM (palingref03_Rising_L1 a1 a2 a3) 0).bind fun r21 => match r21 with
      | Sum.inl () =>
        some false
      | Sum.inr () =>
        some true

def palingref15_rising (a1 : List Int) (a2 : Int) : Option (Bool) :=
  if ((a1.length : Int) == 0) = true then
    some true
  else
    (palingref03_Rising a1 1 a2).bind fun r4 =>
    some r4

def palingref15_ports_J2 (a1 : Api_Net) (v2 : Int) (x4 : Api_Port) : Option (Unit ⊕ Unit) :=
  if (x4.native == 0) = true then
    if ((x4.tagged.length : Int) == 0) = true then
      some (Sum.inl ())
    else
      if (decide (x4.native > 0)) = true then
        (palingref15_At a1 x4.dev x4.native).bind fun r20 =>
        if (decide (r20 < 0)) = true then
          some (Sum.inl ())
        else
          some (Sum.inr ())
      else
        some (Sum.inr ())
  else
    if (decide (x4.native > 0)) = true then
      (palingref15_At a1 x4.dev x4.native).bind fun r24 =>
      if (decide (r24 < 0)) = true then
        some (Sum.inl ())
      else
        some (Sum.inr ())
    else
      some (Sum.inr ())

def palingref15_ports_L3 (a1 : Api_Net) (v2 : Int) (x4 : Api_Port) (v29 : Int) : Option ((Int) ⊕ (Unit ⊕ Unit)) :=
  if (decide (v29 < (x4.tagged.length : Int))) = true then
    (nth x4.tagged v29).bind fun x31 =>
    (palingref15_At a1 x4.dev x31).bind fun r33 =>
    if (decide (r33 < 0)) = true then
      some (Sum.inr (Sum.inl ()))
    else
      some (Sum.inl (wr_i64 (v29 + 1)))
  else
    some (Sum.inr (Sum.inr ()))

def palingref15_ports_L1 (a1 : Api_Net) (v2 : Int) : Option ((Int) ⊕ (Unit ⊕ Unit)) :=
  if (decide (v2 < (a1.ports.length : Int))) = true then
    (nth a1.ports v2).bind fun x4 =>
    (palingref15_Place x4.dev (a1.devices.length : Int)).bind fun r6 =>
    if (!r6) = true then
      some (Sum.inr (Sum.inl ()))
    else
      if (decide (x4.native < 0)) = true then
        some (Sum.inr (Sum.inl ()))
      else
        if (decide (x4.native > 4094)) = true then
          some (Sum.inr (Sum.inl ()))
        else
          (palingref15_rising x4.tagged 4094).bind fun r11 =>
          if (!r11) = true then
            some (Sum.inr (Sum.inl ()))
          else
            (palingref15_In x4.tagged x4.native).bind fun r14 =>
            if (r14) = true then
              some (Sum.inr (Sum.inl ()))
            else
              (palingref15_ports_J2 a1 v2 x4).bind fun r28 => match r28 with
              | Sum.inl () =>
                some (Sum.inr (Sum.inl ()))
              | Sum.inr () =>
                (loopM (palingref15_ports_L3 a1 v2 x4) 0).bind fun r37 => match r37 with
                | Sum.inl () =>
                  some (Sum.inr (Sum.inl ()))
                | Sum.inr () =>
                  if (x4.link == (-1)) = true then
                    some (Sum.inl (wr_i64 (v2 + 1)))
                  else
                    (palingref15_Place x4.link (a1.links.length : Int)).bind fun r39 =>
                    if (!r39) = true then
                      some (Sum.inr (Sum.inl ()))
                    else
                      (nth a1.links x4.link).bind fun x42 =>
                      if (x42.a != v2) = true then
                        (nth a1.links x4.link).bind fun x45 =>
                        if (x45.b != v2) = true then
                          some (Sum.inr (Sum.inl ()))
                        else
                          some (Sum.inl (wr_i64 (v2 + 1)))
                      else
                        some (Sum.inl (wr_i64 (v2 + 1)))
  else
    some (Sum.inr (Sum.inr ()))

def palingref15_ports (a1 : Api_Net) : Option (Bool) :=
  (loopM (palingref15_ports_L1 a1) 0).bind fun r49 => match r49 with
  | Sum.inl () =>
    some false
  | Sum.inr () =>
    some true

def palingref15_links_L1 (a1 : Api_Net) (v2 : Int) : Option ((Int) ⊕ (Unit ⊕ Unit)) :=
  if (decide (v2 < (a1.links.length : Int))) = true then
    (nth a1.links v2).bind fun x4 =>
    (palingref15_Place x4.a (a1.ports.length : Int)).bind fun r6 =>
    if (!r6) = true then
      some (Sum.inr (Sum.inl ()))
    else
      (palingref15_Place x4.b (a1.ports.length : Int)).bind fun r9 =>
      if (!r9) = true then
        some (Sum.inr (Sum.inl ()))
      else
        (nth a1.ports x4.a).bind fun x12 =>
        (nth a1.ports x4.b).bind fun x14 =>
        if (x12.dev == x14.dev) = true then
          some (Sum.inr (Sum.inl ()))
        else
          (nth a1.ports x4.a).bind fun x17 =>
          if (x17.link != v2) = true then
            some (Sum.inr (Sum.inl ()))
          else
            (nth a1.ports x4.b).bind fun x20 =>
            if (x20.link != v2) = true then
              some (Sum.inr (Sum.inl ()))
            else
              some (Sum.inl (wr_i64 (v2 + 1)))
  else
    some (Sum.inr (Sum.inr ()))

def palingref15_links (a1 : Api_Net) : Option (Bool) :=
  (loopM (palingref15_links_L1 a1) 0).bind fun r24 => match r24 with
  | Sum.inl () =>
    some false
  | Sum.inr () =>
    some true

def palingref15_Member (a1 : Api_Port) (a2 : Int) : Option (Bool) :=
  if (a2 != 0) = true then
    if (a1.native == a2) = true then
      some true
    else
      (palingref15_In a1.tagged a2).bind fun r5 =>
      some r5
  else
    some false

def palingref15_rest_L1 (a1 : Api_Net) (v2 : Int) : Option ((Int) ⊕ (Unit ⊕ Unit)) :=
  if (decide (v2 < (a1.statics.length : Int))) = true then
    (nth a1.statics v2).bind fun x4 =>
    (palingref15_Place x4.domain (a1.domains.length : Int)).bind fun r6 =>
    if (!r6) = true then
      some (Sum.inr (Sum.inl ()))
    else
      (palingref15_Place x4.port (a1.ports.length : Int)).bind fun r9 =>
      if (!r9) = true then
        some (Sum.inr (Sum.inl ()))
      else
        (nth a1.domains x4.domain).bind fun x12 =>
        (nth a1.ports x4.port).bind fun x14 =>
        if (x14.dev != x12.dev) = true then
          some (Sum.inr (Sum.inl ()))
        else
          (nth a1.ports x4.port).bind fun x17 =>
          (palingref15_Member x17 x12.vlan).bind fun r19 =>
          if (!r19) = true then
            some (Sum.inr (Sum.inl ()))
          else
            some (Sum.inl (wr_i64 (v2 + 1)))
  else
    some (Sum.inr (Sum.inr ()))

def palingref15_rest_L2 (a1 : Api_Net) (v24 : Int) : Option ((Int) ⊕ (Unit ⊕ Unit)) :=
  if (decide (v24 < (a1.floods.length : Int))) = true then
    (nth a1.floods v24).bind fun x26 =>
    (palingref15_Place x26.dev (a1.devices.length : Int)).bind fun r28 =>
    if (!r28) = true then
      some (Sum.inr (Sum.inl ()))
    else
      (nth a1.floods v24).bind fun x31 =>
      if (decide ((x31.addrs.length : Int) > 16)) = true then
        some (Sum.inr (Sum.inl ()))
      else
        some (Sum.inl (wr_i64 (v24 + 1)))
  else
    some (Sum.inr (Sum.inr ()))

def palingref15_rest_L3 (a1 : Api_Net) (v36 : Int) : Option ((Int) ⊕ (Unit ⊕ Unit)) :=
  if (decide (v36 < (a1.vrfs.length : Int))) = true then
    (nth a1.vrfs v36).bind fun x38 =>
    (palingref15_Place x38.dev (a1.devices.length : Int)).bind fun r40 =>
    if (!r40) = true then
      some (Sum.inr (Sum.inl ()))
    else
      (palingref15_rising x38.imports 65535).bind fun r43 =>
      if (!r43) = true then
        some (Sum.inr (Sum.inl ()))
      else
        (palingref15_rising x38.exports 65535).bind fun r46 =>
        if (!r46) = true then
          some (Sum.inr (Sum.inl ()))
        else
          some (Sum.inl (wr_i64 (v36 + 1)))
  else
    some (Sum.inr (Sum.inr ()))

def palingref15_rest_L4 (a1 : Api_Net) (v51 : Int) : Option ((Int) ⊕ (Unit ⊕ Unit)) :=
  if (decide (v51 < (a1.irbs.length : Int))) = true then
    (nth a1.irbs v51).bind fun x53 =>
    (palingref15_Place x53.domain (a1.domains.length : Int)).bind fun r55 =>
    if (!r55) = true then
      some (Sum.inr (Sum.inl ()))
    else
      (palingref15_Place x53.vrf (a1.vrfs.length : Int)).bind fun r58 =>
      if (!r58) = true then
        some (Sum.inr (Sum.inl ()))
      else
        if (decide (x53.net.bits < 1)) = true then
          some (Sum.inr (Sum.inl ()))
        else
          if (decide (x53.net.bits > 30)) = true then
            some (Sum.inr (Sum.inl ()))
          else
            (nth a1.domains x53.domain).bind fun x63 =>
            (nth a1.vrfs x53.vrf).bind fun x65 =>
            if (x63.dev != x65.dev) = true then
              some (Sum.inr (Sum.inl ()))
            else
              (nth a1.domains x53.domain).bind fun x68 =>
              if (x68.irb != v51) = true then
                some (Sum.inr (Sum.inl ()))
              else
                some (Sum.inl (wr_i64 (v51 + 1)))
  else
    some (Sum.inr (Sum.inr ()))

def palingref15_rest (a1 : Api_Net) : Option (Bool) :=
  (loopM (palingref15_rest_L1 a1) 0).bind fun r23 => match r23 with
  | Sum.inl () =>
    some false
  | Sum.inr () =>
    (loopM (palingref15_rest_L2 a1) 0).bind fun r35 => match r35 with
    | Sum.inl () =>
      some false
    | Sum.inr () =>
      (loopM (palingref15_rest_L3 a1) 0).bind fun r50 => match r50 with
      | Sum.inl () =>
        some false
      | Sum.inr () =>
        (loopM (palingref15_rest_L4 a1) 0).bind fun r72 => match r72 with
        | Sum.inl () =>
          some false
        | Sum.inr () =>
          some true

def palingref15_Right (a1 : Api_Net) : Option (Bool) :=
  if (decide ((a1.devices.length : Int) > 8)) = true then
    some false
  else
    if (decide ((a1.ports.length : Int) > 40)) = true then
      some false
    else
      if (decide ((a1.links.length : Int) > 20)) = true then
        some false
      else
        if (decide ((a1.domains.length : Int) > 48)) = true then
          some false
        else
          if (decide ((a1.statics.length : Int) > 64)) = true then
            some false
          else
            if (decide ((a1.floods.length : Int) > 48)) = true then
              some false
            else
              if (decide ((a1.vrfs.length : Int) > 16)) = true then
                some false
              else
                if (decide ((a1.irbs.length : Int) > 48)) = true then
                  some false
                else
                  (palingref15_domains a1).bind fun r10 =>
                  if (r10) = true then
                    (palingref15_ports a1).bind fun r13 =>
                    if (r13) = true then
                      (palingref15_links a1).bind fun r16 =>
                      if (r16) = true then
                        (palingref15_rest a1).bind fun r19 =>
                        some r19
                      else
                        some false
                    else
                      some false
                  else
                    some false

def palingref30_device (a1 : Api_Net) (a2 : Int) : Option (Int) :=
  (nth a1.irbs a2).bind fun x3 =>
  (nth a1.domains x3.domain).bind fun x5 =>
  some x5.dev

def palingref02_Right (a1 : Api_Prefix) : Option (Bool) :=
  if (decide (a1.bits ≥ 0)) = true then
    some (decide (a1.bits ≤ 32))
  else
    some false

def palingref02_size_L1 (v2 : Int) (v3 : Int) : Option ((Int × Int) ⊕ (Int)) :=
  if (decide (v3 < 32)) = true then
    some (Sum.inl (wr_i64 (v2 * 2), wr_i64 (v3 + 1)))
  else
    some (Sum.inr v2)

def palingref02_size (a1 : Api_Prefix) : Option (Int) :=
  (loopM (fun s : Int × Int => match s with | (v2, v3) => palingref02_size_L1 v2 v3) (1, a1.bits)).bind fun r8 => match r8 with
  | v6 =>
    some v6

def palingref02_First (a1 : Api_Prefix) : Option (Int) :=
  (palingref02_Right a1).bind fun r2 =>
  if (!r2) = true then
    some 0
  else
    (palingref02_size a1).bind fun r5 =>
    if (r5 != 0) = true then
      (palingref02_size a1).bind fun r8 =>
      some (wr_u32 (wr_i64 ((wr_i64 (Int.tdiv (wr_i64 a1.addr) r5)) * r8)))
    else
      none

def palingref02_Last (a1 : Api_Prefix) : Option (Int) :=
  (palingref02_Right a1).bind fun r2 =>
  if (!r2) = true then
    some 0
  else
    (palingref02_First a1).bind fun r5 =>
    (palingref02_size a1).bind fun r7 =>
    some (wr_u32 (wr_i64 ((wr_i64 ((wr_i64 r5) + r7)) - 1)))

def palingref02_Has (a1 : Api_Prefix) (a2 : Int) : Option (Bool) :=
  (palingref02_Right a1).bind fun r3 =>
  if (r3) = true then
    (palingref02_First a1).bind fun r6 =>
    if (decide (a2 ≥ r6)) = true then
      (palingref02_Last a1).bind fun r9 =>
      some (decide (a2 ≤ r9))
    else
      some false
  else
    some false

def palingref20_Leaks_L1 (a1 : Api_Net) (a2 : Int) (a3 : Int) (v11 : Int) : Option ((Int) ⊕ (Unit ⊕ Unit)) :=
  (nth a1.vrfs a2).bind fun x12 =>
  if (decide (v11 < (x12.exports.length : Int))) = true then
    (nth a1.vrfs a2).bind fun x15 =>
    (nth a1.vrfs a3).bind fun x17 =>
    if (x15.dev == x17.dev) = true then
      (nth a1.vrfs a3).bind fun x20 =>
      (nth a1.vrfs a2).bind fun x22 =>
      (nth x22.exports v11).bind fun x24 =>
      (palingref15_In x20.imports x24).bind fun r26 =>
      if (r26) = true then
        some (Sum.inr (Sum.inl ()))
      else
        some (Sum.inl (wr_i64 (v11 + 1)))
    else
      some (Sum.inl (wr_i64 (v11 + 1)))
  else
    some (Sum.inr (Sum.inr ()))

def palingref20_Leaks (a1 : Api_Net) (a2 : Int) (a3 : Int) : Option (Bool) :=
  (palingref15_Place a2 (a1.vrfs.length : Int)).bind fun r4 =>
  if (!r4) = true then
    some false
  else
    (palingref15_Place a3 (a1.vrfs.length : Int)).bind fun r7 =>
    if (!r7) = true then
      some false
    else
      if (a2 == a3) = true then
        some true
      else
        (loopM (palingref20_Leaks_L1 a1 a2 a3) 0).bind fun r30 => match r30 with
        | Sum.inl () =>
          some true
        | Sum.inr () =>
          some false

def palingref30_better (a1 : Api_Net) (a2 : Int) (a3 : Int) (a4 : Int) : Option (Bool) :=
  (nth a1.irbs a3).bind fun x5 =>
  (nth a1.irbs a4).bind fun x7 =>
  if (x5.net.bits != x7.net.bits) = true then
    (nth a1.irbs a3).bind fun x10 =>
    (nth a1.irbs a4).bind fun x12 =>
    some (decide (x10.net.bits > x12.net.bits))
  else
    (nth a1.irbs a3).bind fun x14 =>
    (nth a1.irbs a2).bind fun x16 =>
    if (x14.vrf == x16.vrf) = true then
      (nth a1.irbs a4).bind fun x19 =>
      (nth a1.irbs a2).bind fun x21 =>
      some (x19.vrf != x21.vrf)
    else
      some false

def palingref30_Lookup_L1 (a1 : Api_Net) (a2 : Int) (a3 : Int) (v7 : Int) (v8 : Int) : Option ((Int × Int) ⊕ (Unit ⊕ Int)) :=
  if (decide (v8 < (a1.irbs.length : Int))) = true then
    (palingref30_device a1 v8).bind fun r10 =>
    (palingref30_device a1 a2).bind fun r12 =>
    if (r10 != r12) = true then
      some (Sum.inl (v7, wr_i64 (v8 + 1)))
    else
      (nth a1.irbs v8).bind fun x15 =>
      if (x15.net.addr == a3) = true then
        some (Sum.inr (Sum.inl ()))
      else
        (nth a1.irbs v8).bind fun x18 =>
        (palingref02_Has x18.net a3).bind fun r20 =>
        if (!r20) = true then
          some (Sum.inl (v7, wr_i64 (v8 + 1)))
        else
          (nth a1.irbs v8).bind fun x23 =>
          (nth a1.irbs a2).bind fun x25 =>
          (palingref20_Leaks a1 x23.vrf x25.vrf).bind fun r27 =>
          if (!r27) = true then
            some (Sum.inl (v7, wr_i64 (v8 + 1)))
          else
            if (decide (v7 < 0)) = true then
              some (Sum.inl (v8, wr_i64 (v8 + 1)))
            else
              (palingref30_better a1 a2 v8 v7).bind fun r31 =>
              if (r31) = true then
                some (Sum.inl (v8, wr_i64 (v8 + 1)))
              else
                some (Sum.inl (v7, wr_i64 (v8 + 1)))
  else
    some (Sum.inr (Sum.inr v7))

def palingref30_Lookup (a1 : Api_Net) (a2 : Int) (a3 : Int) : Option (Int × Bool) :=
  (palingref15_Place a2 (a1.irbs.length : Int)).bind fun r4 =>
  if (!r4) = true then
    some (0, false)
  else
    (loopM (fun s : Int × Int => match s with | (v7, v8) => palingref30_Lookup_L1 a1 a2 a3 v7 v8) ((-1), 0)).bind fun r37 => match r37 with
    | Sum.inl () =>
      some (0, false)
    | Sum.inr v35 =>
      if (decide (v35 < 0)) = true then
        some (0, false)
      else
        some (v35, true)

def palingref07_number_L1 (a1 : List Int) (v2 : Int) (v3 : Int) : Option ((Int × Int) ⊕ (Int)) :=
  if (decide (v3 < (a1.length : Int))) = true then
    (nth a1 v3).bind fun x5 =>
    some (Sum.inl (wr_i64 ((wr_i64 (v2 * 256)) + (wr_i64 x5)), wr_i64 (v3 + 1)))
  else
    some (Sum.inr v2)

def palingref07_number (a1 : List Int) : Option (Int) :=
  (loopM (fun s : Int × Int => match s with | (v2, v3) => palingref07_number_L1 a1 v2 v3) (0, 0)).bind fun r10 => match r10 with
  | v8 =>
    some v8

def palingref06_Sum_L1 (a1 : List Int) (v2 : Int) (v3 : Int) : Option ((Int × Int) ⊕ (Int)) :=
  if (decide (v3 < (a1.length : Int))) = true then
    (nth a1 v3).bind fun x5 =>
    if (decide ((wr_i64 (v3 + 1)) < (a1.length : Int))) = true then
      (nth a1 (wr_i64 (v3 + 1))).bind fun x8 =>
      if (decide ((wr_i64 (v2 + (wr_i64 ((wr_i64 ((wr_i64 x5) * 256)) + (wr_i64 x8))))) > 65535)) = true then
        some (Sum.inl (wr_i64 ((wr_i64 (v2 + (wr_i64 ((wr_i64 ((wr_i64 x5) * 256)) + (wr_i64 x8))))) - 65535), wr_i64 (v3 + 2)))
      else
        some (Sum.inl (wr_i64 (v2 + (wr_i64 ((wr_i64 ((wr_i64 x5) * 256)) + (wr_i64 x8)))), wr_i64 (v3 + 2)))
    else
      if (decide ((wr_i64 (v2 + (wr_i64 ((wr_i64 x5) * 256)))) > 65535)) = true then
        some (Sum.inl (wr_i64 ((wr_i64 (v2 + (wr_i64 ((wr_i64 x5) * 256)))) - 65535), wr_i64 (v3 + 2)))
      else
        some (Sum.inl (wr_i64 (v2 + (wr_i64 ((wr_i64 x5) * 256))), wr_i64 (v3 + 2)))
  else
    some (Sum.inr v2)

def palingref06_Sum (a1 : List Int) : Option (Int) :=
  (loopM (fun s : Int × Int => match s with | (v2, v3) => palingref06_Sum_L1 a1 v2 v3) (0, 0)).bind fun r15 => match r15 with
  | v13 =>
    some v13

def palingref06_Right (a1 : List Int) : Option (Bool) :=
  (palingref06_Sum a1).bind fun r2 =>
  some (r2 == 65535)

def palingref07_Take (a1 : List Int) : Option (((List Int) × Int × Int × Int × Int × Int × Int × Int)) :=
  if (decide ((a1.length : Int) < 20)) = true then
    some ([], 0, 0, 0, 0, 0, 0, 10)
  else
    if (slok (List.length a1) 2 4) = true then
      (palingref07_number (List.drop (Int.toNat 2) (List.take (Int.toNat 4) a1))).bind fun r4 =>
      (nth a1 0).bind fun x6 =>
      if (x6 != 69) = true then
        some ([], 0, 0, 0, 0, 0, 0, 11)
      else
        if (decide (r4 < 20)) = true then
          some ([], 0, 0, 0, 0, 0, 0, 11)
        else
          if (decide (r4 > (a1.length : Int))) = true then
            some ([], 0, 0, 0, 0, 0, 0, 10)
          else
            if (slok (List.length a1) 6 8) = true then
              (palingref07_number (List.drop (Int.toNat 6) (List.take (Int.toNat 8) a1))).bind fun r12 =>
              if (r12 != 0) = true then
                some ([], 0, 0, 0, 0, 0, 0, 11)
              else
                if (slok (List.length a1) 0 20) = true then
                  (palingref06_Right (List.drop (Int.toNat 0) (List.take (Int.toNat 20) a1))).bind fun r16 =>
                  if (!r16) = true then
                    some ([], 0, 0, 0, 0, 0, 0, 12)
                  else
                    (nth a1 1).bind fun x19 =>
                    if (slok (List.length a1) 4 6) = true then
                      (palingref07_number (List.drop (Int.toNat 4) (List.take (Int.toNat 6) a1))).bind fun r22 =>
                      (nth a1 8).bind fun x24 =>
                      (nth a1 9).bind fun x26 =>
                      if (slok (List.length a1) 12 16) = true then
                        (palingref07_number (List.drop (Int.toNat 12) (List.take (Int.toNat 16) a1))).bind fun r29 =>
                        if (slok (List.length a1) 16 20) = true then
                          (palingref07_number (List.drop (Int.toNat 16) (List.take (Int.toNat 20) a1))).bind fun r32 =>
                          if (slok (List.length a1) 20 r4) = true then
                            if (roomy 1 (List.drop (Int.toNat 20) (List.take (Int.toNat r4) a1))) = true then
                              some (List.drop (Int.toNat 20) (List.take (Int.toNat r4) a1), wr_i64 x19, r22, wr_i64 x24, wr_i64 x26, wr_u32 r29, wr_u32 r32, 0)
                            else
                              none
                          else
                            none
                        else
                          none
                      else
                        none
                    else
                      none
                else
                  none
            else
              none
    else
      none

def palingref07_Hop (a1 : Api_Packet) : Option ((Api_Packet × Int)) :=
  if (decide (a1.ttl ≤ 1)) = true then
    some ((⟨0, 0, 0, 0, 0, 0, []⟩ : Api_Packet), 13)
  else
    some ((⟨a1.tos, a1.id, wr_i64 (a1.ttl - 1), a1.proto, a1.src, a1.dst, a1.body⟩ : Api_Packet), 0)

def palingref07_out (a1 : Int) (a2 : Int) : Option (Bool) :=
  if (decide (a1 < 0)) = true then
    some true
  else
    some (decide (a1 > a2))

def palingref07_bytes_L1 (a2 : Int) (l4 : List Int) (v5 : Int) (v6 : Int) : Option (((List Int) × Int × Int) ⊕ ((List Int))) :=
  if (decide (v6 < a2)) = true then
    if (lin l4 (wr_i64 ((wr_i64 (a2 - 1)) - v6))) = true then
      (l4[(Int.toNat (wr_i64 ((wr_i64 (a2 - 1)) - v6)))]?).bind fun x9 =>
      some (Sum.inl (List.set l4 (Int.toNat (wr_i64 ((wr_i64 (a2 - 1)) - v6))) (wr_u8 (Int.tmod v5 256) : Int), wr_i64 (Int.tdiv v5 256), wr_i64 (v6 + 1)))
    else
      none
  else
    some (Sum.inr l4)

def palingref07_bytes (a1 : Int) (a2 : Int) : Option (((List Int))) :=
  if (mkok 1 a2 a2) = true then
    (loopM (fun s : (List Int) × Int × Int => match s with | (l4, v5, v6) => palingref07_bytes_L1 a2 l4 v5 v6) (List.replicate (Int.toNat a2) (0 : Int), a1, 0)).bind fun r15 => match r15 with
    | l13 =>
      some l13
  else
    none

def palingref06_Of (a1 : List Int) : Option (Int) :=
  (palingref06_Sum a1).bind fun r2 =>
  some (wr_i64 (65535 - r2))

def palingref07_Put (a1 : Api_Packet) : Option (((List Int) × Int)) :=
  (palingref07_out a1.tos 255).bind fun r2 =>
  if (r2) = true then
    some ([], 11)
  else
    (palingref07_out a1.ttl 255).bind fun r5 =>
    if (r5) = true then
      some ([], 11)
    else
      (palingref07_out a1.proto 255).bind fun r8 =>
      if (r8) = true then
        some ([], 11)
      else
        (palingref07_out a1.id 65535).bind fun r11 =>
        if (r11) = true then
          some ([], 11)
        else
          if (decide ((a1.body.length : Int) > 1480)) = true then
            some ([], 14)
          else
            (palingref07_bytes (wr_i64 (20 + (a1.body.length : Int))) 2).bind fun r15 => match r15 with
            | l17 =>
              if (roomy 1 ([(69 : Int), (wr_u8 a1.tos : Int)] ++ l17)) = true then
                (palingref07_bytes a1.id 2).bind fun r19 => match r19 with
                | l21 =>
                  if (roomy 1 (([(69 : Int), (wr_u8 a1.tos : Int)] ++ l17) ++ l21)) = true then
                    if (roomy 1 ((([(69 : Int), (wr_u8 a1.tos : Int)] ++ l17) ++ l21) ++ [(0 : Int), (0 : Int), (wr_u8 a1.ttl : Int), (wr_u8 a1.proto : Int)])) = true then
                      (palingref07_bytes (wr_i64 a1.src) 4).bind fun r24 => match r24 with
                      | l26 =>
                        (palingref07_bytes (wr_i64 a1.dst) 4).bind fun r27 => match r27 with
                        | l29 =>
                          if (roomy 1 (l26 ++ l29)) = true then
                            if (roomy 1 (((([(69 : Int), (wr_u8 a1.tos : Int)] ++ l17) ++ l21) ++ [(0 : Int), (0 : Int), (wr_u8 a1.ttl : Int), (wr_u8 a1.proto : Int)]) ++ (l26 ++ l29))) = true then
                              (palingref06_Of (((([(69 : Int), (wr_u8 a1.tos : Int)] ++ l17) ++ l21) ++ [(0 : Int), (0 : Int), (wr_u8 a1.ttl : Int), (wr_u8 a1.proto : Int)]) ++ (l26 ++ l29))).bind fun r32 =>
                              (palingref07_bytes r32 2).bind fun r34 => match r34 with
                              | l36 =>
                                if (roomy 1 (((([(69 : Int), (wr_u8 a1.tos : Int)] ++ l17) ++ l21) ++ [(0 : Int), (0 : Int), (wr_u8 a1.ttl : Int), (wr_u8 a1.proto : Int)]) ++ l36)) = true then
                                  if (roomy 1 ((((([(69 : Int), (wr_u8 a1.tos : Int)] ++ l17) ++ l21) ++ [(0 : Int), (0 : Int), (wr_u8 a1.ttl : Int), (wr_u8 a1.proto : Int)]) ++ l36) ++ (l26 ++ l29))) = true then
                                    if (roomy 1 (((((([(69 : Int), (wr_u8 a1.tos : Int)] ++ l17) ++ l21) ++ [(0 : Int), (0 : Int), (wr_u8 a1.ttl : Int), (wr_u8 a1.proto : Int)]) ++ l36) ++ (l26 ++ l29)) ++ a1.body)) = true then
                                      some (((((([(69 : Int), (wr_u8 a1.tos : Int)] ++ l17) ++ l21) ++ [(0 : Int), (0 : Int), (wr_u8 a1.ttl : Int), (wr_u8 a1.proto : Int)]) ++ l36) ++ (l26 ++ l29)) ++ a1.body, 0)
                                    else
                                      none
                                  else
                                    none
                                else
                                  none
                            else
                              none
                          else
                            none
                    else
                      none
                  else
                    none
              else
                none

def palingref01_Host (a1 : Int) : Option (Int) :=
  some (wr_u64 (2199023255552 + (wr_u64 a1)))

def palingref30_Hop (a1 : Api_Net) (a2 : Int) (a3 : Api_Frame) : Option (((List Int) × Int × Int × Int × Int × Int)) :=
  (palingref15_Right a1).bind fun r4 =>
  if (!r4) = true then
    some ([], 0, 0, 0, 0, 2)
  else
    (palingref15_Place a2 (a1.irbs.length : Int)).bind fun r7 =>
    if (!r7) = true then
      some ([], 0, 0, 0, 0, 2)
    else
      if (a3.type_ != 2048) = true then
        some ([], 0, 0, 0, 0, 11)
      else
        (palingref07_Take a3.body).bind fun r11 => match r11 with
        | (l13, v14, v15, v16, v17, v18, v19, v20) =>
          if (v20 != 0) = true then
            some ([], 0, 0, 0, 0, v20)
          else
            (palingref07_Hop (⟨v14, v15, v16, v17, v18, v19, l13⟩ : Api_Packet)).bind fun r22 => match r22 with
            | (r24, r25) =>
              if (r25 != 0) = true then
                some ([], 0, 0, 0, 0, r25)
              else
                (palingref30_Lookup a1 a2 v19).bind fun r27 =>
                if (!r27.2) = true then
                  some ([], 0, 0, 0, 0, 31)
                else
                  (palingref07_Put r24).bind fun r30 => match r30 with
                  | (l32, v33) =>
                    if (v33 != 0) = true then
                      some ([], 0, 0, 0, 0, v33)
                    else
                      (nth a1.irbs r27.1).bind fun x35 =>
                      (palingref01_Host v19).bind fun r37 =>
                      (palingref01_Host x35.net.addr).bind fun r39 =>
                      some (l32, x35.domain, r37, r39, 2048, 0)

def palingref04_Same (a1 : Api_Frame) (a2 : Api_Frame) : Option (Bool) :=
  if (a1.dst == a2.dst) = true then
    if (a1.src == a2.src) = true then
      if (a1.type_ == a2.type_) = true then
        some (seqB (bstr a1.body) (bstr a2.body))
      else
        some false
    else
      some false
  else
    some false

def palinglaw30_RouteLeads_J1 (a1 : Api_Net) (a2 : Int) (a3 : Int) (a4 : Api_Frame) (r13 : Int × Bool) : Option ((Int × Bool)) :=
  (palingref15_Right a1).bind fun r15 =>
  if (r15) = true then
    (palingref30_Lookup a1 a2 a3).bind fun r18 =>
    some (r18.1, r18.2)
  else
    some (0, false)

def palinglaw30_RouteLeads (a1 : Api_Net) (a2 : Int) (a3 : Int) (a4 : Api_Frame) : Option (Bool) :=
  (palinglaw15_Great a1).bind fun r5 =>
  if (r5) = true then
    (palinglaw30_works).bind fun r8 =>
    some r8
  else
    if (decide ((a4.body.length : Int) > 4000)) = true then
      (palinglaw30_works).bind fun r11 =>
      some r11
    else
      (route_Lookup a1 a2 a3).bind fun r13 =>
      (palinglaw30_RouteLeads_J1 a1 a2 a3 a4 r13).bind fun r25 => match r25 with
      | (v22, v23) =>
        (route_Hop a1 a2 a4).bind fun r26 => match r26 with
        | (l28, v29, v30, v31, v32, v33) =>
          (palingref30_Hop a1 a2 a4).bind fun r34 => match r34 with
          | (l36, v37, v38, v39, v40, v41) =>
            if (r13.1 == v22) = true then
              if (r13.2 == v23) = true then
                if (v29 == v37) = true then
                  (palingref04_Same (⟨v30, v31, v32, l28⟩ : Api_Frame) (⟨v38, v39, v40, l36⟩ : Api_Frame)).bind fun r45 =>
                  if (r45) = true then
                    if (v33 == v41) = true then
                      (palinglaw30_works).bind fun r49 =>
                      some r49
                    else
                      some false
                  else
                    some false
                else
                  some false
              else
                some false
            else
              some false

def leave_place (a1 : Int) (a2 : Int) : Option (Bool) :=
  if (decide (a1 ≥ 0)) = true then
    some (decide (a1 < a2))
  else
    some false

def tag_Is (a1 : Api_Frame) : Option (Bool) :=
  some (a1.type_ == 33024)

def mac_shift (a1 : Int) : Option (Int) :=
  some (wr_u64 (wr_i64 (8 * (wr_i64 (5 - a1)))))

def mac_Put_own_L1 (a2 : Int) (l3 : List Int) (v4 : Int) : Option (((List Int) × Int) ⊕ ((List Int))) :=
  if (decide (v4 < 6)) = true then
    (mac_shift v4).bind fun r6 =>
    if (decide (0 ≤ r6)) = true then
      if (roomy 1 (l3 ++ [(wr_u8 (Int.fdiv a2 (2 ^ (min (Int.toNat r6) 64))) : Int)])) = true then
        some (Sum.inl (l3 ++ [(wr_u8 (Int.fdiv a2 (2 ^ (min (Int.toNat r6) 64))) : Int)], wr_i64 (v4 + 1)))
      else
        none
    else
      none
  else
    some (Sum.inr l3)

def mac_Put_own (a1 : List Int) (a2 : Int) : Option (((List Int))) :=
  (loopM (fun s : (List Int) × Int => match s with | (l3, v4) => mac_Put_own_L1 a2 l3 v4) (a1, 0)).bind fun r14 => match r14 with
  | l12 =>
    some l12

def ether_Put (a1 : Api_Frame) : Option (((List Int) × Int)) :=
  if (decide (a1.dst > 281474976710655)) = true then
    some ([], 11)
  else
    if (decide (a1.src > 281474976710655)) = true then
      some ([], 11)
    else
      if (decide (a1.type_ < 0)) = true then
        some ([], 11)
      else
        if (decide (a1.type_ > 65535)) = true then
          some ([], 11)
        else
          if (decide ((a1.body.length : Int) > 1504)) = true then
            some ([], 14)
          else
            (mac_Put_own [] a1.dst).bind fun r7 => match r7 with
            | l9 =>
              (mac_Put_own l9 a1.src).bind fun r10 => match r10 with
              | l12 =>
                if (roomy 1 (l12 ++ [(wr_u8 (Int.fdiv a1.type_ (2 ^ 8)) : Int), (wr_u8 a1.type_ : Int)])) = true then
                  if (roomy 1 ((l12 ++ [(wr_u8 (Int.fdiv a1.type_ (2 ^ 8)) : Int), (wr_u8 a1.type_ : Int)]) ++ a1.body)) = true then
                    some ((l12 ++ [(wr_u8 (Int.fdiv a1.type_ (2 ^ 8)) : Int), (wr_u8 a1.type_ : Int)]) ++ a1.body, 0)
                  else
                    none
                else
                  none

def leave_whole_bare (a1 : Leave_whole) (a2 : Api_Frame) (a3 : Int) : Option (((List Int) × Int)) :=
  (ether_Put a2).bind fun r4 => match r4 with
  | (l6, v7) =>
    some (l6, v7)

def tag_Add_J1 (a1 : Api_Frame) (a2 : Int) (a3 : Int) : Option (Bool) :=
  (tag_Is a1).bind fun r4 =>
  if (r4) = true then
    some true
  else
    if (decide (a2 < 0)) = true then
      some true
    else
      if (decide (a2 > 4094)) = true then
        some true
      else
        if (decide (a3 < 0)) = true then
          some true
        else
          some (decide (a3 > 15))

def tag_Add_J2 (a1 : Api_Frame) (a2 : Int) (a3 : Int) : Option (Bool) :=
  if (decide (a1.type_ < 0)) = true then
    some true
  else
    some (decide (a1.type_ > 65535))

def tag_Add (a1 : Api_Frame) (a2 : Int) (a3 : Int) : Option (((List Int) × Int × Int × Int × Int)) :=
  (tag_Add_J1 a1 a2 a3).bind fun r13 => match r13 with
  | v11 =>
    if (v11) = true then
      some ([], 0, 0, 0, 15)
    else
      (tag_Add_J2 a1 a2 a3).bind fun r19 => match r19 with
      | v17 =>
        if (v17) = true then
          some ([], 0, 0, 0, 11)
        else
          if (decide ((a1.body.length : Int) > 1500)) = true then
            some ([], 0, 0, 0, 14)
          else
            if (roomy 1 ([(wr_u8 (Int.fdiv (bits_or .i64 (wr_i64 (a3 * 2 ^ 12)) a2) (2 ^ 8)) : Int), (wr_u8 (bits_or .i64 (wr_i64 (a3 * 2 ^ 12)) a2) : Int), (wr_u8 (Int.fdiv a1.type_ (2 ^ 8)) : Int), (wr_u8 a1.type_ : Int)] ++ a1.body)) = true then
              some ([(wr_u8 (Int.fdiv (bits_or .i64 (wr_i64 (a3 * 2 ^ 12)) a2) (2 ^ 8)) : Int), (wr_u8 (bits_or .i64 (wr_i64 (a3 * 2 ^ 12)) a2) : Int), (wr_u8 (Int.fdiv a1.type_ (2 ^ 8)) : Int), (wr_u8 a1.type_ : Int)] ++ a1.body, a1.dst, a1.src, 33024, 0)
            else
              none

def leave_whole_tagged (a1 : Leave_whole) (a2 : Api_Frame) (a3 : Int) : Option (((List Int) × Int)) :=
  (tag_Add a2 a3 0).bind fun r4 => match r4 with
  | (l6, v7, v8, v9, v10) =>
    if (v10 != 0) = true then
      some ([], v10)
    else
      (ether_Put (⟨v7, v8, v9, l6⟩ : Api_Frame)).bind fun r12 => match r12 with
      | (l14, v15) =>
        some (l14, v15)

def leave_At_J1 (a1 : Api_Net) (a4 : Api_Frame) (x14 : Api_Port) (x16 : Api_Domain) : Option (Bool) :=
  if (x14.dev != x16.dev) = true then
    some true
  else
    (names_Member x14 x16.vlan).bind fun r19 =>
    some (!r19)

def leave_At (a1 : Api_Net) (a2 : Int) (a3 : Int) (a4 : Api_Frame) : Option (((List Int) × Int)) :=
  (leave_place a2 (a1.ports.length : Int)).bind fun r5 =>
  if (!r5) = true then
    some ([], 2)
  else
    (leave_place a3 (a1.domains.length : Int)).bind fun r8 =>
    if (!r8) = true then
      some ([], 2)
    else
      (names_Right a1).bind fun r11 =>
      if (!r11) = true then
        some ([], 2)
      else
        (nth a1.ports a2).bind fun x14 =>
        (nth a1.domains a3).bind fun x16 =>
        (leave_At_J1 a1 a4 x14 x16).bind fun r24 => match r24 with
        | v22 =>
          if (v22) = true then
            some ([], 16)
          else
            (tag_Is a4).bind fun r26 =>
            if (r26) = true then
              some ([], 15)
            else
              if (x16.vlan == x14.native) = true then
                (leave_whole_bare (⟨a1⟩ : Leave_whole) a4 x16.vlan).bind fun r30 => match r30 with
                | (l32, v33) =>
                  some (l32, v33)
              else
                (leave_whole_tagged (⟨a1⟩ : Leave_whole) a4 x16.vlan).bind fun r34 => match r34 with
                | (l36, v37) =>
                  some (l36, v37)

def palinglaw28_works : Option (Bool) :=
  (leave_At (⟨[(⟨0, 0, (⟨#[97]⟩ : ByteArray), 0, 0⟩ : Api_Device)], [(⟨0, 0, 10, 0, (-1), (⟨#[112]⟩ : ByteArray), [(20 : Int)]⟩ : Api_Port)], [], [(⟨0, 10, 0, (-1), 0, []⟩ : Api_Domain), (⟨0, 20, 0, (-1), 0, []⟩ : Api_Domain)], [], [], [], []⟩ : Api_Net) 0 0 (⟨1, 2, 34997, []⟩ : Api_Frame)).bind fun r1 => match r1 with
  | (l3, v4) =>
    (leave_At (⟨[(⟨0, 0, (⟨#[97]⟩ : ByteArray), 0, 0⟩ : Api_Device)], [(⟨0, 0, 10, 0, (-1), (⟨#[112]⟩ : ByteArray), [(20 : Int)]⟩ : Api_Port)], [], [(⟨0, 10, 0, (-1), 0, []⟩ : Api_Domain), (⟨0, 20, 0, (-1), 0, []⟩ : Api_Domain)], [], [], [], []⟩ : Api_Net) 0 1 (⟨1, 2, 34997, []⟩ : Api_Frame)).bind fun r5 => match r5 with
    | (l7, v8) =>
      (leave_At (⟨[(⟨0, 0, (⟨#[97]⟩ : ByteArray), 0, 0⟩ : Api_Device)], [(⟨0, 0, 10, 0, (-1), (⟨#[112]⟩ : ByteArray), [(20 : Int)]⟩ : Api_Port)], [], [(⟨0, 10, 0, (-1), 0, []⟩ : Api_Domain), (⟨0, 20, 0, (-1), 0, []⟩ : Api_Domain)], [], [], [], []⟩ : Api_Net) 0 2 (⟨1, 2, 34997, []⟩ : Api_Frame)).bind fun r9 => match r9 with
      | (l11, v12) =>
        if (v4 == 0) = true then
          if (((List.length l3) : Int) == 14) = true then
            if (v8 == 0) = true then
              if (((List.length l7) : Int) == 18) = true then
                if (lin l7 15) = true then
                  (l7[(Int.toNat 15)]?).bind fun x18 =>
                  if (x18 == 20) = true then
                    some (v12 == 2)
                  else
                    some false
                else
                  none
              else
                some false
            else
              some false
          else
            some false
        else
          some false

def leave_whole_vtep (a1 : Leave_whole) (a2 : Int) : Option (Int) :=
  (nth a1.net.domains a2).bind fun x3 =>
  (nth a1.net.devices x3.dev).bind fun x5 =>
  some x5.vtep

def vxlan_Head (a1 : Int) : Option (((List Int) × Int)) :=
  if (decide (a1 < 1)) = true then
    some ([], 17)
  else
    if (decide (a1 > 16777215)) = true then
      some ([], 17)
    else
      some ([(8 : Int), (0 : Int), (0 : Int), (0 : Int), (wr_u8 (Int.fdiv a1 (2 ^ 16)) : Int), (wr_u8 (Int.fdiv a1 (2 ^ 8)) : Int), (wr_u8 a1 : Int), (0 : Int)], 0)

def udp_Port (a1 : Int) (a2 : Int) : Option (Int) :=
  some (wr_i64 (49152 + (wr_i64 (Int.tmod (bits_xor .u64 a1 a2) 16384))))

def udp_Put_L1 (a1 : Int) (a2 : Int) (a3 : List Int) (l9 : List Int) (v10 : Int) : Option (((List Int) × Int) ⊕ ((List Int))) :=
  if (decide (v10 < 4)) = true then
    if (v10 == 0) = true then
      if (roomy 1 (l9 ++ [(wr_u8 (Int.fdiv a1 (2 ^ 8)) : Int), (wr_u8 a1 : Int)])) = true then
        some (Sum.inl (l9 ++ [(wr_u8 (Int.fdiv a1 (2 ^ 8)) : Int), (wr_u8 a1 : Int)], wr_i64 (v10 + 1)))
      else
        none
    else
      if (v10 == 1) = true then
        if (roomy 1 (l9 ++ [(wr_u8 (Int.fdiv a2 (2 ^ 8)) : Int), (wr_u8 a2 : Int)])) = true then
          some (Sum.inl (l9 ++ [(wr_u8 (Int.fdiv a2 (2 ^ 8)) : Int), (wr_u8 a2 : Int)], wr_i64 (v10 + 1)))
        else
          none
      else
        if (v10 == 2) = true then
          if (roomy 1 (l9 ++ [(wr_u8 (Int.fdiv (wr_i64 (8 + (a3.length : Int))) (2 ^ 8)) : Int), (wr_u8 (wr_i64 (8 + (a3.length : Int))) : Int)])) = true then
            some (Sum.inl (l9 ++ [(wr_u8 (Int.fdiv (wr_i64 (8 + (a3.length : Int))) (2 ^ 8)) : Int), (wr_u8 (wr_i64 (8 + (a3.length : Int))) : Int)], wr_i64 (v10 + 1)))
          else
            none
        else
          if (v10 == 3) = true then
            if (roomy 1 (l9 ++ [(wr_u8 (Int.fdiv 0 (2 ^ 8)) : Int), (wr_u8 0 : Int)])) = true then
              some (Sum.inl (l9 ++ [(wr_u8 (Int.fdiv 0 (2 ^ 8)) : Int), (wr_u8 0 : Int)], wr_i64 (v10 + 1)))
            else
              none
          else
            none
  else
    some (Sum.inr l9)

def udp_Put (a1 : Int) (a2 : Int) (a3 : List Int) : Option (((List Int) × Int)) :=
  if (decide (a1 < 0)) = true then
    some ([], 11)
  else
    if (decide (a1 > 65535)) = true then
      some ([], 11)
    else
      if (decide (a2 < 0)) = true then
        some ([], 11)
      else
        if (decide (a2 > 65535)) = true then
          some ([], 11)
        else
          if (decide ((a3.length : Int) > 1472)) = true then
            some ([], 14)
          else
            (loopM (fun s : (List Int) × Int => match s with | (l9, v10) => udp_Put_L1 a1 a2 a3 l9 v10) ([], 0)).bind fun r26 => match r26 with
            | l24 =>
              if (roomy 1 (l24 ++ a3)) = true then
                some (l24 ++ a3, 0)
              else
                none

def vxlan_Wrap (a1 : Int) (a2 : Int) (a3 : Int) (a4 : Api_Frame) : Option (((List Int) × Int)) :=
  (tag_Is a4).bind fun r5 =>
  if (r5) = true then
    some ([], 15)
  else
    (ether_Put a4).bind fun r8 => match r8 with
    | (l10, v11) =>
      if (v11 != 0) = true then
        some ([], v11)
      else
        (vxlan_Head a3).bind fun r13 => match r13 with
        | (l15, v16) =>
          if (v16 != 0) = true then
            some ([], v16)
          else
            if (decide (((List.length l10) : Int) > 1464)) = true then
              some ([], 14)
            else
              (udp_Port a4.dst a4.src).bind fun r19 =>
              if (roomy 1 (l15 ++ l10)) = true then
                (udp_Put r19 4789 (l15 ++ l10)).bind fun r22 => match r22 with
                | (l24, v25) =>
                  (ipv4_Put (⟨0, 0, 64, 17, a1, a2, l24⟩ : Api_Packet)).bind fun r26 => match r26 with
                  | (l28, v29) =>
                    (mac_Host a2).bind fun r30 =>
                    (mac_Host a1).bind fun r32 =>
                    (ether_Put (⟨r30, r32, 2048, l28⟩ : Api_Frame)).bind fun r34 => match r34 with
                    | (l36, v37) =>
                      some (l36, v37)
              else
                none

def leave_Mesh (a1 : Api_Net) (a2 : Int) (a3 : Int) (a4 : Api_Frame) : Option (((List Int) × Int)) :=
  (leave_place a3 (a1.domains.length : Int)).bind fun r5 =>
  if (!r5) = true then
    some ([], 2)
  else
    (leave_place a2 (a1.domains.length : Int)).bind fun r8 =>
    if (!r8) = true then
      some ([], 2)
    else
      (names_Right a1).bind fun r11 =>
      if (!r11) = true then
        some ([], 2)
      else
        (nth a1.domains a2).bind fun x14 =>
        (slices_Contains_int x14.peers a3).bind fun r16 =>
        if (!r16) = true then
          some ([], 17)
        else
          (leave_whole_vtep (⟨a1⟩ : Leave_whole) a2).bind fun r19 =>
          (leave_whole_vtep (⟨a1⟩ : Leave_whole) a3).bind fun r21 =>
          (nth a1.domains a2).bind fun x23 =>
          (vxlan_Wrap r19 r21 x23.vni a4).bind fun r25 => match r25 with
          | (l27, v28) =>
            some (l27, v28)

def palingref28_vtep (a1 : Api_Net) (a2 : Int) : Option (Int) :=
  (nth a1.domains a2).bind fun x3 =>
  (nth a1.devices x3.dev).bind fun x5 =>
  some x5.vtep

def palingref01_Bytes_L2 (a1 : Int) (l2 : List Int) (v3 : Int) (v5 : Int) (v6 : Int) : Option ((Int × Int) ⊕ (Int)) :=
  if (decide (v6 < v3)) = true then
    some (Sum.inl (wr_u64 (Int.tdiv v5 256), wr_i64 (v6 + 1)))
  else
    some (Sum.inr v5)

def palingref01_Bytes_L1 (a1 : Int) (l2 : List Int) (v3 : Int) : Option (((List Int) × Int) ⊕ ((List Int))) :=
  if (decide (v3 ≥ 0)) = true then
    (loopM (fun s : Int × Int => match s with | (v5, v6) => palingref01_Bytes_L2 a1 l2 v3 v5 v6) (a1, 0)).bind fun r11 => match r11 with
    | v9 =>
      if (roomy 1 (l2 ++ [(wr_u8 (Int.tmod v9 256) : Int)])) = true then
        some (Sum.inl (l2 ++ [(wr_u8 (Int.tmod v9 256) : Int)], wr_i64 (v3 - 1)))
      else
        none
  else
    some (Sum.inr l2)

def palingref01_Bytes (a1 : Int) : Option (((List Int))) :=
  (loopM (fun s : (List Int) × Int => match s with | (l2, v3) => palingref01_Bytes_L1 a1 l2 v3) ([], 5)).bind fun r17 => match r17 with
  | l15 =>
    some l15

def palingref04_Put (a1 : Api_Frame) : Option (((List Int) × Int)) :=
  if (decide (a1.dst ≥ 281474976710656)) = true then
    some ([], 11)
  else
    if (decide (a1.src ≥ 281474976710656)) = true then
      some ([], 11)
    else
      if (decide (a1.type_ < 0)) = true then
        some ([], 11)
      else
        if (decide (a1.type_ ≥ 65536)) = true then
          some ([], 11)
        else
          if (decide ((a1.body.length : Int) > 1504)) = true then
            some ([], 14)
          else
            (palingref01_Bytes a1.dst).bind fun r7 => match r7 with
            | l9 =>
              (palingref01_Bytes a1.src).bind fun r10 => match r10 with
              | l12 =>
                if (roomy 1 (l9 ++ l12)) = true then
                  if (roomy 1 ((l9 ++ l12) ++ [(wr_u8 (wr_i64 (Int.tdiv a1.type_ 256)) : Int), (wr_u8 (Int.tmod a1.type_ 256) : Int)])) = true then
                    if (roomy 1 (((l9 ++ l12) ++ [(wr_u8 (wr_i64 (Int.tdiv a1.type_ 256)) : Int), (wr_u8 (Int.tmod a1.type_ 256) : Int)]) ++ a1.body)) = true then
                      some (((l9 ++ l12) ++ [(wr_u8 (wr_i64 (Int.tdiv a1.type_ 256)) : Int), (wr_u8 (Int.tmod a1.type_ 256) : Int)]) ++ a1.body, 0)
                    else
                      none
                  else
                    none
                else
                  none

def palingref09_Head (a1 : Int) : Option (((List Int) × Int)) :=
  if (decide (a1 < 1)) = true then
    some ([], 17)
  else
    if (decide (a1 ≥ 16777216)) = true then
      some ([], 17)
    else
      some ([(8 : Int), (0 : Int), (0 : Int), (0 : Int), (wr_u8 (wr_i64 (Int.tdiv a1 65536)) : Int), (wr_u8 (Int.tmod (wr_i64 (Int.tdiv a1 256)) 256) : Int), (wr_u8 (Int.tmod a1 256) : Int), (0 : Int)], 0)

def palingref08_Port_L1 (v3 : Int) (v4 : Int) (v5 : Int) (v6 : Int) (v7 : Int) : Option ((Int × Int × Int × Int × Int) ⊕ (Int)) :=
  if (decide (v7 < 14)) = true then
    if ((Int.tmod v3 2) != (Int.tmod v4 2)) = true then
      some (Sum.inl (wr_u64 (Int.tdiv v3 2), wr_u64 (Int.tdiv v4 2), wr_i64 (v5 + v6), wr_i64 (v6 * 2), wr_i64 (v7 + 1)))
    else
      some (Sum.inl (wr_u64 (Int.tdiv v3 2), wr_u64 (Int.tdiv v4 2), v5, wr_i64 (v6 * 2), wr_i64 (v7 + 1)))
  else
    some (Sum.inr v5)

def palingref08_Port (a1 : Int) (a2 : Int) : Option (Int) :=
  (loopM (fun s : Int × Int × Int × Int × Int => match s with | (v3, v4, v5, v6, v7) => palingref08_Port_L1 v3 v4 v5 v6 v7) (a1, a2, 0, 1, 0)).bind fun r13 => match r13 with
  | v11 =>
    some (wr_i64 (49152 + v11))

def palingref08_Put (a1 : Int) (a2 : Int) (a3 : List Int) : Option (((List Int) × Int)) :=
  if (decide (a1 < 0)) = true then
    some ([], 11)
  else
    if (decide (a2 < 0)) = true then
      some ([], 11)
    else
      if (decide (a1 ≥ 65536)) = true then
        some ([], 11)
      else
        if (decide (a2 ≥ 65536)) = true then
          some ([], 11)
        else
          if (decide ((a3.length : Int) > 1472)) = true then
            some ([], 14)
          else
            if (roomy 1 ([(wr_u8 (wr_i64 (Int.tdiv a1 256)) : Int), (wr_u8 (Int.tmod a1 256) : Int), (wr_u8 (wr_i64 (Int.tdiv a2 256)) : Int), (wr_u8 (Int.tmod a2 256) : Int), (wr_u8 (wr_i64 (Int.tdiv (wr_i64 (8 + (a3.length : Int))) 256)) : Int), (wr_u8 (Int.tmod (wr_i64 (8 + (a3.length : Int))) 256) : Int), (0 : Int), (0 : Int)] ++ a3)) = true then
              some ([(wr_u8 (wr_i64 (Int.tdiv a1 256)) : Int), (wr_u8 (Int.tmod a1 256) : Int), (wr_u8 (wr_i64 (Int.tdiv a2 256)) : Int), (wr_u8 (Int.tmod a2 256) : Int), (wr_u8 (wr_i64 (Int.tdiv (wr_i64 (8 + (a3.length : Int))) 256)) : Int), (wr_u8 (Int.tmod (wr_i64 (8 + (a3.length : Int))) 256) : Int), (0 : Int), (0 : Int)] ++ a3, 0)
            else
              none

def palingref09_Wrap (a1 : Int) (a2 : Int) (a3 : Int) (a4 : Api_Frame) : Option (((List Int) × Int)) :=
  if (a4.type_ == 33024) = true then
    some ([], 15)
  else
    (palingref04_Put a4).bind fun r6 => match r6 with
    | (l8, v9) =>
      if (v9 != 0) = true then
        some ([], v9)
      else
        (palingref09_Head a3).bind fun r11 => match r11 with
        | (l13, v14) =>
          if (v14 != 0) = true then
            some ([], v14)
          else
            if (decide (((List.length l8) : Int) > 1464)) = true then
              some ([], 14)
            else
              (palingref08_Port a4.dst a4.src).bind fun r17 =>
              if (roomy 1 (l13 ++ l8)) = true then
                (palingref08_Put r17 4789 (l13 ++ l8)).bind fun r20 => match r20 with
                | (l22, v23) =>
                  (palingref07_Put (⟨0, 0, 64, 17, a1, a2, l22⟩ : Api_Packet)).bind fun r24 => match r24 with
                  | (l26, v27) =>
                    (palingref01_Host a2).bind fun r28 =>
                    (palingref01_Host a1).bind fun r30 =>
                    (palingref04_Put (⟨r28, r30, 2048, l26⟩ : Api_Frame)).bind fun r32 => match r32 with
                    | (l34, v35) =>
                      some (l34, v35)
              else
                none

def palingref28_Mesh (a1 : Api_Net) (a2 : Int) (a3 : Int) (a4 : Api_Frame) : Option (((List Int) × Int)) :=
  (palingref15_Right a1).bind fun r5 =>
  if (!r5) = true then
    some ([], 2)
  else
    (palingref15_Place a3 (a1.domains.length : Int)).bind fun r8 =>
    if (!r8) = true then
      some ([], 2)
    else
      (palingref15_Place a2 (a1.domains.length : Int)).bind fun r11 =>
      if (!r11) = true then
        some ([], 2)
      else
        (nth a1.domains a2).bind fun x14 =>
        (palingref15_In x14.peers a3).bind fun r16 =>
        if (!r16) = true then
          some ([], 17)
        else
          (palingref28_vtep a1 a2).bind fun r19 =>
          (palingref28_vtep a1 a3).bind fun r21 =>
          (nth a1.domains a2).bind fun x23 =>
          (palingref09_Wrap r19 r21 x23.vni a4).bind fun r25 => match r25 with
          | (l27, v28) =>
            some (l27, v28)

def mac_Take_L1 (a1 : List Int) (a2 : Int) (v5 : Int) (v6 : Int) : Option ((Int × Int) ⊕ (Int)) :=
  if (decide (v6 < 6)) = true then
    (nth a1 (wr_i64 (a2 + v6))).bind fun x8 =>
    some (Sum.inl (bits_or .u64 (wr_u64 (v5 * 2 ^ 8)) (wr_u64 x8), wr_i64 (v6 + 1)))
  else
    some (Sum.inr v5)

def mac_Take (a1 : List Int) (a2 : Int) : Option (Int × Bool) :=
  if (decide (a2 < 0)) = true then
    some (0, false)
  else
    if (decide (a2 > (wr_i64 ((a1.length : Int) - 6)))) = true then
      some (0, false)
    else
      (loopM (fun s : Int × Int => match s with | (v5, v6) => mac_Take_L1 a1 a2 v5 v6) (0, 0)).bind fun r13 => match r13 with
      | v11 =>
        some (v11, true)

def ether_Take (a1 : List Int) : Option (((List Int) × Nat × Int × Int × Int × Int)) :=
  if (decide ((a1.length : Int) < 14)) = true then
    some ([], 0, 0, 0, 0, 10)
  else
    if (decide ((a1.length : Int) > 1518)) = true then
      some ([], 0, 0, 0, 0, 14)
    else
      (mac_Take a1 0).bind fun r4 =>
      (mac_Take a1 6).bind fun r6 =>
      if (mkok 1 (wr_i64 ((a1.length : Int) - 14)) (wr_i64 ((a1.length : Int) - 14))) = true then
        if (slok (List.length a1) 14 ((List.length a1) : Int)) = true then
          (nth a1 12).bind fun x10 =>
          (nth a1 13).bind fun x12 =>
          some (List.take 0 (List.replicate (Int.toNat (wr_i64 ((a1.length : Int) - 14))) (0 : Int)) ++ (List.take (min (List.length (List.drop (Int.toNat 14) (List.take (Int.toNat ((List.length a1) : Int)) a1))) ((List.length (List.replicate (Int.toNat (wr_i64 ((a1.length : Int) - 14))) (0 : Int))) - 0)) (List.drop (Int.toNat 14) (List.take (Int.toNat ((List.length a1) : Int)) a1)) ++ List.drop (0 + (min (List.length (List.drop (Int.toNat 14) (List.take (Int.toNat ((List.length a1) : Int)) a1))) ((List.length (List.replicate (Int.toNat (wr_i64 ((a1.length : Int) - 14))) (0 : Int))) - 0))) (List.replicate (Int.toNat (wr_i64 ((a1.length : Int) - 14))) (0 : Int))), (Int.toNat (wr_i64 ((a1.length : Int) - 14))), r4.1, r6.1, bits_or .i64 (wr_i64 ((wr_i64 x10) * 2 ^ 8)) (wr_i64 x12), 0)
        else
          none
      else
        none

def vxlan_reader_fail_own (a1 : Int) (a2 : Int) (a3 : Int) (a4 : Int) (a5 : Int) (a6 : Int) (a7 : List Int) (a8 : Int) (a9 : Int) (a10 : Bool) (a11 : Int) : Option ((Int)) :=
  if (a10) = true then
    if (a9 == 0) = true then
      some a11
    else
      some a9
  else
    some a9

def vxlan_reader_packet_own (a1 : Int) (a2 : Int) (a3 : Int) (a4 : Int) (a5 : Int) (a6 : Int) (a7 : List Int) (a8 : Int) (a9 : Int) (a10 : List Int) : Option (((List Int) × Int × Int × Int × Int × Int × Int × Int) ⊕ (Int)) :=
  (ether_Take a10).bind fun r11 => match r11 with
  | (l13, n14, v15, v16, v17, v18) =>
    (vxlan_reader_fail_own a1 a2 a3 a4 a5 a6 a7 a8 a9 true v18).bind fun r19 => match r19 with
    | v21 =>
      (vxlan_reader_fail_own a1 a2 a3 a4 a5 a6 a7 a8 v21 (v17 != 2048) 11).bind fun r22 => match r22 with
      | v24 =>
        if (v24 == 0) = true then
          (ipv4_Take l13).bind fun r26 => match r26 with
          | (l28, v29, v30, v31, v32, v33, v34, v35) =>
            (vxlan_reader_fail_own v29 v30 v31 v32 v33 v34 l28 a8 v24 true v35).bind fun r36 => match r36 with
            | v38 =>
              (vxlan_reader_fail_own v29 v30 v31 v32 v33 v34 l28 a8 v38 (v32 != 17) 11).bind fun r39 => match r39 with
              | v41 =>
                some (Sum.inl (l28, v29, v30, v31, v32, v33, v34, v41))
        else
          some (Sum.inr v24)

def udp_Take_L1 (a1 : List Int) (v3 : Int) (v4 : Int) (v5 : Int) (v6 : Int) (v7 : Int) : Option ((Int × Int × Int × Int × Int) ⊕ ((Int × Int × Int × Int))) :=
  if (decide (v4 < 4)) = true then
    (nth a1 (wr_i64 (2 * v4))).bind fun x9 =>
    (nth a1 (wr_i64 ((wr_i64 (2 * v4)) + 1))).bind fun x11 =>
    if (v4 == 0) = true then
      some (Sum.inl (bits_or .i64 (wr_i64 ((wr_i64 x9) * 2 ^ 8)) (wr_i64 x11), wr_i64 (v4 + 1), v5, v6, v7))
    else
      if (v4 == 1) = true then
        some (Sum.inl (v3, wr_i64 (v4 + 1), bits_or .i64 (wr_i64 ((wr_i64 x9) * 2 ^ 8)) (wr_i64 x11), v6, v7))
      else
        if (v4 == 2) = true then
          some (Sum.inl (v3, wr_i64 (v4 + 1), v5, bits_or .i64 (wr_i64 ((wr_i64 x9) * 2 ^ 8)) (wr_i64 x11), v7))
        else
          if (v4 == 3) = true then
            some (Sum.inl (v3, wr_i64 (v4 + 1), v5, v6, bits_or .i64 (wr_i64 ((wr_i64 x9) * 2 ^ 8)) (wr_i64 x11)))
          else
            none
  else
    some (Sum.inr (v3, v5, v6, v7))

def udp_Take (a1 : List Int) : Option (((List Int) × Int × Int × Int)) :=
  if (decide ((a1.length : Int) < 8)) = true then
    some ([], 0, 0, 10)
  else
    (loopM (fun s : Int × Int × Int × Int × Int => match s with | (v3, v4, v5, v6, v7) => udp_Take_L1 a1 v3 v4 v5 v6 v7) (0, 0, 0, 0, 0)).bind fun r46 => match r46 with
    | (v41, v42, v43, v44) =>
      if (decide (v43 < 8)) = true then
        some ([], 0, 0, 11)
      else
        if (decide (v43 > (a1.length : Int))) = true then
          some ([], 0, 0, 10)
        else
          if (v44 != 0) = true then
            some ([], 0, 0, 12)
          else
            if (slok (List.length a1) 8 v43) = true then
              (slices_Clone_byte (List.drop (Int.toNat 8) (List.take (Int.toNat v43) a1))).bind fun r51 => match r51 with
              | l53 =>
                some (l53, v41, v42, 0)
            else
              none

def vxlan_Vni (a1 : List Int) : Option (((List Int) × Int × Int)) :=
  if (decide ((a1.length : Int) < 8)) = true then
    some ([], 0, 10)
  else
    (nth a1 4).bind fun x3 =>
    (nth a1 5).bind fun x5 =>
    (nth a1 6).bind fun x7 =>
    (vxlan_Head (bits_or .i64 (bits_or .i64 (wr_i64 ((wr_i64 x3) * 2 ^ 16)) (wr_i64 ((wr_i64 x5) * 2 ^ 8))) (wr_i64 x7))).bind fun r9 => match r9 with
    | (l11, v12) =>
      if (v12 != 0) = true then
        some ([], 0, 11)
      else
        if (slok (List.length a1) 0 8) = true then
          if (!(seqB (bstr l11) (bstr (List.drop (Int.toNat 0) (List.take (Int.toNat 8) a1))))) = true then
            some ([], 0, 11)
          else
            if (slok (List.length a1) 8 ((List.length a1) : Int)) = true then
              if (roomy 1 (List.drop (Int.toNat 8) (List.take (Int.toNat ((List.length a1) : Int)) a1))) = true then
                some (List.drop (Int.toNat 8) (List.take (Int.toNat ((List.length a1) : Int)) a1), bits_or .i64 (bits_or .i64 (wr_i64 ((wr_i64 x3) * 2 ^ 16)) (wr_i64 ((wr_i64 x5) * 2 ^ 8))) (wr_i64 x7), 0)
              else
                none
            else
              none
        else
          none

def vxlan_reader_frame_own_J1 (a1 : Int) (a2 : Int) (a3 : Int) (a4 : Int) (a5 : Int) (a6 : Int) (a7 : List Int) (a8 : Int) (l13 : List Int) (v16 : Int) (v22 : Int) : Option (((List Int) × Int × Int × Int)) :=
  if (v22 == 0) = true then
    (vxlan_Vni l13).bind fun r24 => match r24 with
    | (l26, v27, v28) =>
      (vxlan_reader_fail_own a1 a2 a3 a4 a5 a6 a7 v27 v22 true v28).bind fun r29 => match r29 with
      | v31 =>
        some (l26, v27, v31, v28)
  else
    some (l13, a8, v22, v16)

def vxlan_reader_frame_own (a1 : Int) (a2 : Int) (a3 : Int) (a4 : Int) (a5 : Int) (a6 : Int) (a7 : List Int) (a8 : Int) (a9 : Int) : Option (((List Int) × Int × Int × Nat × Int × Int × Int)) :=
  if (a9 != 0) = true then
    some ([], a8, a9, 0, 0, 0, 0)
  else
    (udp_Take a7).bind fun r11 => match r11 with
    | (l13, v14, v15, v16) =>
      (vxlan_reader_fail_own a1 a2 a3 a4 a5 a6 a7 a8 a9 true v16).bind fun r17 => match r17 with
      | v19 =>
        (vxlan_reader_fail_own a1 a2 a3 a4 a5 a6 a7 a8 v19 (v15 != 4789) 11).bind fun r20 => match r20 with
        | v22 =>
          (vxlan_reader_frame_own_J1 a1 a2 a3 a4 a5 a6 a7 a8 l13 v16 v22).bind fun r50 => match r50 with
          | (l45, v46, v47, v48) =>
            if (v47 != 0) = true then
              some ([], v46, v47, 0, 0, 0, 0)
            else
              (ether_Take l45).bind fun r52 => match r52 with
              | (l54, n55, v56, v57, v58, v59) =>
                (vxlan_reader_fail_own a1 a2 a3 a4 a5 a6 a7 v46 v47 true v59).bind fun r60 => match r60 with
                | v62 =>
                  (tag_Is (⟨v56, v57, v58, l54⟩ : Api_Frame)).bind fun r63 =>
                  (vxlan_reader_fail_own a1 a2 a3 a4 a5 a6 a7 v46 v62 r63 15).bind fun r65 => match r65 with
                  | v67 =>
                    some (l54, v46, v67, n55, v56, v57, v58)

def vxlan_Unwrap_J1 (a1 : List Int) : Option (((List Int) × Int × Int × Int × Int × Int × Int × Int)) :=
  (vxlan_reader_packet_own 0 0 0 0 0 0 [] 0 0 a1).bind fun r2 => match r2 with
  | Sum.inl (l4, v5, v6, v7, v8, v9, v10, v11) =>
    some (l4, v5, v6, v7, v8, v9, v10, v11)
  | Sum.inr v12 =>
    some ([], 0, 0, 0, 0, 0, 0, v12)

def vxlan_Unwrap (a1 : List Int) : Option (((List Int) × Nat × Int × Int × Int × Int × Int × Int × Int)) :=
  (vxlan_Unwrap_J1 a1).bind fun r70 => match r70 with
  | (l61, v62, v63, v64, v65, v66, v67, v68) =>
    (vxlan_reader_frame_own v62 v63 v64 v65 v66 v67 l61 0 v68).bind fun r71 => match r71 with
    | (l73, v74, v75, n76, v77, v78, v79) =>
      if (v75 != 0) = true then
        some ([], 0, 0, 0, 0, 0, 0, 0, v75)
      else
        some (l73, n76, v66, v67, v74, v77, v78, v79, 0)

def leave_whole_ends_1 (a1 : Api_Device) (a2 : Int) : Option (Bool) :=
  some (a1.vtep == a2)

def slices_IndexFunc_Device_whole_ends_1_L1 (a1 : List Api_Device) (a2 : Int) (v3 : Int) : Option ((Int) ⊕ (Int ⊕ Unit)) :=
  if (decide (v3 < (a1.length : Int))) = true then
    (nth a1 v3).bind fun x5 =>
    (leave_whole_ends_1 x5 a2).bind fun r7 =>
    if (r7) = true then
      some (Sum.inr (Sum.inl v3))
    else
      some (Sum.inl (wr_i64 (v3 + 1)))
  else
    some (Sum.inr (Sum.inr ()))

def slices_IndexFunc_Device_whole_ends_1 (a1 : List Api_Device) (a2 : Int) : Option (Int) :=
  (loopM (slices_IndexFunc_Device_whole_ends_1_L1 a1 a2) 0).bind fun r13 => match r13 with
  | Sum.inl v11 =>
    some v11
  | Sum.inr () =>
    some (-1)

def leave_whole_ends_2 (a1 : Api_Domain) (a2 : Int) (a3 : Int) : Option (Bool) :=
  if (a1.dev == a2) = true then
    some (a1.vni == a3)
  else
    some false

def slices_IndexFunc_Domain_whole_ends_2_L1 (a1 : List Api_Domain) (a2 : Int) (a3 : Int) (v4 : Int) : Option ((Int) ⊕ (Int ⊕ Unit)) :=
  if (decide (v4 < (a1.length : Int))) = true then
    (nth a1 v4).bind fun x6 =>
    (leave_whole_ends_2 x6 a2 a3).bind fun r8 =>
    if (r8) = true then
      some (Sum.inr (Sum.inl v4))
    else
      some (Sum.inl (wr_i64 (v4 + 1)))
  else
    some (Sum.inr (Sum.inr ()))

def slices_IndexFunc_Domain_whole_ends_2 (a1 : List Api_Domain) (a2 : Int) (a3 : Int) : Option (Int) :=
  (loopM (slices_IndexFunc_Domain_whole_ends_2_L1 a1 a2 a3) 0).bind fun r14 => match r14 with
  | Sum.inl v12 =>
    some v12
  | Sum.inr () =>
    some (-1)

def leave_whole_ends_3 (a1 : Int) (a2 : Leave_whole) (a3 : Int) : Option (Bool) :=
  (leave_whole_vtep a2 a1).bind fun r4 =>
  some (r4 == a3)

def slices_IndexFunc_int_whole_ends_3_L1 (a1 : List Int) (a2 : Leave_whole) (a3 : Int) (v4 : Int) : Option ((Int) ⊕ (Int ⊕ Unit)) :=
  if (decide (v4 < (a1.length : Int))) = true then
    (nth a1 v4).bind fun x6 =>
    (leave_whole_ends_3 x6 a2 a3).bind fun r8 =>
    if (r8) = true then
      some (Sum.inr (Sum.inl v4))
    else
      some (Sum.inl (wr_i64 (v4 + 1)))
  else
    some (Sum.inr (Sum.inr ()))

def slices_IndexFunc_int_whole_ends_3 (a1 : List Int) (a2 : Leave_whole) (a3 : Int) : Option (Int) :=
  (loopM (slices_IndexFunc_int_whole_ends_3_L1 a1 a2 a3) 0).bind fun r14 => match r14 with
  | Sum.inl v12 =>
    some v12
  | Sum.inr () =>
    some (-1)

def leave_whole_ends (a1 : Leave_whole) (a2 : Int) (a3 : Int) (a4 : Int) : Option (Int × Int) :=
  (slices_IndexFunc_Device_whole_ends_1 a1.net.devices a3).bind fun r5 =>
  (slices_IndexFunc_Domain_whole_ends_2 a1.net.domains r5 a4).bind fun r7 =>
  if (decide (r5 < 0)) = true then
    some ((-1), (-1))
  else
    if (decide (r7 < 0)) = true then
      some ((-1), (-1))
    else
      (nth a1.net.domains r7).bind fun x11 =>
      (slices_IndexFunc_int_whole_ends_3 x11.peers a1 a2).bind fun r13 =>
      if (decide (r13 < 0)) = true then
        some ((-1), (-1))
      else
        (nth x11.peers r13).bind fun x16 =>
        some (x16, r7)

def mac_Group (a1 : Int) : Option (Bool) :=
  some ((bits_and .u64 a1 1099511627776) != 0)

def leave_Come (a1 : Api_Net) (a2 : List Int) : Option (((List Int) × Nat × Int × Int × Int × Int × Int × Int)) :=
  (names_Right a1).bind fun r3 =>
  if (!r3) = true then
    some ([], 0, 0, 0, 0, 0, 0, 2)
  else
    (vxlan_Unwrap a2).bind fun r6 => match r6 with
    | (l8, n9, v10, v11, v12, v13, v14, v15, v16) =>
      if (v16 != 0) = true then
        some ([], 0, 0, 0, 0, 0, 0, v16)
      else
        (leave_whole_ends (⟨a1⟩ : Leave_whole) v10 v11 v12).bind fun r18 =>
        if (decide (r18.1 < 0)) = true then
          some ([], 0, 0, 0, 0, 0, 0, 17)
        else
          (mac_Group v14).bind fun r21 =>
          if (r21) = true then
            some ([], 0, 0, 0, 0, 0, 0, 11)
          else
            some (l8, n9, r18.1, r18.2, v13, v14, v15, 0)

def palingref01_number_L1 (a1 : List Int) (v2 : Int) (v3 : Int) : Option ((Int × Int) ⊕ (Int)) :=
  if (decide (v3 < (a1.length : Int))) = true then
    (nth a1 v3).bind fun x5 =>
    some (Sum.inl (wr_u64 ((wr_u64 (v2 * 256)) + (wr_u64 x5)), wr_i64 (v3 + 1)))
  else
    some (Sum.inr v2)

def palingref01_number (a1 : List Int) : Option (Int) :=
  (loopM (fun s : Int × Int => match s with | (v2, v3) => palingref01_number_L1 a1 v2 v3) (0, 0)).bind fun r10 => match r10 with
  | v8 =>
    some v8

def palingref01_Take (a1 : List Int) (a2 : Int) : Option (Int × Bool) :=
  if (decide (a2 < 0)) = true then
    some (0, false)
  else
    if (decide (a2 > (a1.length : Int))) = true then
      some (0, false)
    else
      if (decide ((wr_i64 ((a1.length : Int) - a2)) < 6)) = true then
        some (0, false)
      else
        if (slok (List.length a1) a2 (wr_i64 (a2 + 6))) = true then
          (palingref01_number (List.drop (Int.toNat a2) (List.take (Int.toNat (wr_i64 (a2 + 6))) a1))).bind fun r7 =>
          some (r7, true)
        else
          none

def palingref04_Take (a1 : List Int) : Option (((List Int) × Int × Int × Int × Int)) :=
  if (decide ((a1.length : Int) < 14)) = true then
    some ([], 0, 0, 0, 10)
  else
    if (decide ((a1.length : Int) > 1518)) = true then
      some ([], 0, 0, 0, 14)
    else
      (palingref01_Take a1 0).bind fun r4 =>
      (palingref01_Take a1 6).bind fun r6 =>
      (nth a1 12).bind fun x8 =>
      (nth a1 13).bind fun x10 =>
      if (slok (List.length a1) 14 ((List.length a1) : Int)) = true then
        if (roomy 1 (List.drop (Int.toNat 14) (List.take (Int.toNat ((List.length a1) : Int)) a1))) = true then
          some (List.drop (Int.toNat 14) (List.take (Int.toNat ((List.length a1) : Int)) a1), r4.1, r6.1, wr_i64 ((wr_i64 ((wr_i64 x8) * 256)) + (wr_i64 x10)), 0)
        else
          none
      else
        none

def palingref08_Take (a1 : List Int) : Option (((List Int) × Int × Int × Int)) :=
  if (decide ((a1.length : Int) < 8)) = true then
    some ([], 0, 0, 10)
  else
    (nth a1 4).bind fun x3 =>
    (nth a1 5).bind fun x5 =>
    if (decide ((wr_i64 ((wr_i64 ((wr_i64 x3) * 256)) + (wr_i64 x5))) < 8)) = true then
      some ([], 0, 0, 11)
    else
      if (decide ((wr_i64 ((wr_i64 ((wr_i64 x3) * 256)) + (wr_i64 x5))) > (a1.length : Int))) = true then
        some ([], 0, 0, 10)
      else
        (nth a1 6).bind fun x9 =>
        if (x9 != 0) = true then
          some ([], 0, 0, 12)
        else
          (nth a1 7).bind fun x12 =>
          if (x12 != 0) = true then
            some ([], 0, 0, 12)
          else
            (nth a1 0).bind fun x15 =>
            (nth a1 1).bind fun x17 =>
            (nth a1 2).bind fun x19 =>
            (nth a1 3).bind fun x21 =>
            if (slok (List.length a1) 8 (wr_i64 ((wr_i64 ((wr_i64 x3) * 256)) + (wr_i64 x5)))) = true then
              if (roomy 1 (List.drop (Int.toNat 8) (List.take (Int.toNat (wr_i64 ((wr_i64 ((wr_i64 x3) * 256)) + (wr_i64 x5)))) a1))) = true then
                some (List.drop (Int.toNat 8) (List.take (Int.toNat (wr_i64 ((wr_i64 ((wr_i64 x3) * 256)) + (wr_i64 x5)))) a1), wr_i64 ((wr_i64 ((wr_i64 x15) * 256)) + (wr_i64 x17)), wr_i64 ((wr_i64 ((wr_i64 x19) * 256)) + (wr_i64 x21)), 0)
              else
                none
            else
              none

def palingref09_Vni (a1 : List Int) : Option (((List Int) × Int × Int)) :=
  if (decide ((a1.length : Int) < 8)) = true then
    some ([], 0, 10)
  else
    (nth a1 4).bind fun x3 =>
    (nth a1 5).bind fun x5 =>
    (nth a1 6).bind fun x7 =>
    (nth a1 0).bind fun x9 =>
    if (x9 != 8) = true then
      some ([], 0, 11)
    else
      (nth a1 1).bind fun x12 =>
      if (x12 != 0) = true then
        some ([], 0, 11)
      else
        (nth a1 2).bind fun x15 =>
        if (x15 != 0) = true then
          some ([], 0, 11)
        else
          (nth a1 3).bind fun x18 =>
          if (x18 != 0) = true then
            some ([], 0, 11)
          else
            (nth a1 7).bind fun x21 =>
            if (x21 != 0) = true then
              some ([], 0, 11)
            else
              if ((wr_i64 ((wr_i64 ((wr_i64 ((wr_i64 x3) * 65536)) + (wr_i64 ((wr_i64 x5) * 256)))) + (wr_i64 x7))) == 0) = true then
                some ([], 0, 11)
              else
                if (slok (List.length a1) 8 ((List.length a1) : Int)) = true then
                  if (roomy 1 (List.drop (Int.toNat 8) (List.take (Int.toNat ((List.length a1) : Int)) a1))) = true then
                    some (List.drop (Int.toNat 8) (List.take (Int.toNat ((List.length a1) : Int)) a1), wr_i64 ((wr_i64 ((wr_i64 ((wr_i64 x3) * 65536)) + (wr_i64 ((wr_i64 x5) * 256)))) + (wr_i64 x7)), 0)
                  else
                    none
                else
                  none

def palingref09_Unwrap_J1 (l4 : List Int) (v5 : Int) (v6 : Int) (v7 : Int) (v8 : Int) : Option (Int) :=
  if (v8 == 0) = true then
    if (v7 != 2048) = true then
      some 11
    else
      some v8
  else
    some v8

def palingref09_Unwrap_J2 (l18 : List Int) (v19 : Int) (v20 : Int) (v21 : Int) (v22 : Int) (v23 : Int) (v24 : Int) (v25 : Int) : Option (Int) :=
  if (v25 == 0) = true then
    if (v22 != 17) = true then
      some 11
    else
      some v25
  else
    some v25

def palingref09_Unwrap_J3 (l18 : List Int) (v19 : Int) (v20 : Int) (v21 : Int) (v22 : Int) (v23 : Int) (v24 : Int) (l35 : List Int) (v37 : Int) (v38 : Int) : Option (Int) :=
  if (v38 == 0) = true then
    if (v37 != 4789) = true then
      some 11
    else
      some v38
  else
    some v38

def palingref09_Unwrap_J4 (l18 : List Int) (v19 : Int) (v20 : Int) (v21 : Int) (v22 : Int) (v23 : Int) (v24 : Int) (v49 : Int) (l54 : List Int) (v55 : Int) (v56 : Int) (v57 : Int) (v58 : Int) : Option (Int) :=
  if (v58 == 0) = true then
    if (v57 == 33024) = true then
      some 15
    else
      some v58
  else
    some v58

def palingref09_Unwrap (a1 : List Int) : Option (((List Int) × Int × Int × Int × Int × Int × Int × Int)) :=
  (palingref04_Take a1).bind fun r2 => match r2 with
  | (l4, v5, v6, v7, v8) =>
    (palingref09_Unwrap_J1 l4 v5 v6 v7 v8).bind fun r14 => match r14 with
    | v12 =>
      if (v12 != 0) = true then
        some ([], 0, 0, 0, 0, 0, 0, v12)
      else
        (palingref07_Take l4).bind fun r16 => match r16 with
        | (l18, v19, v20, v21, v22, v23, v24, v25) =>
          (palingref09_Unwrap_J2 l18 v19 v20 v21 v22 v23 v24 v25).bind fun r31 => match r31 with
          | v29 =>
            if (v29 != 0) = true then
              some ([], 0, 0, 0, 0, 0, 0, v29)
            else
              (palingref08_Take l18).bind fun r33 => match r33 with
              | (l35, v36, v37, v38) =>
                (palingref09_Unwrap_J3 l18 v19 v20 v21 v22 v23 v24 l35 v37 v38).bind fun r44 => match r44 with
                | v42 =>
                  if (v42 != 0) = true then
                    some ([], 0, 0, 0, 0, 0, 0, v42)
                  else
                    (palingref09_Vni l35).bind fun r46 => match r46 with
                    | (l48, v49, v50) =>
                      if (v50 != 0) = true then
                        some ([], 0, 0, 0, 0, 0, 0, v50)
                      else
                        (palingref04_Take l48).bind fun r52 => match r52 with
                        | (l54, v55, v56, v57, v58) =>
                          (palingref09_Unwrap_J4 l18 v19 v20 v21 v22 v23 v24 v49 l54 v55 v56 v57 v58).bind fun r64 => match r64 with
                          | v62 =>
                            if (v62 != 0) = true then
                              some ([], 0, 0, 0, 0, 0, 0, v62)
                            else
                              some (l54, v23, v24, v49, v55, v56, v57, 0)

def palingref28_ends_L3 (a1 : Api_Net) (a2 : Int) (a3 : Int) (a4 : Int) (v5 : Int) (v10 : Int) (v18 : Int) : Option ((Int) ⊕ (Int ⊕ Unit)) :=
  (nth a1.domains v10).bind fun x19 =>
  if (decide (v18 < (x19.peers.length : Int))) = true then
    (nth a1.domains v10).bind fun x22 =>
    (nth x22.peers v18).bind fun x24 =>
    (palingref28_vtep a1 x24).bind fun r26 =>
    if (r26 == a2) = true then
      (nth a1.domains v10).bind fun x29 =>
      (nth x29.peers v18).bind fun x31 =>
      some (Sum.inr (Sum.inl x31))
    else
      some (Sum.inl (wr_i64 (v18 + 1)))
  else
    some (Sum.inr (Sum.inr ()))

def palingref28_ends_L2 (a1 : Api_Net) (a2 : Int) (a3 : Int) (a4 : Int) (v5 : Int) (v10 : Int) : Option ((Int) ⊕ ((Int × Int) ⊕ Unit)) :=
  if (decide (v10 < (a1.domains.length : Int))) = true then
    (nth a1.domains v10).bind fun x12 =>
    if (x12.dev != v5) = true then
      some (Sum.inl (wr_i64 (v10 + 1)))
    else
      (nth a1.domains v10).bind fun x15 =>
      if (x15.vni != a4) = true then
        some (Sum.inl (wr_i64 (v10 + 1)))
      else
        (loopM (palingref28_ends_L3 a1 a2 a3 a4 v5 v10) 0).bind fun r36 => match r36 with
        | Sum.inl v34 =>
          some (Sum.inr (Sum.inl (v34, v10)))
        | Sum.inr () =>
          some (Sum.inr (Sum.inl ((-1), (-1))))
  else
    some (Sum.inr (Sum.inr ()))

def palingref28_ends_L1 (a1 : Api_Net) (a2 : Int) (a3 : Int) (a4 : Int) (v5 : Int) : Option ((Int) ⊕ ((Int × Int) ⊕ Unit)) :=
  if (decide (v5 < (a1.devices.length : Int))) = true then
    (nth a1.devices v5).bind fun x7 =>
    if (x7.vtep != a3) = true then
      some (Sum.inl (wr_i64 (v5 + 1)))
    else
      (loopM (palingref28_ends_L2 a1 a2 a3 a4 v5) 0).bind fun r42 => match r42 with
      | Sum.inl (v39, v40) =>
        some (Sum.inr (Sum.inl (v39, v40)))
      | Sum.inr () =>
        some (Sum.inr (Sum.inl ((-1), (-1))))
  else
    some (Sum.inr (Sum.inr ()))

def palingref28_ends (a1 : Api_Net) (a2 : Int) (a3 : Int) (a4 : Int) : Option (Int × Int) :=
  (loopM (palingref28_ends_L1 a1 a2 a3 a4) 0).bind fun r48 => match r48 with
  | Sum.inl (v45, v46) =>
    some (v45, v46)
  | Sum.inr () =>
    some ((-1), (-1))

def palingref01_Group (a1 : Int) : Option (Bool) :=
  (palingref01_Bytes a1).bind fun r2 => match r2 with
  | l4 =>
    if (lin l4 0) = true then
      (l4[(Int.toNat 0)]?).bind fun x6 =>
      some ((Int.tmod x6 2) == 1)
    else
      none

def palingref28_Come (a1 : Api_Net) (a2 : List Int) : Option (((List Int) × Int × Int × Int × Int × Int × Int)) :=
  (palingref15_Right a1).bind fun r3 =>
  if (!r3) = true then
    some ([], 0, 0, 0, 0, 0, 2)
  else
    (palingref09_Unwrap a2).bind fun r6 => match r6 with
    | (l8, v9, v10, v11, v12, v13, v14, v15) =>
      if (v15 != 0) = true then
        some ([], 0, 0, 0, 0, 0, v15)
      else
        (palingref28_ends a1 v9 v10 v11).bind fun r17 =>
        if (decide (r17.1 < 0)) = true then
          some ([], 0, 0, 0, 0, 0, 17)
        else
          (palingref01_Group v13).bind fun r20 =>
          if (r20) = true then
            some ([], 0, 0, 0, 0, 0, 11)
          else
            some (l8, r17.1, r17.2, v12, v13, v14, 0)

def palinglaw28_LeaveMeshes (a1 : Api_Net) (a2 : Int) (a3 : Int) (a4 : Api_Frame) (a5 : List Int) : Option (Bool) :=
  (palinglaw15_Great a1).bind fun r6 =>
  if (r6) = true then
    (palinglaw28_works).bind fun r9 =>
    some r9
  else
    if (decide ((a4.body.length : Int) > 4000)) = true then
      (palinglaw28_works).bind fun r12 =>
      some r12
    else
      if (decide ((a5.length : Int) > 4000)) = true then
        (palinglaw28_works).bind fun r15 =>
        some r15
      else
        (leave_Mesh a1 a2 a3 a4).bind fun r17 => match r17 with
        | (l19, v20) =>
          (palingref28_Mesh a1 a2 a3 a4).bind fun r21 => match r21 with
          | (l23, v24) =>
            (leave_Come a1 a5).bind fun r25 => match r25 with
            | (l27, n28, v29, v30, v31, v32, v33, v34) =>
              (palingref28_Come a1 a5).bind fun r35 => match r35 with
              | (l37, v38, v39, v40, v41, v42, v43) =>
                if (seqB (bstr l19) (bstr l23)) = true then
                  if (v20 == v24) = true then
                    if (v29 == v38) = true then
                      if (v30 == v39) = true then
                        (palingref04_Same (⟨v31, v32, v33, l27⟩ : Api_Frame) (⟨v40, v41, v42, l37⟩ : Api_Frame)).bind fun r48 =>
                        if (r48) = true then
                          if (v34 == v43) = true then
                            (palinglaw28_works).bind fun r52 =>
                            some r52
                          else
                            some false
                        else
                          some false
                      else
                        some false
                    else
                      some false
                  else
                    some false
                else
                  some false

def palinglaw09_works : Option (Bool) :=
  (vxlan_Wrap 1 2 5010 (⟨281474976710655, 7, 0, []⟩ : Api_Frame)).bind fun r1 => match r1 with
  | (l3, v4) =>
    (vxlan_Unwrap []).bind fun r5 => match r5 with
    | (l7, n8, v9, v10, v11, v12, v13, v14, v15) =>
      if (v4 == 0) = true then
        if (((List.length l3) : Int) == 64) = true then
          if (slok (List.length l3) 42 50) = true then
            if (seqB (bstr (List.drop (Int.toNat 42) (List.take (Int.toNat 50) l3))) (⟨#[8, 0, 0, 0, 0, 19, 146, 0]⟩ : ByteArray)) = true then
              some (v15 == 10)
            else
              some false
          else
            none
        else
          some false
      else
        some false

def palinglaw09_VxlanHeads (a1 : Int) (a2 : List Int) : Option (Bool) :=
  if (decide ((a2.length : Int) > 4000)) = true then
    (palinglaw09_works).bind fun r4 =>
    some r4
  else
    (vxlan_Head a1).bind fun r6 => match r6 with
    | (l8, v9) =>
      (palingref09_Head a1).bind fun r10 => match r10 with
      | (l12, v13) =>
        (vxlan_Vni a2).bind fun r14 => match r14 with
        | (l16, v17, v18) =>
          (palingref09_Vni a2).bind fun r19 => match r19 with
          | (l21, v22, v23) =>
            if (seqB (bstr l8) (bstr l12)) = true then
              if (v9 == v13) = true then
                if (v17 == v22) = true then
                  if (seqB (bstr l16) (bstr l21)) = true then
                    if (v18 == v23) = true then
                      (palinglaw09_works).bind fun r29 =>
                      some r29
                    else
                      some false
                  else
                    some false
                else
                  some false
              else
                some false
            else
              some false

def palinglaw09_VxlanWraps (a1 : Int) (a2 : Int) (a3 : Int) (a4 : Api_Frame) : Option (Bool) :=
  if (decide ((a4.body.length : Int) > 4000)) = true then
    (palinglaw09_works).bind fun r6 =>
    some r6
  else
    (vxlan_Wrap a1 a2 a3 a4).bind fun r8 => match r8 with
    | (l10, v11) =>
      (palingref09_Wrap a1 a2 a3 a4).bind fun r12 => match r12 with
      | (l14, v15) =>
        if (seqB (bstr l10) (bstr l14)) = true then
          if (v11 == v15) = true then
            (palinglaw09_works).bind fun r18 =>
            some r18
          else
            some false
        else
          some false

def palinglaw09_VxlanUnwraps (a1 : List Int) : Option (Bool) :=
  if (decide ((a1.length : Int) > 4000)) = true then
    (palinglaw09_works).bind fun r3 =>
    some r3
  else
    (vxlan_Unwrap a1).bind fun r5 => match r5 with
    | (l7, n8, v9, v10, v11, v12, v13, v14, v15) =>
      (palingref09_Unwrap a1).bind fun r16 => match r16 with
      | (l18, v19, v20, v21, v22, v23, v24, v25) =>
        if (v9 == v19) = true then
          if (v10 == v20) = true then
            if (v11 == v21) = true then
              (palingref04_Same (⟨v12, v13, v14, l7⟩ : Api_Frame) (⟨v22, v23, v24, l18⟩ : Api_Frame)).bind fun r29 =>
              if (r29) = true then
                if (v15 == v25) = true then
                  (palinglaw09_works).bind fun r33 =>
                  some r33
                else
                  some false
              else
                some false
            else
              some false
          else
            some false
        else
          some false

def mac_IsHost (a1 : Int) : Option (Int × Bool) :=
  if ((Int.fdiv (bits_and .u64 a1 281474976710655) (2 ^ 32)) != 512) = true then
    some (0, false)
  else
    some (wr_u32 (bits_and .u64 a1 281474976710655), true)

def palinglaw09_VxlanOuter (a1 : Int) (a2 : Int) (a3 : Int) (a4 : Api_Frame) (a5 : Int) (a6 : Int) : Option (Bool) :=
  (palinglaw09_works).bind fun r7 =>
  if (!r7) = true then
    some false
  else
    if (decide ((a4.body.length : Int) > 1400)) = true then
      some true
    else
      (vxlan_Wrap a1 a2 a3 a4).bind fun r11 => match r11 with
      | (l13, v14) =>
        if (v14 != 0) = true then
          some (v14 != 0)
        else
          if (decide (((List.length l13) : Int) < 64)) = true then
            some (v14 != 0)
          else
            (ether_Take l13).bind fun r17 => match r17 with
            | (l19, n20, v21, v22, v23, v24) =>
              (mac_IsHost v21).bind fun r25 =>
              (mac_IsHost v22).bind fun r27 =>
              if (lin l13 (wr_i64 (14 + (Int.tmod (wr_i64 a5) 20)))) = true then
                (l13[(Int.toNat (wr_i64 (14 + (Int.tmod (wr_i64 a5) 20))))]?).bind fun x30 =>
                if (decide (0 ≤ (Int.tmod a6 8))) = true then
                  (l13[(Int.toNat (wr_i64 (14 + (Int.tmod (wr_i64 a5) 20))))]?).bind fun x33 =>
                  (vxlan_Unwrap (List.set l13 (Int.toNat (wr_i64 (14 + (Int.tmod (wr_i64 a5) 20)))) (bits_xor .u8 x30 (wr_u8 (1 * 2 ^ (min (Int.toNat (Int.tmod a6 8)) 8))) : Int))).bind fun r35 => match r35 with
                  | (l37, n38, v39, v40, v41, v42, v43, v44, v45) =>
                    if (v24 == 0) = true then
                      if (r25.2) = true then
                        if (r27.2) = true then
                          if (r25.1 == a2) = true then
                            if (r27.1 == a1) = true then
                              if (v23 == 2048) = true then
                                some (v45 != 0)
                              else
                                some false
                            else
                              some false
                          else
                            some false
                        else
                          some false
                      else
                        some false
                    else
                      some false
                else
                  none
              else
                none

def palinglaw30_RouteLongest_L1 (a1 : Api_Net) (a2 : Int) (a3 : Int) (r10 : Int × Bool) (x25 : Api_Vrf) (v27 : Int) : Option ((Int) ⊕ (Unit ⊕ Unit)) :=
  if (decide (v27 < (a1.irbs.length : Int))) = true then
    (nth a1.irbs v27).bind fun x29 =>
    if (decide (x29.vrf < 0)) = true then
      some (Sum.inr (Sum.inl ()))
    else
      if (decide (x29.vrf ≥ (a1.vrfs.length : Int))) = true then
        some (Sum.inr (Sum.inl ()))
      else
        (nth a1.vrfs x29.vrf).bind fun x33 =>
        if (x33.dev != x25.dev) = true then
          some (Sum.inl (wr_i64 (v27 + 1)))
        else
          if (x29.net.addr == a3) = true then
            some (Sum.inr (Sum.inl ()))
          else
            (addr_Has x29.net a3).bind fun r37 =>
            if (r37) = true then
              (nth a1.irbs r10.1).bind fun x40 =>
              if (decide (x29.net.bits > x40.net.bits)) = true then
                (nth a1.irbs a2).bind fun x43 =>
                (vrfs_Leaks a1 x29.vrf x43.vrf).bind fun r45 =>
                if (r45) = true then
                  some (Sum.inr (Sum.inl ()))
                else
                  some (Sum.inl (wr_i64 (v27 + 1)))
              else
                some (Sum.inl (wr_i64 (v27 + 1)))
            else
              some (Sum.inl (wr_i64 (v27 + 1)))
  else
    some (Sum.inr (Sum.inr ()))

def palinglaw30_RouteLongest (a1 : Api_Net) (a2 : Int) (a3 : Int) : Option (Bool) :=
  (palinglaw30_works).bind fun r4 =>
  if (!r4) = true then
    some false
  else
    (palinglaw15_Great a1).bind fun r7 =>
    if (r7) = true then
      some true
    else
      (route_Lookup a1 a2 a3).bind fun r10 =>
      if (!r10.2) = true then
        some (r10.1 == 0)
      else
        if (decide (a2 < 0)) = true then
          some false
        else
          if (decide (a2 ≥ (a1.irbs.length : Int))) = true then
            some false
          else
            if (decide (r10.1 < 0)) = true then
              some false
            else
              if (decide (r10.1 ≥ (a1.irbs.length : Int))) = true then
                some false
              else
                (nth a1.irbs a2).bind fun x17 =>
                if (decide (x17.vrf < 0)) = true then
                  some false
                else
                  (nth a1.irbs a2).bind fun x20 =>
                  if (decide (x20.vrf ≥ (a1.vrfs.length : Int))) = true then
                    some false
                  else
                    (nth a1.irbs a2).bind fun x23 =>
                    (nth a1.vrfs x23.vrf).bind fun x25 =>
                    (loopM (palinglaw30_RouteLongest_L1 a1 a2 a3 r10 x25) 0).bind fun r49 => match r49 with
                    | Sum.inl () =>
                      some false
                    | Sum.inr () =>
                      some true

def ether_Same (a1 : Api_Frame) (a2 : Api_Frame) : Option (Bool) :=
  if (a1.dst == a2.dst) = true then
    if (a1.src == a2.src) = true then
      if (a1.type_ == a2.type_) = true then
        some (seqB (bstr a1.body) (bstr a2.body))
      else
        some false
    else
      some false
  else
    some false

def ipv4_Same (a1 : Api_Packet) (a2 : Api_Packet) : Option (Bool) :=
  if (a1.tos == a2.tos) = true then
    if (a1.id == a2.id) = true then
      if (a1.ttl == a2.ttl) = true then
        if (a1.proto == a2.proto) = true then
          if (a1.src == a2.src) = true then
            if (a1.dst == a2.dst) = true then
              some (seqB (bstr a1.body) (bstr a2.body))
            else
              some false
          else
            some false
        else
          some false
      else
        some false
    else
      some false
  else
    some false

def palinglaw30_RouteHops (a1 : Api_Net) (a2 : Int) (a3 : Api_Frame) : Option (Bool) :=
  (palinglaw30_works).bind fun r4 =>
  if (!r4) = true then
    some false
  else
    (palinglaw15_Great a1).bind fun r7 =>
    if (r7) = true then
      some true
    else
      if (decide ((a3.body.length : Int) > 4000)) = true then
        some true
      else
        (route_Hop a1 a2 a3).bind fun r11 => match r11 with
        | (l13, v14, v15, v16, v17, v18) =>
          if (v18 != 0) = true then
            if (v14 == 0) = true then
              (ether_Same (⟨v15, v16, v17, l13⟩ : Api_Frame) (⟨0, 0, 0, []⟩ : Api_Frame)).bind fun r21 =>
              some r21
            else
              some false
          else
            (ipv4_Take a3.body).bind fun r23 => match r23 with
            | (l25, v26, v27, v28, v29, v30, v31, v32) =>
              (ipv4_Take l13).bind fun r33 => match r33 with
              | (l35, v36, v37, v38, v39, v40, v41, v42) =>
                (ipv4_Hop (⟨v26, v27, v28, v29, v30, v31, l25⟩ : Api_Packet)).bind fun r43 => match r43 with
                | (l45, v46, v47, v48, v49, v50, v51, v52) =>
                  (route_Lookup a1 a2 v31).bind fun r53 =>
                  if (v32 != 0) = true then
                    some false
                  else
                    if (v42 != 0) = true then
                      some false
                    else
                      if (v52 != 0) = true then
                        some false
                      else
                        (ipv4_Same (⟨v36, v37, v38, v39, v40, v41, l35⟩ : Api_Packet) (⟨v46, v47, v48, v49, v50, v51, l45⟩ : Api_Packet)).bind fun r58 =>
                        if (!r58) = true then
                          some false
                        else
                          if (!r53.2) = true then
                            some false
                          else
                            if (decide (r53.1 < 0)) = true then
                              some false
                            else
                              if (decide (r53.1 ≥ (a1.irbs.length : Int))) = true then
                                some false
                              else
                                if (decide (a2 < 0)) = true then
                                  some false
                                else
                                  if (decide (a2 ≥ (a1.irbs.length : Int))) = true then
                                    some false
                                  else
                                    (nth a1.irbs r53.1).bind fun x66 =>
                                    if (x66.domain != v14) = true then
                                      some false
                                    else
                                      if (decide (v14 < 0)) = true then
                                        some false
                                      else
                                        if (decide (v14 ≥ (a1.domains.length : Int))) = true then
                                          some false
                                        else
                                          (nth a1.irbs a2).bind fun x71 =>
                                          if (decide (x71.domain < 0)) = true then
                                            some false
                                          else
                                            (nth a1.irbs a2).bind fun x74 =>
                                            if (decide (x74.domain ≥ (a1.domains.length : Int))) = true then
                                              some false
                                            else
                                              (mac_Host v31).bind fun r77 =>
                                              if (v15 == r77) = true then
                                                (mac_Host x66.net.addr).bind fun r80 =>
                                                if (v16 == r80) = true then
                                                  if (v17 == 2048) = true then
                                                    (nth a1.domains v14).bind fun x84 =>
                                                    (nth a1.irbs a2).bind fun x86 =>
                                                    (nth a1.domains x86.domain).bind fun x88 =>
                                                    if (x84.dev == x88.dev) = true then
                                                      (addr_Has x66.net v31).bind fun r91 =>
                                                      if (r91) = true then
                                                        if (x66.net.addr != v31) = true then
                                                          (nth a1.irbs a2).bind fun x95 =>
                                                          (vrfs_Leaks a1 x66.vrf x95.vrf).bind fun r97 =>
                                                          some r97
                                                        else
                                                          some false
                                                      else
                                                        some false
                                                    else
                                                      some false
                                                  else
                                                    some false
                                                else
                                                  some false
                                              else
                                                some false

def palingref15_Members_L1 (a1 : Api_Net) (x6 : Api_Domain) (l8 : List Int) (v9 : Int) : Option (((List Int) × Int) ⊕ ((List Int))) :=
  if (decide (v9 < (a1.ports.length : Int))) = true then
    (nth a1.ports v9).bind fun x11 =>
    if (x11.dev == x6.dev) = true then
      (nth a1.ports v9).bind fun x14 =>
      (palingref15_Member x14 x6.vlan).bind fun r16 =>
      if (r16) = true then
        if (roomy 8 (l8 ++ [v9])) = true then
          some (Sum.inl (l8 ++ [v9], wr_i64 (v9 + 1)))
        else
          none
      else
        some (Sum.inl (l8, wr_i64 (v9 + 1)))
    else
      some (Sum.inl (l8, wr_i64 (v9 + 1)))
  else
    some (Sum.inr l8)

def palingref15_Members (a1 : Api_Net) (a2 : Int) : Option (((List Int))) :=
  (palingref15_Place a2 (a1.domains.length : Int)).bind fun r3 =>
  if (!r3) = true then
    some []
  else
    (nth a1.domains a2).bind fun x6 =>
    (loopM (fun s : (List Int) × Int => match s with | (l8, v9) => palingref15_Members_L1 a1 x6 l8 v9) ([], 0)).bind fun r24 => match r24 with
    | l22 =>
      some l22

def palingref05_Add (a1 : Api_Frame) (a2 : Int) (a3 : Int) : Option (((List Int) × Int × Int × Int × Int)) :=
  if (a1.type_ == 33024) = true then
    some ([], 0, 0, 0, 15)
  else
    if (decide (a2 < 0)) = true then
      some ([], 0, 0, 0, 15)
    else
      if (decide (a2 ≥ 4095)) = true then
        some ([], 0, 0, 0, 15)
      else
        if (decide (a3 < 0)) = true then
          some ([], 0, 0, 0, 15)
        else
          if (decide (a3 ≥ 16)) = true then
            some ([], 0, 0, 0, 15)
          else
            if (decide (a1.type_ < 0)) = true then
              some ([], 0, 0, 0, 11)
            else
              if (decide (a1.type_ ≥ 65536)) = true then
                some ([], 0, 0, 0, 11)
              else
                if (decide ((a1.body.length : Int) > 1500)) = true then
                  some ([], 0, 0, 0, 14)
                else
                  if (roomy 1 ([(wr_u8 (wr_i64 (Int.tdiv (wr_i64 ((wr_i64 (a3 * 4096)) + a2)) 256)) : Int), (wr_u8 (Int.tmod (wr_i64 ((wr_i64 (a3 * 4096)) + a2)) 256) : Int), (wr_u8 (wr_i64 (Int.tdiv a1.type_ 256)) : Int), (wr_u8 (Int.tmod a1.type_ 256) : Int)] ++ a1.body)) = true then
                    some ([(wr_u8 (wr_i64 (Int.tdiv (wr_i64 ((wr_i64 (a3 * 4096)) + a2)) 256)) : Int), (wr_u8 (Int.tmod (wr_i64 ((wr_i64 (a3 * 4096)) + a2)) 256) : Int), (wr_u8 (wr_i64 (Int.tdiv a1.type_ 256)) : Int), (wr_u8 (Int.tmod a1.type_ 256) : Int)] ++ a1.body, a1.dst, a1.src, 33024, 0)
                  else
                    none

def palingref28_At (a1 : Api_Net) (a2 : Int) (a3 : Int) (a4 : Api_Frame) : Option (((List Int) × Int)) :=
  (palingref15_Right a1).bind fun r5 =>
  if (!r5) = true then
    some ([], 2)
  else
    (palingref15_Place a2 (a1.ports.length : Int)).bind fun r8 =>
    if (!r8) = true then
      some ([], 2)
    else
      (palingref15_Place a3 (a1.domains.length : Int)).bind fun r11 =>
      if (!r11) = true then
        some ([], 2)
      else
        (palingref15_Members a1 a3).bind fun r14 => match r14 with
        | l16 =>
          (palingref15_In l16 a2).bind fun r17 =>
          if (!r17) = true then
            some ([], 16)
          else
            if (a4.type_ == 33024) = true then
              some ([], 15)
            else
              (nth a1.domains a3).bind fun x21 =>
              (nth a1.ports a2).bind fun x23 =>
              if (x23.native == x21.vlan) = true then
                (palingref04_Put a4).bind fun r26 => match r26 with
                | (l28, v29) =>
                  some (l28, v29)
              else
                (palingref05_Add a4 x21.vlan 0).bind fun r30 => match r30 with
                | (l32, v33, v34, v35, v36) =>
                  if (v36 != 0) = true then
                    some ([], v36)
                  else
                    (palingref04_Put (⟨v33, v34, v35, l32⟩ : Api_Frame)).bind fun r38 => match r38 with
                    | (l40, v41) =>
                      some (l40, v41)

def links_Other (a1 : Api_Net) (a2 : Int) : Option (Int) :=
  if (decide (a2 < 0)) = true then
    some (-1)
  else
    if (decide (a2 ≥ (a1.ports.length : Int))) = true then
      some (-1)
    else
      (nth a1.ports a2).bind fun x5 =>
      if (decide (x5.link < 0)) = true then
        some (-1)
      else
        (names_Right a1).bind fun r8 =>
        if (!r8) = true then
          some (-1)
        else
          (nth a1.ports a2).bind fun x11 =>
          (nth a1.links x11.link).bind fun x13 =>
          if (x13.a == a2) = true then
            some x13.b
          else
            some x13.a

def tag_Strip (a1 : Api_Frame) : Option (((List Int) × Int × Int × Int × Int × Int × Int)) :=
  (tag_Is a1).bind fun r2 =>
  if (!r2) = true then
    some ([], 0, 0, 0, 0, 0, 11)
  else
    if (decide ((a1.body.length : Int) < 4)) = true then
      some ([], 0, 0, 0, 0, 0, 10)
    else
      (nth a1.body 0).bind fun x6 =>
      (nth a1.body 1).bind fun x8 =>
      (nth a1.body 2).bind fun x10 =>
      (nth a1.body 3).bind fun x12 =>
      if (decide ((bits_and .i64 (bits_or .i64 (wr_i64 ((wr_i64 x6) * 2 ^ 8)) (wr_i64 x8)) 4095) > 4094)) = true then
        some ([], 0, 0, 0, 0, 0, 15)
      else
        if ((bits_or .i64 (wr_i64 ((wr_i64 x10) * 2 ^ 8)) (wr_i64 x12)) == 33024) = true then
          some ([], 0, 0, 0, 0, 0, 15)
        else
          if (slok (List.length a1.body) 4 ((List.length a1.body) : Int)) = true then
            (slices_Clone_byte (List.drop (Int.toNat 4) (List.take (Int.toNat ((List.length a1.body) : Int)) a1.body))).bind fun r17 => match r17 with
            | l19 =>
              some (l19, a1.dst, a1.src, bits_or .i64 (wr_i64 ((wr_i64 x10) * 2 ^ 8)) (wr_i64 x12), bits_and .i64 (bits_or .i64 (wr_i64 ((wr_i64 x6) * 2 ^ 8)) (wr_i64 x8)) 4095, Int.fdiv (bits_or .i64 (wr_i64 ((wr_i64 x6) * 2 ^ 8)) (wr_i64 x8)) (2 ^ 12), 0)
          else
            none

def enter_Vlan (a1 : Api_Port) (a2 : Bool) (a3 : Int) : Option (Int × Bool) :=
  if (!a2) = true then
    some (a1.native, a1.native != 0)
  else
    if (a3 == 0) = true then
      some (a1.native, a1.native != 0)
    else
      (slices_Contains_int a1.tagged a3).bind fun r6 =>
      if (r6) = true then
        some (a3, true)
      else
        some (0, false)

def names_Domain_1 (a1 : Api_Domain) (a2 : Int) (a3 : Int) : Option (Bool) :=
  if (a1.dev == a2) = true then
    some (a1.vlan == a3)
  else
    some false

def slices_IndexFunc_Domain_Domain_1_L1 (a1 : List Api_Domain) (a2 : Int) (a3 : Int) (v4 : Int) : Option ((Int) ⊕ (Int ⊕ Unit)) :=
  if (decide (v4 < (a1.length : Int))) = true then
    (nth a1 v4).bind fun x6 =>
    (names_Domain_1 x6 a2 a3).bind fun r8 =>
    if (r8) = true then
      some (Sum.inr (Sum.inl v4))
    else
      some (Sum.inl (wr_i64 (v4 + 1)))
  else
    some (Sum.inr (Sum.inr ()))

def slices_IndexFunc_Domain_Domain_1 (a1 : List Api_Domain) (a2 : Int) (a3 : Int) : Option (Int) :=
  (loopM (slices_IndexFunc_Domain_Domain_1_L1 a1 a2 a3) 0).bind fun r14 => match r14 with
  | Sum.inl v12 =>
    some v12
  | Sum.inr () =>
    some (-1)

def names_find_Domain_Domain_1 (a1 : Api_Net) (a2 : List Api_Domain) (a3 : Int) (a4 : Int) : Option (Int) :=
  (names_Right a1).bind fun r5 =>
  if (!r5) = true then
    some (-1)
  else
    (slices_IndexFunc_Domain_Domain_1 a2 a3 a4).bind fun r8 =>
    some r8

def names_Domain (a1 : Api_Net) (a2 : Int) (a3 : Int) : Option (Int) :=
  (names_find_Domain_Domain_1 a1 a1.domains a2 a3).bind fun r4 =>
  some r4

def enter_At_J1 (a1 : Api_Net) (a2 : Int) (l11 : List Int) (n12 : Nat) (v13 : Int) (v14 : Int) (v15 : Int) (v16 : Int) (r17 : Bool) : Option (((List Int) × Int × Int × Int × Nat × Int × Int)) :=
  if (v16 == 0) = true then
    if (r17) = true then
      (tag_Strip (⟨v13, v14, v15, l11⟩ : Api_Frame)).bind fun r21 => match r21 with
      | (l23, v24, v25, v26, v27, v28, v29) =>
        some (l23, v24, v25, v26, (List.length l23), v29, v27)
    else
      some (l11, v13, v14, v15, n12, v16, 0)
  else
    some (l11, v13, v14, v15, n12, v16, 0)

def enter_At_J2 (a1 : Api_Net) (a2 : Int) (r17 : Bool) (l67 : List Int) (v68 : Int) (v69 : Int) (v70 : Int) (n71 : Nat) (v72 : Int) (v73 : Int) : Option (Int) :=
  if (v72 == 0) = true then
    (mac_Group v69).bind fun r77 =>
    if (r77) = true then
      some 11
    else
      some v72
  else
    some v72

def enter_At_J3 (a1 : Api_Net) (l67 : List Int) (v68 : Int) (v69 : Int) (v70 : Int) (n71 : Nat) (v81 : Int) (x84 : Api_Port) (r86 : Int × Bool) : Option (Int) :=
  if (v81 == 0) = true then
    if (!r86.2) = true then
      some 16
    else
      some v81
  else
    some v81

def enter_At (a1 : Api_Net) (a2 : Int) (a3 : List Int) : Option (((List Int) × Nat × Int × Int × Int × Int × Int)) :=
  if (decide (a2 < 0)) = true then
    some ([], 0, 0, 0, 0, 0, 2)
  else
    if (decide (a2 ≥ (a1.ports.length : Int))) = true then
      some ([], 0, 0, 0, 0, 0, 2)
    else
      (names_Right a1).bind fun r6 =>
      if (!r6) = true then
        some ([], 0, 0, 0, 0, 0, 2)
      else
        (ether_Take a3).bind fun r9 => match r9 with
        | (l11, n12, v13, v14, v15, v16) =>
          (tag_Is (⟨v13, v14, v15, l11⟩ : Api_Frame)).bind fun r17 =>
          (enter_At_J1 a1 a2 l11 n12 v13 v14 v15 v16 r17).bind fun r75 => match r75 with
          | (l67, v68, v69, v70, n71, v72, v73) =>
            (enter_At_J2 a1 a2 r17 l67 v68 v69 v70 n71 v72 v73).bind fun r83 => match r83 with
            | v81 =>
              (nth a1.ports a2).bind fun x84 =>
              (enter_Vlan x84 r17 v73).bind fun r86 =>
              (enter_At_J3 a1 l67 v68 v69 v70 n71 v81 x84 r86).bind fun r93 => match r93 with
              | v91 =>
                if (v91 != 0) = true then
                  some ([], 0, 0, 0, 0, 0, v91)
                else
                  (names_Domain a1 x84.dev r86.1).bind fun r95 =>
                  some (l67, n71, r95, v68, v69, v70, 0)

def leave_Link (a1 : Api_Net) (a2 : Int) (a3 : List Int) : Option (((List Int) × Nat × Int × Int × Int × Int × Int × Int)) :=
  (links_Other a1 a2).bind fun r4 =>
  if (decide (r4 < 0)) = true then
    some ([], 0, 0, 0, 0, 0, 0, 2)
  else
    (enter_At a1 r4 a3).bind fun r7 => match r7 with
    | (l9, n10, v11, v12, v13, v14, v15) =>
      some (l9, n10, r4, v11, v12, v13, v14, v15)

def palingref17_Other_L1 (a1 : Api_Net) (a2 : Int) (v3 : Int) : Option ((Int) ⊕ (Int ⊕ Unit)) :=
  if (decide (v3 < (a1.links.length : Int))) = true then
    (nth a1.links v3).bind fun x5 =>
    if (x5.a == a2) = true then
      (nth a1.links v3).bind fun x8 =>
      some (Sum.inr (Sum.inl x8.b))
    else
      (nth a1.links v3).bind fun x10 =>
      if (x10.b == a2) = true then
        (nth a1.links v3).bind fun x13 =>
        some (Sum.inr (Sum.inl x13.a))
      else
        some (Sum.inl (wr_i64 (v3 + 1)))
  else
    some (Sum.inr (Sum.inr ()))

def palingref17_Other (a1 : Api_Net) (a2 : Int) : Option (Int) :=
  (loopM (palingref17_Other_L1 a1 a2) 0).bind fun r18 => match r18 with
  | Sum.inl v16 =>
    some v16
  | Sum.inr () =>
    some (-1)

def palingref05_Strip (a1 : Api_Frame) : Option (((List Int) × Int × Int × Int × Int × Int × Int)) :=
  if (a1.type_ != 33024) = true then
    some ([], 0, 0, 0, 0, 0, 11)
  else
    if (decide ((a1.body.length : Int) < 4)) = true then
      some ([], 0, 0, 0, 0, 0, 10)
    else
      (nth a1.body 0).bind fun x4 =>
      (nth a1.body 1).bind fun x6 =>
      (nth a1.body 2).bind fun x8 =>
      (nth a1.body 3).bind fun x10 =>
      if ((Int.tmod (wr_i64 ((wr_i64 ((wr_i64 x4) * 256)) + (wr_i64 x6))) 4096) == 4095) = true then
        some ([], 0, 0, 0, 0, 0, 15)
      else
        if ((wr_i64 ((wr_i64 ((wr_i64 x8) * 256)) + (wr_i64 x10))) == 33024) = true then
          some ([], 0, 0, 0, 0, 0, 15)
        else
          if (slok (List.length a1.body) 4 ((List.length a1.body) : Int)) = true then
            if (roomy 1 (List.drop (Int.toNat 4) (List.take (Int.toNat ((List.length a1.body) : Int)) a1.body))) = true then
              some (List.drop (Int.toNat 4) (List.take (Int.toNat ((List.length a1.body) : Int)) a1.body), a1.dst, a1.src, wr_i64 ((wr_i64 ((wr_i64 x8) * 256)) + (wr_i64 x10)), Int.tmod (wr_i64 ((wr_i64 ((wr_i64 x4) * 256)) + (wr_i64 x6))) 4096, wr_i64 (Int.tdiv (wr_i64 ((wr_i64 ((wr_i64 x4) * 256)) + (wr_i64 x6))) 4096), 0)
            else
              none
          else
            none

def palingref27_Vlan (a1 : Api_Port) (a2 : Bool) (a3 : Int) : Option (Int × Bool) :=
  if (!a2) = true then
    some (a1.native, a1.native != 0)
  else
    if (a3 == 0) = true then
      some (a1.native, a1.native != 0)
    else
      (palingref15_In a1.tagged a3).bind fun r6 =>
      if (r6) = true then
        some (a3, true)
      else
        some (0, false)

def palingref27_At_J1 (a1 : Api_Net) (a2 : Int) (l12 : List Int) (v13 : Int) (v14 : Int) (v15 : Int) (v16 : Int) : Option (Int ⊕ ((List Int) × Int × Int × Int × Int)) :=
  if (v15 == 33024) = true then
    (palingref05_Strip (⟨v13, v14, v15, l12⟩ : Api_Frame)).bind fun r19 => match r19 with
    | (l21, v22, v23, v24, v25, v26, v27) =>
      if (v27 != 0) = true then
        some (Sum.inl v27)
      else
        some (Sum.inr (l21, v22, v23, v24, v25))
  else
    some (Sum.inr (l12, v13, v14, v15, 0))

def palingref27_At (a1 : Api_Net) (a2 : Int) (a3 : List Int) : Option (((List Int) × Int × Int × Int × Int × Int)) :=
  (palingref15_Right a1).bind fun r4 =>
  if (!r4) = true then
    some ([], 0, 0, 0, 0, 2)
  else
    (palingref15_Place a2 (a1.ports.length : Int)).bind fun r7 =>
    if (!r7) = true then
      some ([], 0, 0, 0, 0, 2)
    else
      (palingref04_Take a3).bind fun r10 => match r10 with
      | (l12, v13, v14, v15, v16) =>
        if (v16 != 0) = true then
          some ([], 0, 0, 0, 0, v16)
        else
          (palingref27_At_J1 a1 a2 l12 v13 v14 v15 v16).bind fun r70 => match r70 with
          | Sum.inl v30 =>
            some ([], 0, 0, 0, 0, v30)
          | Sum.inr (l64, v65, v66, v67, v68) =>
            (palingref01_Group v66).bind fun r71 =>
            if (r71) = true then
              some ([], 0, 0, 0, 0, 11)
            else
              (nth a1.ports a2).bind fun x74 =>
              (palingref27_Vlan x74 (v15 == 33024) v68).bind fun r76 =>
              if (!r76.2) = true then
                some ([], 0, 0, 0, 0, 16)
              else
                (nth a1.ports a2).bind fun x79 =>
                (palingref15_At a1 x79.dev r76.1).bind fun r81 =>
                some (l64, r81, v65, v66, v67, 0)

def palingref28_Link (a1 : Api_Net) (a2 : Int) (a3 : List Int) : Option (((List Int) × Int × Int × Int × Int × Int × Int)) :=
  (palingref15_Right a1).bind fun r4 =>
  if (!r4) = true then
    some ([], 0, 0, 0, 0, 0, 2)
  else
    (palingref17_Other a1 a2).bind fun r7 =>
    if (decide (r7 < 0)) = true then
      some ([], 0, 0, 0, 0, 0, 2)
    else
      (palingref17_Other a1 a2).bind fun r10 =>
      (palingref27_At a1 r10 a3).bind fun r12 => match r12 with
      | (l14, v15, v16, v17, v18, v19) =>
        some (l14, r10, v15, v16, v17, v18, v19)

def palinglaw28_LeavePorts (a1 : Api_Net) (a2 : Int) (a3 : Int) (a4 : Api_Frame) (a5 : List Int) : Option (Bool) :=
  (palinglaw15_Great a1).bind fun r6 =>
  if (r6) = true then
    (palinglaw28_works).bind fun r9 =>
    some r9
  else
    if (decide ((a4.body.length : Int) > 4000)) = true then
      (palinglaw28_works).bind fun r12 =>
      some r12
    else
      if (decide ((a5.length : Int) > 4000)) = true then
        (palinglaw28_works).bind fun r15 =>
        some r15
      else
        (leave_At a1 a2 a3 a4).bind fun r17 => match r17 with
        | (l19, v20) =>
          (palingref28_At a1 a2 a3 a4).bind fun r21 => match r21 with
          | (l23, v24) =>
            (leave_Link a1 a2 a5).bind fun r25 => match r25 with
            | (l27, n28, v29, v30, v31, v32, v33, v34) =>
              (palingref28_Link a1 a2 a5).bind fun r35 => match r35 with
              | (l37, v38, v39, v40, v41, v42, v43) =>
                if (seqB (bstr l19) (bstr l23)) = true then
                  if (v20 == v24) = true then
                    if (v29 == v38) = true then
                      if (v30 == v39) = true then
                        (palingref04_Same (⟨v31, v32, v33, l27⟩ : Api_Frame) (⟨v40, v41, v42, l37⟩ : Api_Frame)).bind fun r48 =>
                        if (r48) = true then
                          if (v34 == v43) = true then
                            (palinglaw28_works).bind fun r52 =>
                            some r52
                          else
                            some false
                        else
                          some false
                      else
                        some false
                    else
                      some false
                  else
                    some false
                else
                  some false

def links_Cross (a1 : Api_Net) (a2 : Int) (a3 : Int) : Option (Int × Int × Bool) :=
  (links_Other a1 a2).bind fun r4 =>
  if (decide (r4 < 0)) = true then
    some (0, 0, false)
  else
    (nth a1.ports a2).bind fun x7 =>
    (names_Member x7 a3).bind fun r9 =>
    if (!r9) = true then
      some (0, 0, false)
    else
      (nth a1.ports r4).bind fun x12 =>
      (nth a1.ports a2).bind fun x14 =>
      if (a3 == x14.native) = true then
        if (x12.native == 0) = true then
          some (0, 0, false)
        else
          some (r4, x12.native, true)
      else
        (slices_Contains_int x12.tagged a3).bind fun r18 =>
        if (r18) = true then
          if (a3 == 0) = true then
            some (0, 0, false)
          else
            some (r4, a3, true)
        else
          if (0 == 0) = true then
            some (0, 0, false)
          else
            some (r4, 0, true)

def links_Domain (a1 : Api_Net) (a2 : Int) (a3 : Int) : Option (Int × Bool) :=
  (links_Cross a1 a2 a3).bind fun r4 =>
  if (!r4.2.2) = true then
    some (0, false)
  else
    (nth a1.ports r4.1).bind fun x7 =>
    (names_Domain a1 x7.dev r4.2.1).bind fun r9 =>
    some (r9, true)

def palinglaw28_LeaveCrosses (a1 : Api_Net) (a2 : Int) (a3 : Int) (a4 : Api_Frame) : Option (Bool) :=
  (palinglaw28_works).bind fun r5 =>
  if (!r5) = true then
    some false
  else
    (palinglaw15_Great a1).bind fun r8 =>
    if (r8) = true then
      some true
    else
      if (decide ((a4.body.length : Int) > 4000)) = true then
        some true
      else
        (mac_Group a4.src).bind fun r12 =>
        if (r12) = true then
          some true
        else
          (leave_At a1 a2 a3 a4).bind fun r15 => match r15 with
          | (l17, v18) =>
            if (v18 != 0) = true then
              some (((List.length l17) : Int) == 0)
            else
              if (decide (a3 < 0)) = true then
                some false
              else
                if (decide (a3 ≥ (a1.domains.length : Int))) = true then
                  some false
                else
                  if (decide (a2 < 0)) = true then
                    some false
                  else
                    if (decide (a2 ≥ (a1.ports.length : Int))) = true then
                      some false
                    else
                      (nth a1.ports a2).bind fun x24 =>
                      if (decide (x24.link < 0)) = true then
                        some true
                      else
                        (leave_Link a1 a2 l17).bind fun r27 => match r27 with
                        | (l29, n30, v31, v32, v33, v34, v35, v36) =>
                          (nth a1.domains a3).bind fun x37 =>
                          (links_Domain a1 a2 x37.vlan).bind fun r39 =>
                          if (!r39.2) = true then
                            some (v36 == 16)
                          else
                            if (v36 == 0) = true then
                              (links_Other a1 a2).bind fun r43 =>
                              if (v31 == r43) = true then
                                if (v32 == r39.1) = true then
                                  (ether_Same a4 (⟨v33, v34, v35, l29⟩ : Api_Frame)).bind fun r47 =>
                                  some r47
                                else
                                  some false
                              else
                                some false
                            else
                              some false

def palinglaw28_twins_L2 (a1 : Api_Net) (v2 : Int) (x4 : Api_Device) (v6 : Int) : Option ((Int) ⊕ (Unit ⊕ Unit)) :=
  if (decide (v6 < (a1.devices.length : Int))) = true then
    (nth a1.devices v6).bind fun x8 =>
    if (v2 != v6) = true then
      if (x4.vtep != 0) = true then
        if (x4.vtep == x8.vtep) = true then
          some (Sum.inr (Sum.inl ()))
        else
          some (Sum.inl (wr_i64 (v6 + 1)))
      else
        some (Sum.inl (wr_i64 (v6 + 1)))
    else
      some (Sum.inl (wr_i64 (v6 + 1)))
  else
    some (Sum.inr (Sum.inr ()))

def palinglaw28_twins_L1 (a1 : Api_Net) (v2 : Int) : Option ((Int) ⊕ (Unit ⊕ Unit)) :=
  if (decide (v2 < (a1.devices.length : Int))) = true then
    (nth a1.devices v2).bind fun x4 =>
    (loopM (palinglaw28_twins_L2 a1 v2 x4) 0).bind fun r14 => match r14 with
    | Sum.inl () =>
      some (Sum.inr (Sum.inl ()))
    | Sum.inr () =>
      some (Sum.inl (wr_i64 (v2 + 1)))
  else
    some (Sum.inr (Sum.inr ()))

def palinglaw28_twins_L4 (a1 : Api_Net) (v17 : Int) (x19 : Api_Domain) (v21 : Int) : Option ((Int) ⊕ (Unit ⊕ Unit)) :=
  if (decide (v21 < (a1.domains.length : Int))) = true then
    (nth a1.domains v21).bind fun x23 =>
    if (v17 != v21) = true then
      if (x19.dev == x23.dev) = true then
        if (x19.vni != 0) = true then
          if (x19.vni == x23.vni) = true then
            some (Sum.inr (Sum.inl ()))
          else
            some (Sum.inl (wr_i64 (v21 + 1)))
        else
          some (Sum.inl (wr_i64 (v21 + 1)))
      else
        some (Sum.inl (wr_i64 (v21 + 1)))
    else
      some (Sum.inl (wr_i64 (v21 + 1)))
  else
    some (Sum.inr (Sum.inr ()))

def palinglaw28_twins_L3 (a1 : Api_Net) (v17 : Int) : Option ((Int) ⊕ (Unit ⊕ Unit)) :=
  if (decide (v17 < (a1.domains.length : Int))) = true then
    (nth a1.domains v17).bind fun x19 =>
    (loopM (palinglaw28_twins_L4 a1 v17 x19) 0).bind fun r30 => match r30 with
    | Sum.inl () =>
      some (Sum.inr (Sum.inl ()))
    | Sum.inr () =>
      some (Sum.inl (wr_i64 (v17 + 1)))
  else
    some (Sum.inr (Sum.inr ()))

def palinglaw28_twins (a1 : Api_Net) : Option (Bool) :=
  (loopM (palinglaw28_twins_L1 a1) 0).bind fun r16 => match r16 with
  | Sum.inl () =>
    some true
  | Sum.inr () =>
    (loopM (palinglaw28_twins_L3 a1) 0).bind fun r32 => match r32 with
    | Sum.inl () =>
      some true
    | Sum.inr () =>
      some false

def palinglaw28_LeaveComes_J1 (a1 : Api_Net) (a2 : Int) (a3 : Int) (a4 : Api_Frame) (a5 : List Int) : Option (Unit ⊕ Unit) :=
  (leave_Come a1 a5).bind fun r14 => match r14 with
  | (l16, n17, v18, v19, v20, v21, v22, v23) =>
    if (v23 == 0) = true then
      (tag_Is (⟨v20, v21, v22, l16⟩ : Api_Frame)).bind fun r25 =>
      if (r25) = true then
        some (Sum.inl ())
      else
        (mac_Group v21).bind fun r28 =>
        if (r28) = true then
          some (Sum.inl ())
        else
          if (decide (v19 < 0)) = true then
            some (Sum.inl ())
          else
            if (decide (v19 ≥ (a1.domains.length : Int))) = true then
              some (Sum.inl ())
            else
              if (decide (v18 < 0)) = true then
                some (Sum.inl ())
              else
                if (decide (v18 ≥ (a1.domains.length : Int))) = true then
                  some (Sum.inl ())
                else
                  (nth a1.domains v18).bind fun x35 =>
                  (nth a1.domains v19).bind fun x37 =>
                  if (x35.vni != x37.vni) = true then
                    some (Sum.inl ())
                  else
                    (names_Right a1).bind fun r40 =>
                    if (!r40) = true then
                      some (Sum.inl ())
                    else
                      some (Sum.inr ())
    else
      some (Sum.inr ())

def palinglaw28_LeaveComes (a1 : Api_Net) (a2 : Int) (a3 : Int) (a4 : Api_Frame) (a5 : List Int) : Option (Bool) :=
  (palinglaw28_works).bind fun r6 =>
  if (!r6) = true then
    some false
  else
    (palinglaw15_Great a1).bind fun r9 =>
    if (r9) = true then
      some true
    else
      if (decide ((a4.body.length : Int) > 4000)) = true then
        some true
      else
        if (decide ((a5.length : Int) > 4000)) = true then
          some true
        else
          (palinglaw28_LeaveComes_J1 a1 a2 a3 a4 a5).bind fun r44 => match r44 with
          | Sum.inl () =>
            some false
          | Sum.inr () =>
            (palinglaw28_twins a1).bind fun r45 =>
            if (r45) = true then
              some true
            else
              (mac_Group a4.src).bind fun r48 =>
              if (r48) = true then
                some true
              else
                (leave_Mesh a1 a2 a3 a4).bind fun r51 => match r51 with
                | (l53, v54) =>
                  if (v54 != 0) = true then
                    some (((List.length l53) : Int) == 0)
                  else
                    (leave_Come a1 l53).bind fun r56 => match r56 with
                    | (l58, n59, v60, v61, v62, v63, v64, v65) =>
                      if (v65 == 0) = true then
                        if (v60 == a2) = true then
                          if (v61 == a3) = true then
                            (ether_Same a4 (⟨v62, v63, v64, l58⟩ : Api_Frame)).bind fun r69 =>
                            some r69
                          else
                            some false
                        else
                          some false
                      else
                        some false

end Go.Eng
