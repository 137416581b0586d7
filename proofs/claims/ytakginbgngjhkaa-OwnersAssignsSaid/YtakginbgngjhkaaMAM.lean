/- Part of the proof of OwnersAssigns: printed mirrors of the functions, or their contracts. No conditions. -/
import Derived.Test.YtakginbgngjhkaaEng14
set_option linter.unusedVariables false
set_option maxRecDepth 100000
namespace Go.Eng
open Go
structure Api_Device where
  row : Int
  priority : Int
  name : ByteArray
  mac : Int
  vtep : Int
  deriving DecidableEq, Inhabited

def Api_Device.Ok (x : Api_Device) : Prop := (okI .i64) x.row ∧ (okI .i64) x.priority ∧ okS x.name ∧ (okI .u64) x.mac ∧ (okI .u32) x.vtep ∧ True

structure Api_Port where
  row : Int
  dev : Int
  native : Int
  cost : Int
  link : Int
  name : ByteArray
  tagged : List Int
  deriving DecidableEq, Inhabited

def Api_Port.Ok (x : Api_Port) : Prop := (okI .i64) x.row ∧ (okI .i64) x.dev ∧ (okI .i64) x.native ∧ (okI .i64) x.cost ∧ (okI .i64) x.link ∧ okS x.name ∧ (okL (okI .i64)) x.tagged ∧ True

structure Api_Link where
  row : Int
  a : Int
  b : Int
  deriving DecidableEq, Inhabited

def Api_Link.Ok (x : Api_Link) : Prop := (okI .i64) x.row ∧ (okI .i64) x.a ∧ (okI .i64) x.b ∧ True

structure Api_Domain where
  dev : Int
  vlan : Int
  vni : Int
  irb : Int
  row : Int
  peers : List Int
  deriving DecidableEq, Inhabited

def Api_Domain.Ok (x : Api_Domain) : Prop := (okI .i64) x.dev ∧ (okI .i64) x.vlan ∧ (okI .i64) x.vni ∧ (okI .i64) x.irb ∧ (okI .i64) x.row ∧ (okL (okI .i64)) x.peers ∧ True

structure Api_Static where
  row : Int
  domain : Int
  port : Int
  mac : Int
  deriving DecidableEq, Inhabited

def Api_Static.Ok (x : Api_Static) : Prop := (okI .i64) x.row ∧ (okI .i64) x.domain ∧ (okI .i64) x.port ∧ (okI .u64) x.mac ∧ True

structure Api_Flood where
  row : Int
  dev : Int
  vni : Int
  addrs : List Int
  deriving DecidableEq, Inhabited

def Api_Flood.Ok (x : Api_Flood) : Prop := (okI .i64) x.row ∧ (okI .i64) x.dev ∧ (okI .i64) x.vni ∧ (okL (okI .u32)) x.addrs ∧ True

structure Api_Vrf where
  row : Int
  dev : Int
  name : ByteArray
  imports : List Int
  exports : List Int
  deriving DecidableEq, Inhabited

def Api_Vrf.Ok (x : Api_Vrf) : Prop := (okI .i64) x.row ∧ (okI .i64) x.dev ∧ okS x.name ∧ (okL (okI .i64)) x.imports ∧ (okL (okI .i64)) x.exports ∧ True

structure Api_Prefix where
  addr : Int
  bits : Int
  deriving DecidableEq, Inhabited

def Api_Prefix.Ok (x : Api_Prefix) : Prop := (okI .u32) x.addr ∧ (okI .i64) x.bits ∧ True

structure Api_Irb where
  row : Int
  domain : Int
  vrf : Int
  net : Api_Prefix
  deriving DecidableEq, Inhabited

def Api_Irb.Ok (x : Api_Irb) : Prop := (okI .i64) x.row ∧ (okI .i64) x.domain ∧ (okI .i64) x.vrf ∧ Api_Prefix.Ok x.net ∧ True

structure Api_Net where
  devices : List Api_Device
  ports : List Api_Port
  links : List Api_Link
  domains : List Api_Domain
  statics : List Api_Static
  floods : List Api_Flood
  vrfs : List Api_Vrf
  irbs : List Api_Irb
  deriving DecidableEq, Inhabited

def Api_Net.Ok (x : Api_Net) : Prop := (okL Api_Device.Ok) x.devices ∧ (okL Api_Port.Ok) x.ports ∧ (okL Api_Link.Ok) x.links ∧ (okL Api_Domain.Ok) x.domains ∧ (okL Api_Static.Ok) x.statics ∧ (okL Api_Flood.Ok) x.floods ∧ (okL Api_Vrf.Ok) x.vrfs ∧ (okL Api_Irb.Ok) x.irbs ∧ True

structure Api_Tenant where
  row : Int
  name : ByteArray
  devs : List ByteArray
  ports : List ByteArray
  deriving DecidableEq, Inhabited

def Api_Tenant.Ok (x : Api_Tenant) : Prop := (okI .i64) x.row ∧ okS x.name ∧ (okL okS) x.devs ∧ (okL okS) x.ports ∧ True

structure Names_judge where
  n : Api_Net
  deriving DecidableEq, Inhabited

def Names_judge.Ok (x : Names_judge) : Prop := Api_Net.Ok x.n ∧ True

structure Reach_Hop where
  kind : Int
  port : Int
  domain : Int
  addr : Int
  deriving DecidableEq, Inhabited

def Reach_Hop.Ok (x : Reach_Hop) : Prop := (okI .i64) x.kind ∧ (okI .i64) x.port ∧ (okI .i64) x.domain ∧ (okI .u32) x.addr ∧ True

structure Api_Frame where
  dst : Int
  src : Int
  type_ : Int
  body : List Int
  deriving DecidableEq, Inhabited

def Api_Frame.Ok (x : Api_Frame) : Prop := (okI .u64) x.dst ∧ (okI .u64) x.src ∧ (okI .i64) x.type_ ∧ (okL (okI .u8)) x.body ∧ True


def palinglaw15_Great_L1 (a1 : Api_Net) (v10 : Int) : Option ((Int) ⊕ (Unit ⊕ Unit)) :=
  if (decide (v10 < (a1.ports.length : Int))) = true then
    (nth a1.ports v10).bind fun x12 =>
    if (decide ((x12.tagged.length : Int) > 100)) = true then
      some (Sum.inr (Sum.inl ()))
    else
      some (Sum.inl (wr_i64 (v10 + 1)))
  else
    some (Sum.inr (Sum.inr ()))

def palinglaw15_Great_L2 (a1 : Api_Net) (v17 : Int) : Option ((Int) ⊕ (Unit ⊕ Unit)) :=
  if (decide (v17 < (a1.domains.length : Int))) = true then
    (nth a1.domains v17).bind fun x19 =>
    if (decide ((x19.peers.length : Int) > 100)) = true then
      some (Sum.inr (Sum.inl ()))
    else
      some (Sum.inl (wr_i64 (v17 + 1)))
  else
    some (Sum.inr (Sum.inr ()))

def palinglaw15_Great_L3 (a1 : Api_Net) (v24 : Int) : Option ((Int) ⊕ (Unit ⊕ Unit)) :=
  if (decide (v24 < (a1.floods.length : Int))) = true then
    (nth a1.floods v24).bind fun x26 =>
    if (decide ((x26.addrs.length : Int) > 100)) = true then
      some (Sum.inr (Sum.inl ()))
    else
      some (Sum.inl (wr_i64 (v24 + 1)))
  else
    some (Sum.inr (Sum.inr ()))

def palinglaw15_Great_L4 (a1 : Api_Net) (v31 : Int) : Option ((Int) ⊕ (Unit ⊕ Unit)) :=
  if (decide (v31 < (a1.vrfs.length : Int))) = true then
    (nth a1.vrfs v31).bind fun x33 =>
    if (decide ((x33.imports.length : Int) > 100)) = true then
      some (Sum.inr (Sum.inl ()))
    else
      (nth a1.vrfs v31).bind fun x36 =>
      if (decide ((x36.exports.length : Int) > 100)) = true then
        some (Sum.inr (Sum.inl ()))
      else
        some (Sum.inl (wr_i64 (v31 + 1)))
  else
    some (Sum.inr (Sum.inr ()))

def palinglaw15_Great (a1 : Api_Net) : Option (Bool) :=
  if (decide ((a1.devices.length : Int) > 200)) = true then
    some true
  else
    if (decide ((a1.ports.length : Int) > 200)) = true then
      some true
    else
      if (decide ((a1.links.length : Int) > 200)) = true then
        some true
      else
        if (decide ((a1.domains.length : Int) > 200)) = true then
          some true
        else
          if (decide ((a1.statics.length : Int) > 200)) = true then
            some true
          else
            if (decide ((a1.floods.length : Int) > 200)) = true then
              some true
            else
              if (decide ((a1.vrfs.length : Int) > 200)) = true then
                some true
              else
                if (decide ((a1.irbs.length : Int) > 200)) = true then
                  some true
                else
                  (loopM (palinglaw15_Great_L1 a1) 0).bind fun r16 => match r16 with
                  | Sum.inl () =>
                    some true
                  | Sum.inr () =>
                    (loopM (palinglaw15_Great_L2 a1) 0).bind fun r23 => match r23 with
                    | Sum.inl () =>
                      some true
                    | Sum.inr () =>
                      (loopM (palinglaw15_Great_L3 a1) 0).bind fun r30 => match r30 with
                      | Sum.inl () =>
                        some true
                      | Sum.inr () =>
                        (loopM (palinglaw15_Great_L4 a1) 0).bind fun r40 => match r40 with
                        | Sum.inl () =>
                          some true
                        | Sum.inr () =>
                          some false

def names_judge_few (a1 : Names_judge) : Option (Bool) :=
  if (decide ((a1.n.devices.length : Int) ≤ 8)) = true then
    if (decide ((a1.n.ports.length : Int) ≤ 40)) = true then
      if (decide ((a1.n.links.length : Int) ≤ 20)) = true then
        if (decide ((a1.n.domains.length : Int) ≤ 48)) = true then
          if (decide ((a1.n.statics.length : Int) ≤ 64)) = true then
            if (decide ((a1.n.floods.length : Int) ≤ 48)) = true then
              if (decide ((a1.n.vrfs.length : Int) ≤ 16)) = true then
                some (decide ((a1.n.irbs.length : Int) ≤ 48))
              else
                some false
            else
              some false
          else
            some false
        else
          some false
      else
        some false
    else
      some false
  else
    some false

def names_place_Device (a1 : List Api_Device) (a2 : Int) : Option (Bool) :=
  if (decide (a2 ≥ 0)) = true then
    some (decide (a2 < (a1.length : Int)))
  else
    some false

def names_judge_domain_1 (a1 : Api_Domain) (a2 : Int) (a3 : Int) : Option (Bool) :=
  if (a1.dev == a2) = true then
    some (a1.vlan == a3)
  else
    some false

def slices_IndexFunc_Domain_judge_domain_1_L1 (a1 : List Api_Domain) (a2 : Int) (a3 : Int) (v4 : Int) : Option ((Int) ⊕ (Int ⊕ Unit)) :=
  if (decide (v4 < (a1.length : Int))) = true then
    (nth a1 v4).bind fun x6 =>
    (names_judge_domain_1 x6 a2 a3).bind fun r8 =>
    if (r8) = true then
      some (Sum.inr (Sum.inl v4))
    else
      some (Sum.inl (wr_i64 (v4 + 1)))
  else
    some (Sum.inr (Sum.inr ()))

def slices_IndexFunc_Domain_judge_domain_1 (a1 : List Api_Domain) (a2 : Int) (a3 : Int) : Option (Int) :=
  (loopM (slices_IndexFunc_Domain_judge_domain_1_L1 a1 a2 a3) 0).bind fun r14 => match r14 with
  | Sum.inl v12 =>
    some v12
  | Sum.inr () =>
    some (-1)

def names_judge_domain (a1 : Names_judge) (a2 : Int) (a3 : Int) : Option (Int) :=
  (slices_IndexFunc_Domain_judge_domain_1 a1.n.domains a2 a3).bind fun r4 =>
  some r4

def names_place_Irb (a1 : List Api_Irb) (a2 : Int) : Option (Bool) :=
  if (decide (a2 ≥ 0)) = true then
    some (decide (a2 < (a1.length : Int)))
  else
    some false

def names_judge_bare (a1 : Names_judge) (a2 : Int) (a3 : Api_Domain) : Option (Bool) :=
  (names_place_Device a1.n.devices a3.dev).bind fun r4 =>
  if (r4) = true then
    if (decide (a3.vlan ≥ 1)) = true then
      if (decide (a3.vlan ≤ 4094)) = true then
        if (decide (a3.vni ≥ 0)) = true then
          if (decide (a3.vni ≤ 16777215)) = true then
            if (a3.irb == (-1)) = true then
              (names_judge_domain a1 a3.dev a3.vlan).bind fun r12 =>
              some (r12 == a2)
            else
              (names_place_Irb a1.n.irbs a3.irb).bind fun r14 =>
              if (r14) = true then
                (nth a1.n.irbs a3.irb).bind fun x17 =>
                if (x17.domain == a2) = true then
                  (names_judge_domain a1 a3.dev a3.vlan).bind fun r20 =>
                  some (r20 == a2)
                else
                  some false
              else
                some false
          else
            some false
        else
          some false
      else
        some false
    else
      some false
  else
    some false

def names_all_Domain_judge_bare_L1 (a1 : List Api_Domain) (a2 : Names_judge) (v3 : Int) : Option ((Int) ⊕ (Unit ⊕ Unit)) :=
  if (decide (v3 < (a1.length : Int))) = true then
    (nth a1 v3).bind fun x5 =>
    (names_judge_bare a2 v3 x5).bind fun r7 =>
    if (!r7) = true then
      some (Sum.inr (Sum.inl ()))
    else
      some (Sum.inl (wr_i64 (v3 + 1)))
  else
    some (Sum.inr (Sum.inr ()))

def names_all_Domain_judge_bare (a1 : List Api_Domain) (a2 : Names_judge) : Option (Bool) :=
  (loopM (names_all_Domain_judge_bare_L1 a1 a2) 0).bind fun r11 => match r11 with
  | Sum.inl () =>
    some false
  | Sum.inr () =>
    some true

def names_place_Domain (a1 : List Api_Domain) (a2 : Int) : Option (Bool) :=
  if (decide (a2 ≥ 0)) = true then
    some (decide (a2 < (a1.length : Int)))
  else
    some false

def names_judge_vtep (a1 : Names_judge) (a2 : Api_Domain) : Option (Bool) :=
  (nth a1.n.devices a2.dev).bind fun x3 =>
  some (x3.vtep != 0)

def slices_Index_int_L1 (a1 : List Int) (a2 : Int) (v3 : Int) : Option ((Int) ⊕ (Int ⊕ Unit)) :=
  if (decide (v3 < (a1.length : Int))) = true then
    (nth a1 v3).bind fun x5 =>
    if (a2 == x5) = true then
      some (Sum.inr (Sum.inl v3))
    else
      some (Sum.inl (wr_i64 (v3 + 1)))
  else
    some (Sum.inr (Sum.inr ()))

def slices_Index_int (a1 : List Int) (a2 : Int) : Option (Int) :=
  (loopM (slices_Index_int_L1 a1 a2) 0).bind fun r11 => match r11 with
  | Sum.inl v9 =>
    some v9
  | Sum.inr () =>
    some (-1)

def slices_Contains_int (a1 : List Int) (a2 : Int) : Option (Bool) :=
  (slices_Index_int a1 a2).bind fun r3 =>
  some (decide (r3 ≥ 0))

def names_judge_peer (a1 : Names_judge) (a2 : Int) (a3 : Api_Domain) (a4 : Int) : Option (Bool) :=
  (names_place_Domain a1.n.domains a4).bind fun r5 =>
  if (!r5) = true then
    some false
  else
    if (a4 == a2) = true then
      some false
    else
      (nth a1.n.domains a4).bind fun x9 =>
      (names_place_Device a1.n.devices x9.dev).bind fun r11 =>
      if (r11) = true then
        if (x9.dev != a3.dev) = true then
          if (x9.vni == a3.vni) = true then
            if (a3.vni != 0) = true then
              (names_judge_vtep a1 x9).bind fun r17 =>
              if (r17) = true then
                (names_judge_vtep a1 a3).bind fun r20 =>
                if (r20) = true then
                  (slices_Contains_int x9.peers a2).bind fun r23 =>
                  some r23
                else
                  some false
              else
                some false
            else
              some false
          else
            some false
        else
          some false
      else
        some false

def names_judge_peers_1 (a1 : Int) (a2 : Int) (a3 : Names_judge) (a4 : Int) (a5 : Api_Domain) : Option (Bool) :=
  (names_judge_peer a3 a4 a5 a2).bind fun r6 =>
  if (r6) = true then
    (slices_Index_int a5.peers a2).bind fun r9 =>
    some (r9 == a1)
  else
    some false

def names_all_int_judge_peers_1_L1 (a1 : List Int) (a2 : Names_judge) (a3 : Int) (a4 : Api_Domain) (v5 : Int) : Option ((Int) ⊕ (Unit ⊕ Unit)) :=
  if (decide (v5 < (a1.length : Int))) = true then
    (nth a1 v5).bind fun x7 =>
    (names_judge_peers_1 v5 x7 a2 a3 a4).bind fun r9 =>
    if (!r9) = true then
      some (Sum.inr (Sum.inl ()))
    else
      some (Sum.inl (wr_i64 (v5 + 1)))
  else
    some (Sum.inr (Sum.inr ()))

def names_all_int_judge_peers_1 (a1 : List Int) (a2 : Names_judge) (a3 : Int) (a4 : Api_Domain) : Option (Bool) :=
  (loopM (names_all_int_judge_peers_1_L1 a1 a2 a3 a4) 0).bind fun r13 => match r13 with
  | Sum.inl () =>
    some false
  | Sum.inr () =>
    some true

def names_judge_peers (a1 : Names_judge) (a2 : Int) (a3 : Api_Domain) : Option (Bool) :=
  (names_all_int_judge_peers_1 a3.peers a1 a2 a3).bind fun r4 =>
  some r4

def names_all_Domain_judge_peers_L1 (a1 : List Api_Domain) (a2 : Names_judge) (v3 : Int) : Option ((Int) ⊕ (Unit ⊕ Unit)) :=
  if (decide (v3 < (a1.length : Int))) = true then
    (nth a1 v3).bind fun x5 =>
    (names_judge_peers a2 v3 x5).bind fun r7 =>
    if (!r7) = true then
      some (Sum.inr (Sum.inl ()))
    else
      some (Sum.inl (wr_i64 (v3 + 1)))
  else
    some (Sum.inr (Sum.inr ()))

def names_all_Domain_judge_peers (a1 : List Api_Domain) (a2 : Names_judge) : Option (Bool) :=
  (loopM (names_all_Domain_judge_peers_L1 a1 a2) 0).bind fun r11 => match r11 with
  | Sum.inl () =>
    some false
  | Sum.inr () =>
    some true

def num_Rising_L1 (a1 : List Int) (a2 : Int) (a3 : Int) (v4 : Int) : Option ((Int) ⊕ (Unit ⊕ Unit)) :=
  if (decide (v4 < (a1.length : Int))) = true then
    (nth a1 v4).bind fun x6 =>
    if (decide (x6 < a2)) = true then
      some (Sum.inr (Sum.inl ()))
    else
      if (decide (x6 > a3)) = true then
        some (Sum.inr (Sum.inl ()))
      else
        if (decide (v4 > 0)) = true then
          (nth a1 (wr_i64 (v4 - 1))).bind fun x11 =>
          if (decide (x11 ≥ x6)) = true then
            some (Sum.inr (Sum.inl ()))
          else
            some (Sum.inl (wr_i64 (v4 + 1)))
        else
          some (Sum.inl (wr_i64 (v4 + 1)))
  else
    some (Sum.inr (Sum.inr ()))

def num_Rising (a1 : List Int) (a2 : Int) (a3 : Int) : Option (Bool) :=
  (loopM (num_Rising_L1 a1 a2 a3) 0).bind fun r15 => match r15 with
  | Sum.inl () =>
    some false
  | Sum.inr () =>
    if (decide ((a1.length : Int) > 0)) = true then
      some (decide ((a1.length : Int) ≤ 16))
    else
      some false

def names_rising (a1 : List Int) (a2 : Int) : Option (Bool) :=
  if ((a1.length : Int) == 0) = true then
    some true
  else
    (num_Rising a1 1 a2).bind fun r4 =>
    some r4

def names_place_Link (a1 : List Api_Link) (a2 : Int) : Option (Bool) :=
  if (decide (a2 ≥ 0)) = true then
    some (decide (a2 < (a1.length : Int)))
  else
    some false

def names_judge_port_J1 (a1 : Names_judge) (a2 : Int) (a3 : Api_Port) : Option (Unit ⊕ Unit) :=
  (names_place_Device a1.n.devices a3.dev).bind fun r4 =>
  if (!r4) = true then
    some (Sum.inl ())
  else
    if (decide (a3.native < 0)) = true then
      some (Sum.inl ())
    else
      if (decide (a3.native > 4094)) = true then
        some (Sum.inl ())
      else
        (names_rising a3.tagged 4094).bind fun r9 =>
        if (!r9) = true then
          some (Sum.inl ())
        else
          (slices_Contains_int a3.tagged a3.native).bind fun r12 =>
          if (r12) = true then
            some (Sum.inl ())
          else
            if (a3.native == 0) = true then
              if ((a3.tagged.length : Int) == 0) = true then
                some (Sum.inl ())
              else
                some (Sum.inr ())
            else
              some (Sum.inr ())

def names_judge_port_L2 (a1 : Names_judge) (a2 : Int) (a3 : Api_Port) (v19 : Int) : Option ((Int) ⊕ (Unit ⊕ Unit)) :=
  if (decide (v19 < (a3.tagged.length : Int))) = true then
    (nth a3.tagged v19).bind fun x21 =>
    (names_judge_domain a1 a3.dev x21).bind fun r23 =>
    if (decide (r23 < 0)) = true then
      some (Sum.inr (Sum.inl ()))
    else
      some (Sum.inl (wr_i64 (v19 + 1)))
  else
    some (Sum.inr (Sum.inr ()))

def names_judge_port_J3 (a1 : Names_judge) (a2 : Int) (a3 : Api_Port) : Option (Unit ⊕ Unit) :=
  if (decide (a3.native > 0)) = true then
    (names_judge_domain a1 a3.dev a3.native).bind fun r29 =>
    if (decide (r29 < 0)) = true then
      some (Sum.inl ())
    else
      some (Sum.inr ())
  else
    some (Sum.inr ())

def names_judge_port (a1 : Names_judge) (a2 : Int) (a3 : Api_Port) : Option (Bool) :=
  (names_judge_port_J1 a1 a2 a3).bind fun r18 => match r18 with
  | Sum.inl () =>
    some false
  | Sum.inr () =>
    (loopM (names_judge_port_L2 a1 a2 a3) 0).bind fun r27 => match r27 with
    | Sum.inl () =>
      some false
    | Sum.inr () =>
      (names_judge_port_J3 a1 a2 a3).bind fun r33 => match r33 with
      | Sum.inl () =>
        some false
      | Sum.inr () =>
        if (a3.link == (-1)) = true then
          some true
        else
          (names_place_Link a1.n.links a3.link).bind fun r35 =>
          if (r35) = true then
            (nth a1.n.links a3.link).bind fun x38 =>
            if (x38.a == a2) = true then
              some true
            else
              (nth a1.n.links a3.link).bind fun x41 =>
              some (x41.b == a2)
          else
            some false

def names_all_Port_judge_port_L1 (a1 : List Api_Port) (a2 : Names_judge) (v3 : Int) : Option ((Int) ⊕ (Unit ⊕ Unit)) :=
  if (decide (v3 < (a1.length : Int))) = true then
    (nth a1 v3).bind fun x5 =>
    (names_judge_port a2 v3 x5).bind fun r7 =>
    if (!r7) = true then
      some (Sum.inr (Sum.inl ()))
    else
      some (Sum.inl (wr_i64 (v3 + 1)))
  else
    some (Sum.inr (Sum.inr ()))

def names_all_Port_judge_port (a1 : List Api_Port) (a2 : Names_judge) : Option (Bool) :=
  (loopM (names_all_Port_judge_port_L1 a1 a2) 0).bind fun r11 => match r11 with
  | Sum.inl () =>
    some false
  | Sum.inr () =>
    some true

def names_place_Port (a1 : List Api_Port) (a2 : Int) : Option (Bool) :=
  if (decide (a2 ≥ 0)) = true then
    some (decide (a2 < (a1.length : Int)))
  else
    some false

def names_judge_link (a1 : Names_judge) (a2 : Int) (a3 : Api_Link) : Option (Bool) :=
  (names_place_Port a1.n.ports a3.a).bind fun r4 =>
  if (!r4) = true then
    some false
  else
    (names_place_Port a1.n.ports a3.b).bind fun r7 =>
    if (!r7) = true then
      some false
    else
      (nth a1.n.ports a3.a).bind fun x10 =>
      (nth a1.n.ports a3.b).bind fun x12 =>
      if (x10.dev != x12.dev) = true then
        if (x10.link == a2) = true then
          some (x12.link == a2)
        else
          some false
      else
        some false

def names_all_Link_judge_link_L1 (a1 : List Api_Link) (a2 : Names_judge) (v3 : Int) : Option ((Int) ⊕ (Unit ⊕ Unit)) :=
  if (decide (v3 < (a1.length : Int))) = true then
    (nth a1 v3).bind fun x5 =>
    (names_judge_link a2 v3 x5).bind fun r7 =>
    if (!r7) = true then
      some (Sum.inr (Sum.inl ()))
    else
      some (Sum.inl (wr_i64 (v3 + 1)))
  else
    some (Sum.inr (Sum.inr ()))

def names_all_Link_judge_link (a1 : List Api_Link) (a2 : Names_judge) : Option (Bool) :=
  (loopM (names_all_Link_judge_link_L1 a1 a2) 0).bind fun r11 => match r11 with
  | Sum.inl () =>
    some false
  | Sum.inr () =>
    some true

def names_Member (a1 : Api_Port) (a2 : Int) : Option (Bool) :=
  if (a2 != 0) = true then
    if (a2 == a1.native) = true then
      some true
    else
      (slices_Contains_int a1.tagged a2).bind fun r5 =>
      some r5
  else
    some false

def names_judge_static (a1 : Names_judge) (a2 : Int) (a3 : Api_Static) : Option (Bool) :=
  (names_place_Domain a1.n.domains a3.domain).bind fun r4 =>
  if (!r4) = true then
    some false
  else
    (names_place_Port a1.n.ports a3.port).bind fun r7 =>
    if (!r7) = true then
      some false
    else
      (nth a1.n.ports a3.port).bind fun x10 =>
      (nth a1.n.domains a3.domain).bind fun x12 =>
      if (x10.dev == x12.dev) = true then
        (names_Member x10 x12.vlan).bind fun r15 =>
        some r15
      else
        some false

def names_all_Static_judge_static_L1 (a1 : List Api_Static) (a2 : Names_judge) (v3 : Int) : Option ((Int) ⊕ (Unit ⊕ Unit)) :=
  if (decide (v3 < (a1.length : Int))) = true then
    (nth a1 v3).bind fun x5 =>
    (names_judge_static a2 v3 x5).bind fun r7 =>
    if (!r7) = true then
      some (Sum.inr (Sum.inl ()))
    else
      some (Sum.inl (wr_i64 (v3 + 1)))
  else
    some (Sum.inr (Sum.inr ()))

def names_all_Static_judge_static (a1 : List Api_Static) (a2 : Names_judge) : Option (Bool) :=
  (loopM (names_all_Static_judge_static_L1 a1 a2) 0).bind fun r11 => match r11 with
  | Sum.inl () =>
    some false
  | Sum.inr () =>
    some true

def names_Right_1 (a1 : Int) (a2 : Api_Flood) (a3 : Api_Net) : Option (Bool) :=
  (names_place_Device a3.devices a2.dev).bind fun r4 =>
  if (r4) = true then
    some (decide ((a2.addrs.length : Int) ≤ 16))
  else
    some false

def names_all_Flood_Right_1_L1 (a1 : List Api_Flood) (a2 : Api_Net) (v3 : Int) : Option ((Int) ⊕ (Unit ⊕ Unit)) :=
  if (decide (v3 < (a1.length : Int))) = true then
    (nth a1 v3).bind fun x5 =>
    (names_Right_1 v3 x5 a2).bind fun r7 =>
    if (!r7) = true then
      some (Sum.inr (Sum.inl ()))
    else
      some (Sum.inl (wr_i64 (v3 + 1)))
  else
    some (Sum.inr (Sum.inr ()))

def names_all_Flood_Right_1 (a1 : List Api_Flood) (a2 : Api_Net) : Option (Bool) :=
  (loopM (names_all_Flood_Right_1_L1 a1 a2) 0).bind fun r11 => match r11 with
  | Sum.inl () =>
    some false
  | Sum.inr () =>
    some true

def names_Right_2 (a1 : Int) (a2 : Api_Vrf) (a3 : Api_Net) : Option (Bool) :=
  (names_place_Device a3.devices a2.dev).bind fun r4 =>
  if (r4) = true then
    (names_rising a2.imports 65535).bind fun r7 =>
    if (r7) = true then
      (names_rising a2.exports 65535).bind fun r10 =>
      some r10
    else
      some false
  else
    some false

def names_all_Vrf_Right_2_L1 (a1 : List Api_Vrf) (a2 : Api_Net) (v3 : Int) : Option ((Int) ⊕ (Unit ⊕ Unit)) :=
  if (decide (v3 < (a1.length : Int))) = true then
    (nth a1 v3).bind fun x5 =>
    (names_Right_2 v3 x5 a2).bind fun r7 =>
    if (!r7) = true then
      some (Sum.inr (Sum.inl ()))
    else
      some (Sum.inl (wr_i64 (v3 + 1)))
  else
    some (Sum.inr (Sum.inr ()))

def names_all_Vrf_Right_2 (a1 : List Api_Vrf) (a2 : Api_Net) : Option (Bool) :=
  (loopM (names_all_Vrf_Right_2_L1 a1 a2) 0).bind fun r11 => match r11 with
  | Sum.inl () =>
    some false
  | Sum.inr () =>
    some true

def names_place_Vrf (a1 : List Api_Vrf) (a2 : Int) : Option (Bool) :=
  if (decide (a2 ≥ 0)) = true then
    some (decide (a2 < (a1.length : Int)))
  else
    some false

def names_judge_irb (a1 : Names_judge) (a2 : Int) (a3 : Api_Irb) : Option (Bool) :=
  (names_place_Domain a1.n.domains a3.domain).bind fun r4 =>
  if (r4) = true then
    (names_place_Vrf a1.n.vrfs a3.vrf).bind fun r7 =>
    if (r7) = true then
      (nth a1.n.domains a3.domain).bind fun x10 =>
      (nth a1.n.vrfs a3.vrf).bind fun x12 =>
      if (x10.dev == x12.dev) = true then
        (nth a1.n.domains a3.domain).bind fun x15 =>
        if (x15.irb == a2) = true then
          if (decide (a3.net.bits ≥ 1)) = true then
            some (decide (a3.net.bits ≤ 30))
          else
            some false
        else
          some false
      else
        some false
    else
      some false
  else
    some false

def names_all_Irb_judge_irb_L1 (a1 : List Api_Irb) (a2 : Names_judge) (v3 : Int) : Option ((Int) ⊕ (Unit ⊕ Unit)) :=
  if (decide (v3 < (a1.length : Int))) = true then
    (nth a1 v3).bind fun x5 =>
    (names_judge_irb a2 v3 x5).bind fun r7 =>
    if (!r7) = true then
      some (Sum.inr (Sum.inl ()))
    else
      some (Sum.inl (wr_i64 (v3 + 1)))
  else
    some (Sum.inr (Sum.inr ()))

def names_all_Irb_judge_irb (a1 : List Api_Irb) (a2 : Names_judge) : Option (Bool) :=
  (loopM (names_all_Irb_judge_irb_L1 a1 a2) 0).bind fun r11 => match r11 with
  | Sum.inl () =>
    some false
  | Sum.inr () =>
    some true

def names_Right (a1 : Api_Net) : Option (Bool) :=
  (names_judge_few (⟨a1⟩ : Names_judge)).bind fun r2 =>
  if (r2) = true then
    (names_all_Domain_judge_bare a1.domains (⟨a1⟩ : Names_judge)).bind fun r5 =>
    if (r5) = true then
      (names_all_Domain_judge_peers a1.domains (⟨a1⟩ : Names_judge)).bind fun r8 =>
      if (r8) = true then
        (names_all_Port_judge_port a1.ports (⟨a1⟩ : Names_judge)).bind fun r11 =>
        if (r11) = true then
          (names_all_Link_judge_link a1.links (⟨a1⟩ : Names_judge)).bind fun r14 =>
          if (r14) = true then
            (names_all_Static_judge_static a1.statics (⟨a1⟩ : Names_judge)).bind fun r17 =>
            if (r17) = true then
              (names_all_Flood_Right_1 a1.floods a1).bind fun r20 =>
              if (r20) = true then
                (names_all_Vrf_Right_2 a1.vrfs a1).bind fun r23 =>
                if (r23) = true then
                  (names_all_Irb_judge_irb a1.irbs (⟨a1⟩ : Names_judge)).bind fun r26 =>
                  some r26
                else
                  some false
              else
                some false
            else
              some false
          else
            some false
        else
          some false
      else
        some false
    else
      some false
  else
    some false

def math_bits_Mul64 (a1 : Int) (a2 : Int) : Option (Int × Int) :=
  some (wr_u64 ((wr_u64 ((wr_u64 ((Int.fdiv a1 (2 ^ 32)) * (Int.fdiv a2 (2 ^ 32)))) + (Int.fdiv (wr_u64 ((wr_u64 ((Int.fdiv a1 (2 ^ 32)) * (bits_and .u64 a2 4294967295))) + (Int.fdiv (wr_u64 ((bits_and .u64 a1 4294967295) * (bits_and .u64 a2 4294967295))) (2 ^ 32)))) (2 ^ 32)))) + (Int.fdiv (wr_u64 ((bits_and .u64 (wr_u64 ((wr_u64 ((Int.fdiv a1 (2 ^ 32)) * (bits_and .u64 a2 4294967295))) + (Int.fdiv (wr_u64 ((bits_and .u64 a1 4294967295) * (bits_and .u64 a2 4294967295))) (2 ^ 32)))) 4294967295) + (wr_u64 ((bits_and .u64 a1 4294967295) * (Int.fdiv a2 (2 ^ 32)))))) (2 ^ 32))), wr_u64 (a1 * a2))

def math_bits_Mul (a1 : Int) (a2 : Int) : Option (Int × Int) :=
  (math_bits_Mul64 a1 a2).bind fun r3 =>
  some (r3.1, r3.2)

def slices_Repeat_int_L1 (r4 : Int × Int) (l9 : List Int) (v10 : Int) : Option (((List Int) × Int) ⊕ ((List Int))) :=
  if (decide (v10 < ((Int.toNat (wr_i64 r4.2)) : Int))) = true then
    if (slok (List.length l9) v10 ((List.length l9) : Int)) = true then
      if (slok (List.length l9) 0 v10) = true then
        some (Sum.inl (List.take (Int.toNat v10) l9 ++ (List.take (min (List.length (List.drop (Int.toNat 0) (List.take (Int.toNat v10) l9))) ((Int.toNat ((List.length l9) : Int)) - (Int.toNat v10))) (List.drop (Int.toNat 0) (List.take (Int.toNat v10) l9)) ++ List.drop ((Int.toNat v10) + (min (List.length (List.drop (Int.toNat 0) (List.take (Int.toNat v10) l9))) ((Int.toNat ((List.length l9) : Int)) - (Int.toNat v10)))) l9), wr_i64 (v10 + (((min (List.length (List.drop (Int.toNat 0) (List.take (Int.toNat v10) l9))) ((Int.toNat ((List.length l9) : Int)) - (Int.toNat v10))) : Nat) : Int))))
      else
        none
    else
      none
  else
    some (Sum.inr l9)

def slices_Repeat_int (a1 : List Int) (a2 : Int) : Option (((List Int) × Nat)) :=
  if (decide (a2 < 0)) = true then
    none
  else
    (math_bits_Mul (wr_u64 (a1.length : Int)) (wr_u64 a2)).bind fun r4 =>
    if (decide (r4.1 > 0)) = true then
      none
    else
      if (decide (r4.2 > 9223372036854775807)) = true then
        none
      else
        if (mkok 8 (wr_i64 r4.2) (wr_i64 r4.2)) = true then
          (loopM (fun s : (List Int) × Int => match s with | (l9, v10) => slices_Repeat_int_L1 r4 l9 v10) (List.take 0 (List.replicate (Int.toNat (wr_i64 r4.2)) (0 : Int)) ++ (List.take (min (List.length a1) ((List.length (List.replicate (Int.toNat (wr_i64 r4.2)) (0 : Int))) - 0)) a1 ++ List.drop (0 + (min (List.length a1) ((List.length (List.replicate (Int.toNat (wr_i64 r4.2)) (0 : Int))) - 0))) (List.replicate (Int.toNat (wr_i64 r4.2)) (0 : Int))), (((min (List.length a1) ((List.length (List.replicate (Int.toNat (wr_i64 r4.2)) (0 : Int))) - 0)) : Nat) : Int))).bind fun r18 => match r18 with
          | l16 =>
            some (l16, (Int.toNat (wr_i64 r4.2)))
        else
          none

def num_Name_L1 (a1 : ByteArray) (v2 : Int) : Option ((Int) ⊕ (Unit ⊕ Unit)) :=
  if (decide (v2 < (a1.size : Int))) = true then
    if (decide (0 ≤ (v2 : Int) ∧ (v2 : Int) < (a1.size : Int))) = true then
      if (decide ((byteAt a1 v2) ≥ 97)) = true then
        if (decide ((byteAt a1 v2) ≥ 48)) = true then
          if (!(decide ((byteAt a1 v2) ≤ 122))) = true then
            if (!(decide ((byteAt a1 v2) ≤ 57))) = true then
              some (Sum.inr (Sum.inl ()))
            else
              if (v2 == 0) = true then
                some (Sum.inr (Sum.inl ()))
              else
                some (Sum.inl (wr_i64 (v2 + 1)))
          else
            some (Sum.inl (wr_i64 (v2 + 1)))
        else
          if (!(decide ((byteAt a1 v2) ≤ 122))) = true then
            some (Sum.inr (Sum.inl ()))
          else
            some (Sum.inl (wr_i64 (v2 + 1)))
      else
        if (decide ((byteAt a1 v2) ≥ 48)) = true then
          if (!(decide ((byteAt a1 v2) ≤ 57))) = true then
            some (Sum.inr (Sum.inl ()))
          else
            if (v2 == 0) = true then
              some (Sum.inr (Sum.inl ()))
            else
              some (Sum.inl (wr_i64 (v2 + 1)))
        else
          some (Sum.inr (Sum.inl ()))
    else
      none
  else
    some (Sum.inr (Sum.inr ()))

def num_Name (a1 : ByteArray) : Option (Bool) :=
  (loopM (num_Name_L1 a1) 0).bind fun r15 => match r15 with
  | Sum.inl () =>
    some false
  | Sum.inr () =>
    if (decide ((a1.size : Int) > 0)) = true then
      some (decide ((a1.size : Int) ≤ 12))
    else
      some false

def policy_Right_1 (a1 : ByteArray) : Option (Bool) :=
  (num_Name a1).bind fun r2 =>
  some (!r2)

def slices_IndexFunc_string_Right_1_L1 (a1 : List ByteArray) (v2 : Int) : Option ((Int) ⊕ (Int ⊕ Unit)) :=
  if (decide (v2 < (a1.length : Int))) = true then
    (nth a1 v2).bind fun x4 =>
    (policy_Right_1 x4).bind fun r6 =>
    if (r6) = true then
      some (Sum.inr (Sum.inl v2))
    else
      some (Sum.inl (wr_i64 (v2 + 1)))
  else
    some (Sum.inr (Sum.inr ()))

def slices_IndexFunc_string_Right_1 (a1 : List ByteArray) : Option (Int) :=
  (loopM (slices_IndexFunc_string_Right_1_L1 a1) 0).bind fun r12 => match r12 with
  | Sum.inl v10 =>
    some v10
  | Sum.inr () =>
    some (-1)

def slices_ContainsFunc_string_Right_1 (a1 : List ByteArray) : Option (Bool) :=
  (slices_IndexFunc_string_Right_1 a1).bind fun r2 =>
  some (decide (r2 ≥ 0))

def policy_Right (a1 : Api_Tenant) : Option (Bool) :=
  (num_Name a1.name).bind fun r2 =>
  if (r2) = true then
    if ((a1.devs.length : Int) == (a1.ports.length : Int)) = true then
      if (decide ((a1.devs.length : Int) > 0)) = true then
        if (decide ((a1.devs.length : Int) ≤ 16)) = true then
          (slices_ContainsFunc_string_Right_1 a1.devs).bind fun r8 =>
          if (!r8) = true then
            (slices_ContainsFunc_string_Right_1 a1.ports).bind fun r11 =>
            some (!r11)
          else
            some false
        else
          some false
      else
        some false
    else
      some false
  else
    some false

def owners_Assign_1 (a1 : Api_Tenant) (a2 : Api_Tenant) : Option (Bool) :=
  some (seqB a1.name a2.name)

def slices_IndexFunc_Tenant_Assign_1_L1 (a1 : List Api_Tenant) (a2 : Api_Tenant) (v3 : Int) : Option ((Int) ⊕ (Int ⊕ Unit)) :=
  if (decide (v3 < (a1.length : Int))) = true then
    (nth a1 v3).bind fun x5 =>
    (owners_Assign_1 x5 a2).bind fun r7 =>
    if (r7) = true then
      some (Sum.inr (Sum.inl v3))
    else
      some (Sum.inl (wr_i64 (v3 + 1)))
  else
    some (Sum.inr (Sum.inr ()))

def slices_IndexFunc_Tenant_Assign_1 (a1 : List Api_Tenant) (a2 : Api_Tenant) : Option (Int) :=
  (loopM (slices_IndexFunc_Tenant_Assign_1_L1 a1 a2) 0).bind fun r13 => match r13 with
  | Sum.inl v11 =>
    some v11
  | Sum.inr () =>
    some (-1)

def slices_ContainsFunc_Tenant_Assign_1 (a1 : List Api_Tenant) (a2 : Api_Tenant) : Option (Bool) :=
  (slices_IndexFunc_Tenant_Assign_1 a1 a2).bind fun r3 =>
  some (decide (r3 ≥ 0))

def names_Device_1 (a1 : Api_Device) (a2 : ByteArray) : Option (Bool) :=
  some (seqB a1.name a2)

def slices_IndexFunc_Device_Device_1_L1 (a1 : List Api_Device) (a2 : ByteArray) (v3 : Int) : Option ((Int) ⊕ (Int ⊕ Unit)) :=
  if (decide (v3 < (a1.length : Int))) = true then
    (nth a1 v3).bind fun x5 =>
    (names_Device_1 x5 a2).bind fun r7 =>
    if (r7) = true then
      some (Sum.inr (Sum.inl v3))
    else
      some (Sum.inl (wr_i64 (v3 + 1)))
  else
    some (Sum.inr (Sum.inr ()))

def slices_IndexFunc_Device_Device_1 (a1 : List Api_Device) (a2 : ByteArray) : Option (Int) :=
  (loopM (slices_IndexFunc_Device_Device_1_L1 a1 a2) 0).bind fun r13 => match r13 with
  | Sum.inl v11 =>
    some v11
  | Sum.inr () =>
    some (-1)

def names_find_Device_Device_1 (a1 : Api_Net) (a2 : List Api_Device) (a3 : ByteArray) : Option (Int) :=
  (names_Right a1).bind fun r4 =>
  if (!r4) = true then
    some (-1)
  else
    (slices_IndexFunc_Device_Device_1 a2 a3).bind fun r7 =>
    some r7

def names_Device (a1 : Api_Net) (a2 : ByteArray) : Option (Int) :=
  (names_find_Device_Device_1 a1 a1.devices a2).bind fun r3 =>
  some r3

def names_Port_1 (a1 : Api_Port) (a2 : Int) (a3 : ByteArray) : Option (Bool) :=
  if (a1.dev == a2) = true then
    some (seqB a1.name a3)
  else
    some false

def slices_IndexFunc_Port_Port_1_L1 (a1 : List Api_Port) (a2 : Int) (a3 : ByteArray) (v4 : Int) : Option ((Int) ⊕ (Int ⊕ Unit)) :=
  if (decide (v4 < (a1.length : Int))) = true then
    (nth a1 v4).bind fun x6 =>
    (names_Port_1 x6 a2 a3).bind fun r8 =>
    if (r8) = true then
      some (Sum.inr (Sum.inl v4))
    else
      some (Sum.inl (wr_i64 (v4 + 1)))
  else
    some (Sum.inr (Sum.inr ()))

def slices_IndexFunc_Port_Port_1 (a1 : List Api_Port) (a2 : Int) (a3 : ByteArray) : Option (Int) :=
  (loopM (slices_IndexFunc_Port_Port_1_L1 a1 a2 a3) 0).bind fun r14 => match r14 with
  | Sum.inl v12 =>
    some v12
  | Sum.inr () =>
    some (-1)

def names_find_Port_Port_1 (a1 : Api_Net) (a2 : List Api_Port) (a3 : Int) (a4 : ByteArray) : Option (Int) :=
  (names_Right a1).bind fun r5 =>
  if (!r5) = true then
    some (-1)
  else
    (slices_IndexFunc_Port_Port_1 a2 a3 a4).bind fun r8 =>
    some r8

def names_Port (a1 : Api_Net) (a2 : Int) (a3 : ByteArray) : Option (Int) :=
  (names_find_Port_Port_1 a1 a1.ports a2 a3).bind fun r4 =>
  some r4

def owners_claim_own_L1 (a1 : Api_Net) (n3 : Nat) (a4 : Int) (a5 : Api_Tenant) (l6 : List Int) (v7 : Int) : Option (((List Int) × Int) ⊕ (((List Int) × Int) ⊕ (List Int))) :=
  if (decide (v7 < (a5.devs.length : Int))) = true then
    (nth a5.devs v7).bind fun x9 =>
    (names_Device a1 x9).bind fun r11 =>
    (nth a5.ports v7).bind fun x13 =>
    (names_Port a1 r11 x13).bind fun r15 =>
    if (decide (r15 < 0)) = true then
      some (Sum.inr (Sum.inl (l6, 31)))
    else
      (nth a1.ports r15).bind fun x18 =>
      if (decide (x18.link ≥ 0)) = true then
        some (Sum.inr (Sum.inl (l6, 39)))
      else
        if (lin l6 r15) = true then
          (l6[(Int.toNat r15)]?).bind fun x22 =>
          if (x22 != (-1)) = true then
            some (Sum.inr (Sum.inl (l6, 39)))
          else
            (l6[(Int.toNat r15)]?).bind fun x25 =>
            some (Sum.inl (List.set l6 (Int.toNat r15) a4, wr_i64 (v7 + 1)))
        else
          none
  else
    some (Sum.inr (Sum.inr l6))

def owners_claim_own (a1 : Api_Net) (a2 : List Int) (n3 : Nat) (a4 : Int) (a5 : Api_Tenant) : Option (((List Int) × Int)) :=
  (loopM (fun s : (List Int) × Int => match s with | (l6, v7) => owners_claim_own_L1 a1 n3 a4 a5 l6 v7) (a2, 0)).bind fun r34 => match r34 with
  | Sum.inl (l29, v30) =>
    some (l29, v30)
  | Sum.inr l32 =>
    some (l32, 0)

def owners_Assign_J2 (a1 : Api_Net) (a2 : List Api_Tenant) (n9 : Nat) (l10 : List Int) (v11 : Int) (x13 : Api_Tenant) : Option (Bool) :=
  (policy_Right x13).bind fun r15 =>
  if (!r15) = true then
    some true
  else
    some (decide (v11 ≥ 10))

def owners_Assign_L1 (a1 : Api_Net) (a2 : List Api_Tenant) (n9 : Nat) (l10 : List Int) (v11 : Int) : Option (((List Int) × Int) ⊕ ((Int × Int) ⊕ (List Int))) :=
  if (decide (v11 < (a2.length : Int))) = true then
    (nth a2 v11).bind fun x13 =>
    (owners_Assign_J2 a1 a2 n9 l10 v11 x13).bind fun r21 => match r21 with
    | v19 =>
      if (v19) = true then
        if (2 != 0) = true then
          some (Sum.inr (Sum.inl (x13.row, 2)))
        else
          some (Sum.inl (l10, wr_i64 (v11 + 1)))
      else
        if (slok (List.length a2) 0 v11) = true then
          (slices_ContainsFunc_Tenant_Assign_1 (List.drop (Int.toNat 0) (List.take (Int.toNat v11) a2)) x13).bind fun r25 =>
          if (r25) = true then
            if (30 != 0) = true then
              some (Sum.inr (Sum.inl (x13.row, 30)))
            else
              some (Sum.inl (l10, wr_i64 (v11 + 1)))
          else
            (owners_claim_own a1 l10 n9 v11 x13).bind fun r29 => match r29 with
            | (l31, v32) =>
              if (v32 != 0) = true then
                some (Sum.inr (Sum.inl (x13.row, v32)))
              else
                some (Sum.inl (l31, wr_i64 (v11 + 1)))
        else
          none
  else
    some (Sum.inr (Sum.inr l10))

def owners_Assign_L3 (a1 : Api_Net) (n9 : Nat) (l43 : List Int) (v46 : Int) : Option ((Int) ⊕ (Int)) :=
  if (decide (v46 < (a1.ports.length : Int))) = true then
    (nth a1.ports v46).bind fun x48 =>
    if (decide (x48.link < 0)) = true then
      if (lin l43 v46) = true then
        (l43[(Int.toNat v46)]?).bind fun x52 =>
        if (x52 == (-1)) = true then
          some (Sum.inr v46)
        else
          some (Sum.inl (wr_i64 (v46 + 1)))
      else
        none
    else
      some (Sum.inl (wr_i64 (v46 + 1)))
  else
    some (Sum.inr v46)

def owners_Assign (a1 : Api_Net) (a2 : List Api_Tenant) : Option (((List Int) × Int × Int × Int)) :=
  (names_Right a1).bind fun r3 =>
  if (!r3) = true then
    some ([], 0, 0, 2)
  else
    (slices_Repeat_int [((-1) : Int)] (a1.ports.length : Int)).bind fun r6 => match r6 with
    | (l8, n9) =>
      (loopM (fun s : (List Int) × Int => match s with | (l10, v11) => owners_Assign_L1 a1 a2 n9 l10 v11) (l8, 0)).bind fun r45 => match r45 with
      | Sum.inl (v36, v37) =>
        some ([], 2, v36, v37)
      | Sum.inr l43 =>
        (loopM (owners_Assign_L3 a1 n9 l43) 0).bind fun r58 => match r58 with
        | v56 =>
          if (decide (v56 < (a1.ports.length : Int))) = true then
            (nth a1.ports v56).bind fun x60 =>
            some ([], 1, x60.row, 39)
          else
            some (l43, 0, 0, 0)

def palinglaw23_works : Option (Bool) :=
  (owners_Assign (⟨[(⟨0, 0, (⟨#[97]⟩ : ByteArray), 0, 0⟩ : Api_Device)], [(⟨0, 0, 10, 0, (-1), (⟨#[112]⟩ : ByteArray), []⟩ : Api_Port)], [], [(⟨0, 10, 0, (-1), 0, []⟩ : Api_Domain)], [], [], [], []⟩ : Api_Net) [(⟨1, (⟨#[120]⟩ : ByteArray), [(⟨#[97]⟩ : ByteArray)], [(⟨#[112]⟩ : ByteArray)]⟩ : Api_Tenant)]).bind fun r1 => match r1 with
  | (r3, r4, r5, r6) =>
    (owners_Assign (⟨[(⟨0, 0, (⟨#[97]⟩ : ByteArray), 0, 0⟩ : Api_Device)], [(⟨0, 0, 10, 0, (-1), (⟨#[112]⟩ : ByteArray), []⟩ : Api_Port)], [], [(⟨0, 10, 0, (-1), 0, []⟩ : Api_Domain)], [], [], [], []⟩ : Api_Net) [(⟨1, (⟨#[120]⟩ : ByteArray), [(⟨#[97]⟩ : ByteArray)], [(⟨#[112]⟩ : ByteArray)]⟩ : Api_Tenant), (⟨2, (⟨#[121]⟩ : ByteArray), [(⟨#[97]⟩ : ByteArray)], [(⟨#[112]⟩ : ByteArray)]⟩ : Api_Tenant)]).bind fun r7 => match r7 with
    | (r9, r10, r11, r12) =>
      if (r6 == 0) = true then
        if (r4 == 0) = true then
          if ((r3.length : Int) == 1) = true then
            (nth r3 0).bind fun x16 =>
            if (x16 == 0) = true then
              if (r12 == 39) = true then
                if (r10 == 2) = true then
                  some (r11 == 2)
                else
                  some false
              else
                some false
            else
              some false
          else
            some false
        else
          some false
      else
        some false

def palinglaw14_Great_L2 (a1 : List Api_Tenant) (v3 : Int) (v14 : Int) : Option ((Int) ⊕ (Unit ⊕ Unit)) :=
  (nth a1 v3).bind fun x15 =>
  if (decide (v14 < (x15.devs.length : Int))) = true then
    (nth a1 v3).bind fun x18 =>
    (nth x18.devs v14).bind fun x20 =>
    if (decide ((x20.size : Int) > 300)) = true then
      some (Sum.inr (Sum.inl ()))
    else
      some (Sum.inl (wr_i64 (v14 + 1)))
  else
    some (Sum.inr (Sum.inr ()))

def palinglaw14_Great_L3 (a1 : List Api_Tenant) (v3 : Int) (v25 : Int) : Option ((Int) ⊕ (Unit ⊕ Unit)) :=
  (nth a1 v3).bind fun x26 =>
  if (decide (v25 < (x26.ports.length : Int))) = true then
    (nth a1 v3).bind fun x29 =>
    (nth x29.ports v25).bind fun x31 =>
    if (decide ((x31.size : Int) > 300)) = true then
      some (Sum.inr (Sum.inl ()))
    else
      some (Sum.inl (wr_i64 (v25 + 1)))
  else
    some (Sum.inr (Sum.inr ()))

def palinglaw14_Great_L1 (a1 : List Api_Tenant) (v3 : Int) : Option ((Int) ⊕ (Unit ⊕ Unit)) :=
  if (decide (v3 < (a1.length : Int))) = true then
    (nth a1 v3).bind fun x5 =>
    if (decide ((x5.name.size : Int) > 300)) = true then
      some (Sum.inr (Sum.inl ()))
    else
      (nth a1 v3).bind fun x8 =>
      if (decide ((x8.devs.length : Int) > 40)) = true then
        some (Sum.inr (Sum.inl ()))
      else
        (nth a1 v3).bind fun x11 =>
        if (decide ((x11.ports.length : Int) > 40)) = true then
          some (Sum.inr (Sum.inl ()))
        else
          (loopM (palinglaw14_Great_L2 a1 v3) 0).bind fun r24 => match r24 with
          | Sum.inl () =>
            some (Sum.inr (Sum.inl ()))
          | Sum.inr () =>
            (loopM (palinglaw14_Great_L3 a1 v3) 0).bind fun r35 => match r35 with
            | Sum.inl () =>
              some (Sum.inr (Sum.inl ()))
            | Sum.inr () =>
              some (Sum.inl (wr_i64 (v3 + 1)))
  else
    some (Sum.inr (Sum.inr ()))

def palinglaw14_Great (a1 : List Api_Tenant) : Option (Bool) :=
  if (decide ((a1.length : Int) > 40)) = true then
    some true
  else
    (loopM (palinglaw14_Great_L1 a1) 0).bind fun r37 => match r37 with
    | Sum.inl () =>
      some true
    | Sum.inr () =>
      some false

def palingref15_Place (a1 : Int) (a2 : Int) : Option (Bool) :=
  if (decide (a1 ≥ 0)) = true then
    some (decide (a1 < a2))
  else
    some false

def palingref15_At_L1 (a1 : Api_Net) (a2 : Int) (a3 : Int) (v4 : Int) : Option ((Int) ⊕ (Int ⊕ Unit)) :=
  if (decide (v4 < (a1.domains.length : Int))) = true then
    (nth a1.domains v4).bind fun x6 =>
    if (x6.dev == a2) = true then
      (nth a1.domains v4).bind fun x9 =>
      if (x9.vlan == a3) = true then
        some (Sum.inr (Sum.inl v4))
      else
        some (Sum.inl (wr_i64 (v4 + 1)))
    else
      some (Sum.inl (wr_i64 (v4 + 1)))
  else
    some (Sum.inr (Sum.inr ()))

def palingref15_At (a1 : Api_Net) (a2 : Int) (a3 : Int) : Option (Int) :=
  (loopM (palingref15_At_L1 a1 a2 a3) 0).bind fun r15 => match r15 with
  | Sum.inl v13 =>
    some v13
  | Sum.inr () =>
    some (-1)

def palingref15_In_L1 (a1 : List Int) (a2 : Int) (v3 : Int) : Option ((Int) ⊕ (Unit ⊕ Unit)) :=
  if (decide (v3 < (a1.length : Int))) = true then
    (nth a1 v3).bind fun x5 =>
    if (x5 == a2) = true then
      some (Sum.inr (Sum.inl ()))
    else
      some (Sum.inl (wr_i64 (v3 + 1)))
  else
    some (Sum.inr (Sum.inr ()))

def palingref15_In (a1 : List Int) (a2 : Int) : Option (Bool) :=
  (loopM (palingref15_In_L1 a1 a2) 0).bind fun r9 => match r9 with
  | Sum.inl () =>
    some true
  | Sum.inr () =>
    some false

def palingref15_peer (a1 : Api_Net) (a2 : Int) (a3 : Int) : Option (Bool) :=
  (palingref15_Place a3 (a1.domains.length : Int)).bind fun r4 =>
  if (!r4) = true then
    some false
  else
    if (a3 == a2) = true then
      some false
    else
      (nth a1.domains a2).bind fun x8 =>
      (nth a1.domains a3).bind fun x10 =>
      if (x8.dev != x10.dev) = true then
        if (x8.vni == x10.vni) = true then
          if (x8.vni != 0) = true then
            (nth a1.devices x8.dev).bind fun x15 =>
            if (x15.vtep != 0) = true then
              (nth a1.devices x10.dev).bind fun x18 =>
              if (x18.vtep != 0) = true then
                (palingref15_In x10.peers a2).bind fun r21 =>
                some r21
              else
                some false
            else
              some false
          else
            some false
        else
          some false
      else
        some false

def palingref15_domains_L1 (a1 : Api_Net) (v2 : Int) : Option ((Int) ⊕ (Unit ⊕ Unit)) :=
  if (decide (v2 < (a1.domains.length : Int))) = true then
    (nth a1.domains v2).bind fun x4 =>
    (palingref15_Place x4.dev (a1.devices.length : Int)).bind fun r6 =>
    if (!r6) = true then
      some (Sum.inr (Sum.inl ()))
    else
      if (decide (x4.vlan < 1)) = true then
        some (Sum.inr (Sum.inl ()))
      else
        if (decide (x4.vlan > 4094)) = true then
          some (Sum.inr (Sum.inl ()))
        else
          if (decide (x4.vni < 0)) = true then
            some (Sum.inr (Sum.inl ()))
          else
            if (decide (x4.vni ≥ 16777216)) = true then
              some (Sum.inr (Sum.inl ()))
            else
              (palingref15_At a1 x4.dev x4.vlan).bind fun r13 =>
              if (r13 != v2) = true then
                some (Sum.inr (Sum.inl ()))
              else
                if (x4.irb != (-1)) = true then
                  (palingref15_Place x4.irb (a1.irbs.length : Int)).bind fun r17 =>
                  if (!r17) = true then
                    some (Sum.inr (Sum.inl ()))
                  else
                    (nth a1.irbs x4.irb).bind fun x20 =>
                    if (x20.domain != v2) = true then
                      some (Sum.inr (Sum.inl ()))
                    else
                      some (Sum.inl (wr_i64 (v2 + 1)))
                else
                  some (Sum.inl (wr_i64 (v2 + 1)))
  else
    some (Sum.inr (Sum.inr ()))

def palingref15_domains_L3 (a1 : Api_Net) (v25 : Int) (x27 : Api_Domain) (v29 : Int) : Option ((Int) ⊕ (Unit ⊕ Unit)) :=
  if (decide (v29 < (x27.peers.length : Int))) = true then
    (nth x27.peers v29).bind fun x31 =>
    (palingref15_peer a1 v25 x31).bind fun r33 =>
    if (!r33) = true then
      some (Sum.inr (Sum.inl ()))
    else
      if (slok (List.length x27.peers) 0 v29) = true then
        (nth x27.peers v29).bind fun x37 =>
        (palingref15_In (List.drop (Int.toNat 0) (List.take (Int.toNat v29) x27.peers)) x37).bind fun r39 =>
        if (r39) = true then
          some (Sum.inr (Sum.inl ()))
        else
          some (Sum.inl (wr_i64 (v29 + 1)))
      else
        none
  else
    some (Sum.inr (Sum.inr ()))

def palingref15_domains_L2 (a1 : Api_Net) (v25 : Int) : Option ((Int) ⊕ (Unit ⊕ Unit)) :=
  if (decide (v25 < (a1.domains.length : Int))) = true then
    (nth a1.domains v25).bind fun x27 =>
    (loopM (palingref15_domains_L3 a1 v25 x27) 0).bind fun r43 => match r43 with
    | Sum.inl () =>
      some (Sum.inr (Sum.inl ()))
    | Sum.inr () =>
      some (Sum.inl (wr_i64 (v25 + 1)))
  else
    some (Sum.inr (Sum.inr ()))

def palingref15_domains (a1 : Api_Net) : Option (Bool) :=
  (loopM (palingref15_domains_L1 a1) 0).bind fun r24 => match r24 with
  | Sum.inl () =>
    some false
  | Sum.inr () =>
    (loopM (palingref15_domains_L2 a1) 0).bind fun r45 => match r45 with
    | Sum.inl () =>
      some false
    | Sum.inr () =>
      some true

def palingref03_Rising_L1 (a1 : List Int) (a2 : Int) (a3 : Int) (v6 : Int) : Option ((Int) ⊕ (Unit ⊕ Unit)) :=
  if (decide (v6 < (a1.length : Int))) = true then
    (nth a1 v6).bind fun x8 =>
    if (decide (x8 < a2)) = true then
      some (Sum.inr (Sum.inl ()))
    else
      (nth a1 v6).bind fun x11 =>
      if (decide (x11 > a3)) = true then
        some (Sum.inr (Sum.inl ()))
      else
        if (decide (v6 > 0)) = true then
          (nth a1 v6).bind fun x15 =>
          (nth a1 (wr_i64 (v6 - 1))).bind fun x17 =>
          if (decide (x15 ≤ x17)) = true then
            some (Sum.inr (Sum.inl ()))
          else
            some (Sum.inl (wr_i64 (v6 + 1)))
        else
          some (Sum.inl (wr_i64 (v6 + 1)))
  else
    some (Sum.inr (Sum.inr ()))

def palingref03_Rising (a1 : List Int) (a2 : Int) (a3 : Int) : Option (Bool) :=
  if (decide ((a1.length : Int) < 1)) = true then
    some false
  else
    if (decide ((a1.length : Int) > 16)) = true then
      some false
    else
      (loopM (palingref03_Rising_L1 a1 a2 a3) 0).bind fun r21 => match r21 with
      | Sum.inl () =>
        some false
      | Sum.inr () =>
        some true

def palingref15_rising (a1 : List Int) (a2 : Int) : Option (Bool) :=
  if ((a1.length : Int) == 0) = true then
    some true
  else
    (palingref03_Rising a1 1 a2).bind fun r4 =>
    some r4

def palingref15_ports_J2 (a1 : Api_Net) (v2 : Int) (x4 : Api_Port) : Option (Unit ⊕ Unit) :=
  if (x4.native == 0) = true then
    if ((x4.tagged.length : Int) == 0) = true then
      some (Sum.inl ())
    else
      if (decide (x4.native > 0)) = true then
        (palingref15_At a1 x4.dev x4.native).bind fun r20 =>
        if (decide (r20 < 0)) = true then
          some (Sum.inl ())
        else
          some (Sum.inr ())
      else
        some (Sum.inr ())
  else
    if (decide (x4.native > 0)) = true then
      (palingref15_At a1 x4.dev x4.native).bind fun r24 =>
      if (decide (r24 < 0)) = true then
        some (Sum.inl ())
      else
        some (Sum.inr ())
    else
      some (Sum.inr ())

def palingref15_ports_L3 (a1 : Api_Net) (v2 : Int) (x4 : Api_Port) (v29 : Int) : Option ((Int) ⊕ (Unit ⊕ Unit)) :=
  if (decide (v29 < (x4.tagged.length : Int))) = true then
    (nth x4.tagged v29).bind fun x31 =>
    (palingref15_At a1 x4.dev x31).bind fun r33 =>
    if (decide (r33 < 0)) = true then
      some (Sum.inr (Sum.inl ()))
    else
      some (Sum.inl (wr_i64 (v29 + 1)))
  else
    some (Sum.inr (Sum.inr ()))

def palingref15_ports_L1 (a1 : Api_Net) (v2 : Int) : Option ((Int) ⊕ (Unit ⊕ Unit)) :=
  if (decide (v2 < (a1.ports.length : Int))) = true then
    (nth a1.ports v2).bind fun x4 =>
    (palingref15_Place x4.dev (a1.devices.length : Int)).bind fun r6 =>
    if (!r6) = true then
      some (Sum.inr (Sum.inl ()))
    else
      if (decide (x4.native < 0)) = true then
        some (Sum.inr (Sum.inl ()))
      else
        if (decide (x4.native > 4094)) = true then
          some (Sum.inr (Sum.inl ()))
        else
          (palingref15_rising x4.tagged 4094).bind fun r11 =>
          if (!r11) = true then
            some (Sum.inr (Sum.inl ()))
          else
            (palingref15_In x4.tagged x4.native).bind fun r14 =>
            if (r14) = true then
              some (Sum.inr (Sum.inl ()))
            else
              (palingref15_ports_J2 a1 v2 x4).bind fun r28 => match r28 with
              | Sum.inl () =>
                some (Sum.inr (Sum.inl ()))
              | Sum.inr () =>
                (loopM (palingref15_ports_L3 a1 v2 x4) 0).bind fun r37 => match r37 with
                | Sum.inl () =>
                  some (Sum.inr (Sum.inl ()))
                | Sum.inr () =>
                  if (x4.link == (-1)) = true then
                    some (Sum.inl (wr_i64 (v2 + 1)))
                  else
                    (palingref15_Place x4.link (a1.links.length : Int)).bind fun r39 =>
                    if (!r39) = true then
                      some (Sum.inr (Sum.inl ()))
                    else
                      (nth a1.links x4.link).bind fun x42 =>
                      if (x42.a != v2) = true then
                        (nth a1.links x4.link).bind fun x45 =>
                        if (x45.b != v2) = true then
                          some (Sum.inr (Sum.inl ()))
                        else
                          some (Sum.inl (wr_i64 (v2 + 1)))
                      else
                        some (Sum.inl (wr_i64 (v2 + 1)))
  else
    some (Sum.inr (Sum.inr ()))

def palingref15_ports (a1 : Api_Net) : Option (Bool) :=
  (loopM (palingref15_ports_L1 a1) 0).bind fun r49 => match r49 with
  | Sum.inl () =>
    some false
  | Sum.inr () =>
    some true

def palingref15_links_L1 (a1 : Api_Net) (v2 : Int) : Option ((Int) ⊕ (Unit ⊕ Unit)) :=
  if (decide (v2 < (a1.links.length : Int))) = true then
    (nth a1.links v2).bind fun x4 =>
    (palingref15_Place x4.a (a1.ports.length : Int)).bind fun r6 =>
    if (!r6) = true then
      some (Sum.inr (Sum.inl ()))
    else
      (palingref15_Place x4.b (a1.ports.length : Int)).bind fun r9 =>
      if (!r9) = true then
        some (Sum.inr (Sum.inl ()))
      else
        (nth a1.ports x4.a).bind fun x12 =>
        (nth a1.ports x4.b).bind fun x14 =>
        if (x12.dev == x14.dev) = true then
          some (Sum.inr (Sum.inl ()))
        else
          (nth a1.ports x4.a).bind fun x17 =>
          if (x17.link != v2) = true then
            some (Sum.inr (Sum.inl ()))
          else
            (nth a1.ports x4.b).bind fun x20 =>
            if (x20.link != v2) = true then
              some (Sum.inr (Sum.inl ()))
            else
              some (Sum.inl (wr_i64 (v2 + 1)))
  else
    some (Sum.inr (Sum.inr ()))

def palingref15_links (a1 : Api_Net) : Option (Bool) :=
  (loopM (palingref15_links_L1 a1) 0).bind fun r24 => match r24 with
  | Sum.inl () =>
    some false
  | Sum.inr () =>
    some true

def palingref15_Member (a1 : Api_Port) (a2 : Int) : Option (Bool) :=
  if (a2 != 0) = true then
    if (a1.native == a2) = true then
      some true
    else
      (palingref15_In a1.tagged a2).bind fun r5 =>
      some r5
  else
    some false

def palingref15_rest_L1 (a1 : Api_Net) (v2 : Int) : Option ((Int) ⊕ (Unit ⊕ Unit)) :=
  if (decide (v2 < (a1.statics.length : Int))) = true then
    (nth a1.statics v2).bind fun x4 =>
    (palingref15_Place x4.domain (a1.domains.length : Int)).bind fun r6 =>
    if (!r6) = true then
      some (Sum.inr (Sum.inl ()))
    else
      (palingref15_Place x4.port (a1.ports.length : Int)).bind fun r9 =>
      if (!r9) = true then
        some (Sum.inr (Sum.inl ()))
      else
        (nth a1.domains x4.domain).bind fun x12 =>
        (nth a1.ports x4.port).bind fun x14 =>
        if (x14.dev != x12.dev) = true then
          some (Sum.inr (Sum.inl ()))
        else
          (nth a1.ports x4.port).bind fun x17 =>
          (palingref15_Member x17 x12.vlan).bind fun r19 =>
          if (!r19) = true then
            some (Sum.inr (Sum.inl ()))
          else
            some (Sum.inl (wr_i64 (v2 + 1)))
  else
    some (Sum.inr (Sum.inr ()))

def palingref15_rest_L2 (a1 : Api_Net) (v24 : Int) : Option ((Int) ⊕ (Unit ⊕ Unit)) :=
  if (decide (v24 < (a1.floods.length : Int))) = true then
    (nth a1.floods v24).bind fun x26 =>
    (palingref15_Place x26.dev (a1.devices.length : Int)).bind fun r28 =>
    if (!r28) = true then
      some (Sum.inr (Sum.inl ()))
    else
      (nth a1.floods v24).bind fun x31 =>
      if (decide ((x31.addrs.length : Int) > 16)) = true then
        some (Sum.inr (Sum.inl ()))
      else
        some (Sum.inl (wr_i64 (v24 + 1)))
  else
    some (Sum.inr (Sum.inr ()))

def palingref15_rest_L3 (a1 : Api_Net) (v36 : Int) : Option ((Int) ⊕ (Unit ⊕ Unit)) :=
  if (decide (v36 < (a1.vrfs.length : Int))) = true then
    (nth a1.vrfs v36).bind fun x38 =>
    (palingref15_Place x38.dev (a1.devices.length : Int)).bind fun r40 =>
    if (!r40) = true then
      some (Sum.inr (Sum.inl ()))
    else
      (palingref15_rising x38.imports 65535).bind fun r43 =>
      if (!r43) = true then
        some (Sum.inr (Sum.inl ()))
      else
        (palingref15_rising x38.exports 65535).bind fun r46 =>
        if (!r46) = true then
          some (Sum.inr (Sum.inl ()))
        else
          some (Sum.inl (wr_i64 (v36 + 1)))
  else
    some (Sum.inr (Sum.inr ()))

def palingref15_rest_L4 (a1 : Api_Net) (v51 : Int) : Option ((Int) ⊕ (Unit ⊕ Unit)) :=
  if (decide (v51 < (a1.irbs.length : Int))) = true then
    (nth a1.irbs v51).bind fun x53 =>
    (palingref15_Place x53.domain (a1.domains.length : Int)).bind fun r55 =>
    if (!r55) = true then
      some (Sum.inr (Sum.inl ()))
    else
      (palingref15_Place x53.vrf (a1.vrfs.length : Int)).bind fun r58 =>
      if (!r58) = true then
        some (Sum.inr (Sum.inl ()))
      else
        if (decide (x53.net.bits < 1)) = true then
          some (Sum.inr (Sum.inl ()))
        else
          if (decide (x53.net.bits > 30)) = true then
            some (Sum.inr (Sum.inl ()))
          else
            (nth a1.domains x53.domain).bind fun x63 =>
            (nth a1.vrfs x53.vrf).bind fun x65 =>
            if (x63.dev != x65.dev) = true then
              some (Sum.inr (Sum.inl ()))
            else
              (nth a1.domains x53.domain).bind fun x68 =>
              if (x68.irb != v51) = true then
                some (Sum.inr (Sum.inl ()))
              else
                some (Sum.inl (wr_i64 (v51 + 1)))
  else
    some (Sum.inr (Sum.inr ()))

def palingref15_rest (a1 : Api_Net) : Option (Bool) :=
  (loopM (palingref15_rest_L1 a1) 0).bind fun r23 => match r23 with
  | Sum.inl () =>
    some false
  | Sum.inr () =>
    (loopM (palingref15_rest_L2 a1) 0).bind fun r35 => match r35 with
    | Sum.inl () =>
      some false
    | Sum.inr () =>
      (loopM (palingref15_rest_L3 a1) 0).bind fun r50 => match r50 with
      | Sum.inl () =>
        some false
      | Sum.inr () =>
        (loopM (palingref15_rest_L4 a1) 0).bind fun r72 => match r72 with
        | Sum.inl () =>
          some false
        | Sum.inr () =>
          some true

def palingref15_Right (a1 : Api_Net) : Option (Bool) :=
  if (decide ((a1.devices.length : Int) > 8)) = true then
    some false
  else
    if (decide ((a1.ports.length : Int) > 40)) = true then
      some false
    else
      if (decide ((a1.links.length : Int) > 20)) = true then
        some false
      else
        if (decide ((a1.domains.length : Int) > 48)) = true then
          some false
        else
          if (decide ((a1.statics.length : Int) > 64)) = true then
            some false
          else
            if (decide ((a1.floods.length : Int) > 48)) = true then
              some false
            else
              if (decide ((a1.vrfs.length : Int) > 16)) = true then
                some false
              else
                if (decide ((a1.irbs.length : Int) > 48)) = true then
                  some false
                else
                  (palingref15_domains a1).bind fun r10 =>
                  if (r10) = true then
                    (palingref15_ports a1).bind fun r13 =>
                    if (r13) = true then
                      (palingref15_links a1).bind fun r16 =>
                      if (r16) = true then
                        (palingref15_rest a1).bind fun r19 =>
                        some r19
                      else
                        some false
                    else
                      some false
                  else
                    some false

def palingref14_words_L1 (a1 : Api_Tenant) (l2 : List ByteArray) (v3 : Int) : Option (((List ByteArray) × Int) ⊕ ((List ByteArray))) :=
  if (decide (v3 < (a1.devs.length : Int))) = true then
    if (decide (v3 < (a1.ports.length : Int))) = true then
      (nth a1.devs v3).bind fun x6 =>
      if (sadok x6 (⟨#[46]⟩ : ByteArray)) = true then
        (nth a1.ports v3).bind fun x9 =>
        if (sadok (x6 ++ (⟨#[46]⟩ : ByteArray)) x9) = true then
          if (roomy 16 (l2 ++ [(x6 ++ (⟨#[46]⟩ : ByteArray)) ++ x9])) = true then
            some (Sum.inl (l2 ++ [(x6 ++ (⟨#[46]⟩ : ByteArray)) ++ x9], wr_i64 (v3 + 1)))
          else
            none
        else
          none
      else
        none
    else
      some (Sum.inr l2)
  else
    some (Sum.inr l2)

def palingref14_words (a1 : Api_Tenant) : Option (((List ByteArray))) :=
  (loopM (fun s : (List ByteArray) × Int => match s with | (l2, v3) => palingref14_words_L1 a1 l2 v3) ([(⟨#[116, 101, 110, 97, 110, 116]⟩ : ByteArray), a1.name], 0)).bind fun r17 => match r17 with
  | l15 =>
    some l15

def palingref03_Name_L1 (a1 : ByteArray) (v7 : Int) : Option ((Int) ⊕ (Unit ⊕ Unit)) :=
  if (decide (v7 < (a1.size : Int))) = true then
    if (decide (0 ≤ (v7 : Int) ∧ (v7 : Int) < (a1.size : Int))) = true then
      if (decide ((byteAt a1 v7) < 97)) = true then
        if (decide ((byteAt a1 v7) < 48)) = true then
          some (Sum.inr (Sum.inl ()))
        else
          if (decide ((byteAt a1 v7) > 57)) = true then
            some (Sum.inr (Sum.inl ()))
          else
            some (Sum.inl (wr_i64 (v7 + 1)))
      else
        if (decide ((byteAt a1 v7) > 122)) = true then
          if (decide ((byteAt a1 v7) < 48)) = true then
            some (Sum.inr (Sum.inl ()))
          else
            if (decide ((byteAt a1 v7) > 57)) = true then
              some (Sum.inr (Sum.inl ()))
            else
              some (Sum.inl (wr_i64 (v7 + 1)))
        else
          some (Sum.inl (wr_i64 (v7 + 1)))
    else
      none
  else
    some (Sum.inr (Sum.inr ()))

def palingref03_Name (a1 : ByteArray) : Option (Bool) :=
  if (decide ((a1.size : Int) < 1)) = true then
    some false
  else
    if (decide ((a1.size : Int) > 12)) = true then
      some false
    else
      if (decide (0 ≤ (0 : Int) ∧ (0 : Int) < (a1.size : Int))) = true then
        if (decide ((byteAt a1 0) < 97)) = true then
          some false
        else
          if (decide ((byteAt a1 0) > 122)) = true then
            some false
          else
            (loopM (palingref03_Name_L1 a1) 0).bind fun r17 => match r17 with
            | Sum.inl () =>
              some false
            | Sum.inr () =>
              some true
      else
        none

def palingref14_dot_L1 (a1 : ByteArray) (v2 : Int) : Option ((Int) ⊕ (Int ⊕ Unit)) :=
  if (decide (v2 < (a1.size : Int))) = true then
    if (decide (0 ≤ (v2 : Int) ∧ (v2 : Int) < (a1.size : Int))) = true then
      if ((byteAt a1 v2) == 46) = true then
        some (Sum.inr (Sum.inl v2))
      else
        some (Sum.inl (wr_i64 (v2 + 1)))
    else
      none
  else
    some (Sum.inr (Sum.inr ()))

def palingref14_dot (a1 : ByteArray) : Option (Int) :=
  (loopM (palingref14_dot_L1 a1) 0).bind fun r9 => match r9 with
  | Sum.inl v7 =>
    some v7
  | Sum.inr () =>
    some (a1.size : Int)

def palingref14_Row_L1 (a1 : List ByteArray) (a2 : Int) (x8 : ByteArray) (l15 : List ByteArray) (l16 : List ByteArray) (v17 : Int) : Option (((List ByteArray) × (List ByteArray) × Int) ⊕ (Unit ⊕ ((List ByteArray) × (List ByteArray)))) :=
  if (decide (v17 < (a1.length : Int))) = true then
    (nth a1 v17).bind fun x19 =>
    (palingref14_dot x19).bind fun r21 =>
    (nth a1 v17).bind fun x23 =>
    if (r21 == (x23.size : Int)) = true then
      some (Sum.inr (Sum.inl ()))
    else
      (nth a1 v17).bind fun x26 =>
      if (slok (x26.size) 0 r21) = true then
        (palingref03_Name (ByteArray.extract x26 (Int.toNat 0) (Int.toNat r21))).bind fun r29 =>
        if (!r29) = true then
          some (Sum.inr (Sum.inl ()))
        else
          (nth a1 v17).bind fun x32 =>
          if (slok (x32.size) (wr_i64 (r21 + 1)) (x32.size : Int)) = true then
            (palingref03_Name (ByteArray.extract x32 (Int.toNat (wr_i64 (r21 + 1))) (Int.toNat (x32.size : Int)))).bind fun r35 =>
            if (!r35) = true then
              some (Sum.inr (Sum.inl ()))
            else
              (nth a1 v17).bind fun x38 =>
              if (slok (x38.size) 0 r21) = true then
                if (roomy 16 (l15 ++ [(ByteArray.extract x38 (Int.toNat 0) (Int.toNat r21))])) = true then
                  (nth a1 v17).bind fun x42 =>
                  if (slok (x42.size) (wr_i64 (r21 + 1)) (x42.size : Int)) = true then
                    if (roomy 16 (l16 ++ [(ByteArray.extract x42 (Int.toNat (wr_i64 (r21 + 1))) (Int.toNat (x42.size : Int)))])) = true then
                      some (Sum.inl (l15 ++ [(ByteArray.extract x38 (Int.toNat 0) (Int.toNat r21))], l16 ++ [(ByteArray.extract x42 (Int.toNat (wr_i64 (r21 + 1))) (Int.toNat (x42.size : Int)))], wr_i64 (v17 + 1)))
                    else
                      none
                  else
                    none
                else
                  none
              else
                none
          else
            none
      else
        none
  else
    some (Sum.inr (Sum.inr (l15, l16)))

def palingref14_Row (a1 : List ByteArray) (a2 : Int) : Option (((List ByteArray) × (List ByteArray) × Int × ByteArray × Int)) :=
  (nth a1 0).bind fun x3 =>
  if (!(seqB x3 (⟨#[116, 101, 110, 97, 110, 116]⟩ : ByteArray))) = true then
    some ([], [], 0, (⟨#[]⟩ : ByteArray), 22)
  else
    if (decide ((a1.length : Int) < 3)) = true then
      some ([], [], 0, (⟨#[]⟩ : ByteArray), 22)
    else
      if (decide ((a1.length : Int) > 18)) = true then
        some ([], [], 0, (⟨#[]⟩ : ByteArray), 22)
      else
        (nth a1 1).bind fun x8 =>
        (nth a1 1).bind fun x10 =>
        (palingref03_Name x10).bind fun r12 =>
        if (!r12) = true then
          some ([], [], 0, (⟨#[]⟩ : ByteArray), 20)
        else
          (loopM (fun s : (List ByteArray) × (List ByteArray) × Int => match s with | (l15, l16, v17) => palingref14_Row_L1 a1 a2 x8 l15 l16 v17) ([], [], 2)).bind fun r55 => match r55 with
          | Sum.inl () =>
            some ([], [], 0, (⟨#[]⟩ : ByteArray), 20)
          | Sum.inr (l52, l53) =>
            some (l52, l53, a2, x8, 0)

def palingref10_Texts_L1 (a1 : List ByteArray) (a2 : List ByteArray) (v4 : Int) : Option ((Int) ⊕ (Unit ⊕ Unit)) :=
  if (decide (v4 < (a1.length : Int))) = true then
    (nth a1 v4).bind fun x6 =>
    (nth a2 v4).bind fun x8 =>
    if (!(seqB x6 x8)) = true then
      some (Sum.inr (Sum.inl ()))
    else
      some (Sum.inl (wr_i64 (v4 + 1)))
  else
    some (Sum.inr (Sum.inr ()))

def palingref10_Texts (a1 : List ByteArray) (a2 : List ByteArray) : Option (Bool) :=
  if ((a1.length : Int) != (a2.length : Int)) = true then
    some false
  else
    (loopM (palingref10_Texts_L1 a1 a2) 0).bind fun r12 => match r12 with
    | Sum.inl () =>
      some false
    | Sum.inr () =>
      some true

def palingref14_Same_L1 (a1 : List Api_Tenant) (a2 : List Api_Tenant) (v4 : Int) : Option ((Int) ⊕ (Unit ⊕ Unit)) :=
  if (decide (v4 < (a1.length : Int))) = true then
    (nth a1 v4).bind fun x6 =>
    (nth a2 v4).bind fun x8 =>
    if (!(seqB x6.name x8.name)) = true then
      some (Sum.inr (Sum.inl ()))
    else
      (nth a1 v4).bind fun x11 =>
      (nth a2 v4).bind fun x13 =>
      (palingref10_Texts x11.devs x13.devs).bind fun r15 =>
      if (!r15) = true then
        some (Sum.inr (Sum.inl ()))
      else
        (nth a1 v4).bind fun x18 =>
        (nth a2 v4).bind fun x20 =>
        (palingref10_Texts x18.ports x20.ports).bind fun r22 =>
        if (!r22) = true then
          some (Sum.inr (Sum.inl ()))
        else
          some (Sum.inl (wr_i64 (v4 + 1)))
  else
    some (Sum.inr (Sum.inr ()))

def palingref14_Same (a1 : List Api_Tenant) (a2 : List Api_Tenant) : Option (Bool) :=
  if ((a1.length : Int) != (a2.length : Int)) = true then
    some false
  else
    (loopM (palingref14_Same_L1 a1 a2) 0).bind fun r26 => match r26 with
    | Sum.inl () =>
      some false
    | Sum.inr () =>
      some true

def palingref14_Exact_L1 (a1 : List Api_Tenant) (a2 : List Api_Tenant) (v3 : Int) : Option ((Int) ⊕ (Unit ⊕ Unit)) :=
  if (decide (v3 < (a1.length : Int))) = true then
    if (decide (v3 < (a2.length : Int))) = true then
      (nth a1 v3).bind fun x6 =>
      (nth a2 v3).bind fun x8 =>
      if (x6.row != x8.row) = true then
        some (Sum.inr (Sum.inl ()))
      else
        some (Sum.inl (wr_i64 (v3 + 1)))
    else
      some (Sum.inr (Sum.inr ()))
  else
    some (Sum.inr (Sum.inr ()))

def palingref14_Exact (a1 : List Api_Tenant) (a2 : List Api_Tenant) : Option (Bool) :=
  (loopM (palingref14_Exact_L1 a1 a2) 0).bind fun r12 => match r12 with
  | Sum.inl () =>
    some false
  | Sum.inr () =>
    (palingref14_Same a1 a2).bind fun r13 =>
    some r13

def palingref14_Right (a1 : Api_Tenant) : Option (Bool) :=
  if ((a1.devs.length : Int) != (a1.ports.length : Int)) = true then
    some false
  else
    if (decide ((a1.devs.length : Int) > 16)) = true then
      some false
    else
      (palingref14_words a1).bind fun r4 => match r4 with
      | l6 =>
        (palingref14_Row l6 a1.row).bind fun r7 => match r7 with
        | (l9, l10, v11, v12, v13) =>
          if (v13 == 0) = true then
            (palingref14_Exact [a1] [(⟨v11, v12, l9, l10⟩ : Api_Tenant)]).bind fun r15 =>
            some r15
          else
            some false

def palingref15_Device_L1 (a1 : Api_Net) (a2 : ByteArray) (v3 : Int) : Option ((Int) ⊕ (Int ⊕ Unit)) :=
  if (decide (v3 < (a1.devices.length : Int))) = true then
    (nth a1.devices v3).bind fun x5 =>
    if (seqB x5.name a2) = true then
      some (Sum.inr (Sum.inl v3))
    else
      some (Sum.inl (wr_i64 (v3 + 1)))
  else
    some (Sum.inr (Sum.inr ()))

def palingref15_Device (a1 : Api_Net) (a2 : ByteArray) : Option (Int) :=
  (loopM (palingref15_Device_L1 a1 a2) 0).bind fun r11 => match r11 with
  | Sum.inl v9 =>
    some v9
  | Sum.inr () =>
    some (-1)

def palingref15_Port_L1 (a1 : Api_Net) (a2 : Int) (a3 : ByteArray) (v4 : Int) : Option ((Int) ⊕ (Int ⊕ Unit)) :=
  if (decide (v4 < (a1.ports.length : Int))) = true then
    (nth a1.ports v4).bind fun x6 =>
    if (x6.dev == a2) = true then
      (nth a1.ports v4).bind fun x9 =>
      if (seqB x9.name a3) = true then
        some (Sum.inr (Sum.inl v4))
      else
        some (Sum.inl (wr_i64 (v4 + 1)))
    else
      some (Sum.inl (wr_i64 (v4 + 1)))
  else
    some (Sum.inr (Sum.inr ()))

def palingref15_Port (a1 : Api_Net) (a2 : Int) (a3 : ByteArray) : Option (Int) :=
  (loopM (palingref15_Port_L1 a1 a2 a3) 0).bind fun r15 => match r15 with
  | Sum.inl v13 =>
    some v13
  | Sum.inr () =>
    some (-1)

def palingref23_tenant_own_L1 (a1 : Api_Net) (a2 : List Int) (a3 : List Api_Tenant) (a4 : Int) (v11 : Int) : Option ((Int) ⊕ (Unit ⊕ Unit)) :=
  if (decide (v11 < a4)) = true then
    (nth a3 v11).bind fun x13 =>
    (nth a3 a4).bind fun x15 =>
    if (seqB x13.name x15.name) = true then
      some (Sum.inr (Sum.inl ()))
    else
      some (Sum.inl (wr_i64 (v11 + 1)))
  else
    some (Sum.inr (Sum.inr ()))

def palingref23_tenant_own_L2 (a1 : Api_Net) (a2 : List Int) (a3 : List Api_Tenant) (a4 : Int) (l20 : List Int) (v21 : Int) : Option (((List Int) × Int) ⊕ (((List Int) × Int) ⊕ (List Int))) :=
  (nth a3 a4).bind fun x22 =>
  if (decide (v21 < (x22.devs.length : Int))) = true then
    (nth a3 a4).bind fun x25 =>
    (nth x25.devs v21).bind fun x27 =>
    (palingref15_Device a1 x27).bind fun r29 =>
    if (decide (r29 < 0)) = true then
      some (Sum.inr (Sum.inl (l20, 31)))
    else
      (nth a3 a4).bind fun x32 =>
      (nth x32.ports v21).bind fun x34 =>
      (palingref15_Port a1 r29 x34).bind fun r36 =>
      if (decide (r36 < 0)) = true then
        some (Sum.inr (Sum.inl (l20, 31)))
      else
        (nth a3 a4).bind fun x39 =>
        (nth x39.ports v21).bind fun x41 =>
        (palingref15_Port a1 r29 x41).bind fun r43 =>
        (nth a1.ports r43).bind fun x45 =>
        if (x45.link != (-1)) = true then
          some (Sum.inr (Sum.inl (l20, 39)))
        else
          if (lin l20 r43) = true then
            (l20[(Int.toNat r43)]?).bind fun x49 =>
            if (x49 != (-1)) = true then
              some (Sum.inr (Sum.inl (l20, 39)))
            else
              (l20[(Int.toNat r43)]?).bind fun x52 =>
              some (Sum.inl (List.set l20 (Int.toNat r43) a4, wr_i64 (v21 + 1)))
          else
            none
  else
    some (Sum.inr (Sum.inr l20))

def palingref23_tenant_own (a1 : Api_Net) (a2 : List Int) (a3 : List Api_Tenant) (a4 : Int) : Option (((List Int) × Int)) :=
  (nth a3 a4).bind fun x5 =>
  (palingref14_Right x5).bind fun r7 =>
  if (!r7) = true then
    some (a2, 2)
  else
    if (decide (a4 > 9)) = true then
      some (a2, 2)
    else
      (loopM (palingref23_tenant_own_L1 a1 a2 a3 a4) 0).bind fun r19 => match r19 with
      | Sum.inl () =>
        some (a2, 30)
      | Sum.inr () =>
        (loopM (fun s : (List Int) × Int => match s with | (l20, v21) => palingref23_tenant_own_L2 a1 a2 a3 a4 l20 v21) (a2, 0)).bind fun r61 => match r61 with
        | Sum.inl (l56, v57) =>
          some (l56, v57)
        | Sum.inr l59 =>
          some (l59, 0)

def palingref23_tenant_ownx_L1 (a1 : Api_Net) (a2 : List Int) (n3 : Nat) (a4 : List Api_Tenant) (a5 : Int) (v12 : Int) : Option ((Int) ⊕ (Unit ⊕ Unit)) :=
  if (decide (v12 < a5)) = true then
    (nth a4 v12).bind fun x14 =>
    (nth a4 a5).bind fun x16 =>
    if (seqB x14.name x16.name) = true then
      some (Sum.inr (Sum.inl ()))
    else
      some (Sum.inl (wr_i64 (v12 + 1)))
  else
    some (Sum.inr (Sum.inr ()))

def palingref23_tenant_ownx_L2 (a1 : Api_Net) (n3 : Nat) (a4 : List Api_Tenant) (a5 : Int) (l21 : List Int) (v22 : Int) : Option (((List Int) × Int) ⊕ (((List Int) × Int) ⊕ (List Int))) :=
  (nth a4 a5).bind fun x23 =>
  if (decide (v22 < (x23.devs.length : Int))) = true then
    (nth a4 a5).bind fun x26 =>
    (nth x26.devs v22).bind fun x28 =>
    (palingref15_Device a1 x28).bind fun r30 =>
    if (decide (r30 < 0)) = true then
      some (Sum.inr (Sum.inl (l21, 31)))
    else
      (nth a4 a5).bind fun x33 =>
      (nth x33.ports v22).bind fun x35 =>
      (palingref15_Port a1 r30 x35).bind fun r37 =>
      if (decide (r37 < 0)) = true then
        some (Sum.inr (Sum.inl (l21, 31)))
      else
        (nth a4 a5).bind fun x40 =>
        (nth x40.ports v22).bind fun x42 =>
        (palingref15_Port a1 r30 x42).bind fun r44 =>
        (nth a1.ports r44).bind fun x46 =>
        if (x46.link != (-1)) = true then
          some (Sum.inr (Sum.inl (l21, 39)))
        else
          if (lin l21 r44) = true then
            (l21[(Int.toNat r44)]?).bind fun x50 =>
            if (x50 != (-1)) = true then
              some (Sum.inr (Sum.inl (l21, 39)))
            else
              (l21[(Int.toNat r44)]?).bind fun x53 =>
              some (Sum.inl (List.set l21 (Int.toNat r44) a5, wr_i64 (v22 + 1)))
          else
            none
  else
    some (Sum.inr (Sum.inr l21))

def palingref23_tenant_ownx (a1 : Api_Net) (a2 : List Int) (n3 : Nat) (a4 : List Api_Tenant) (a5 : Int) : Option (((List Int) × Int)) :=
  (nth a4 a5).bind fun x6 =>
  (palingref14_Right x6).bind fun r8 =>
  if (!r8) = true then
    some (a2, 2)
  else
    if (decide (a5 > 9)) = true then
      some (a2, 2)
    else
      (loopM (palingref23_tenant_ownx_L1 a1 a2 n3 a4 a5) 0).bind fun r20 => match r20 with
      | Sum.inl () =>
        some (a2, 30)
      | Sum.inr () =>
        (loopM (fun s : (List Int) × Int => match s with | (l21, v22) => palingref23_tenant_ownx_L2 a1 n3 a4 a5 l21 v22) (a2, 0)).bind fun r62 => match r62 with
        | Sum.inl (l57, v58) =>
          some (l57, v58)
        | Sum.inr l60 =>
          some (l60, 0)

def palingref23_Assign_L1 (a1 : Api_Net) (a2 : List Api_Tenant) (l6 : List Int) (v7 : Int) : Option (((List Int) × Int) ⊕ ((List Int))) :=
  if (decide (v7 < (a1.ports.length : Int))) = true then
    if (roomy 8 (l6 ++ [((-1) : Int)])) = true then
      some (Sum.inl (l6 ++ [((-1) : Int)], wr_i64 (v7 + 1)))
    else
      none
  else
    some (Sum.inr l6)

def palingref23_Assign_L2 (a1 : Api_Net) (a2 : List Api_Tenant) (l17 : List Int) (l20 : List Int) (v21 : Int) : Option (((List Int) × Int) ⊕ ((Int × Int) ⊕ (List Int))) :=
  if (decide (v21 < (a2.length : Int))) = true then
    (palingref23_tenant_ownx a1 l20 (List.length l17) a2 v21).bind fun r23 => match r23 with
    | (l25, v26) =>
      if (v26 != 0) = true then
        (nth a2 v21).bind fun x28 =>
        some (Sum.inr (Sum.inl (x28.row, v26)))
      else
        some (Sum.inl (l25, wr_i64 (v21 + 1)))
  else
    some (Sum.inr (Sum.inr l20))

def palingref23_Assign_L3 (a1 : Api_Net) (l17 : List Int) (l40 : List Int) (v43 : Int) : Option ((Int) ⊕ (Int ⊕ Unit)) :=
  if (decide (v43 < (a1.ports.length : Int))) = true then
    (nth a1.ports v43).bind fun x45 =>
    if (x45.link == (-1)) = true then
      if (lin l40 v43) = true then
        (l40[(Int.toNat v43)]?).bind fun x49 =>
        if (x49 == (-1)) = true then
          (nth a1.ports v43).bind fun x52 =>
          some (Sum.inr (Sum.inl x52.row))
        else
          some (Sum.inl (wr_i64 (v43 + 1)))
      else
        none
    else
      some (Sum.inl (wr_i64 (v43 + 1)))
  else
    some (Sum.inr (Sum.inr ()))

def palingref23_Assign (a1 : Api_Net) (a2 : List Api_Tenant) : Option (((List Int) × Int × Int × Int)) :=
  (palingref15_Right a1).bind fun r3 =>
  if (!r3) = true then
    some ([], 0, 0, 2)
  else
    (loopM (fun s : (List Int) × Int => match s with | (l6, v7) => palingref23_Assign_L1 a1 a2 l6 v7) ([], 0)).bind fun r19 => match r19 with
    | l17 =>
      (loopM (fun s : (List Int) × Int => match s with | (l20, v21) => palingref23_Assign_L2 a1 a2 l17 l20 v21) (l17, 0)).bind fun r42 => match r42 with
      | Sum.inl (v32, v33) =>
        some ([], 2, v32, v33)
      | Sum.inr l40 =>
        (loopM (palingref23_Assign_L3 a1 l17 l40) 0).bind fun r57 => match r57 with
        | Sum.inl v55 =>
          some ([], 1, v55, 39)
        | Sum.inr () =>
          some (l40, 0, 0, 0)

def palingref03_Ints_L1 (a1 : List Int) (a2 : List Int) (v4 : Int) : Option ((Int) ⊕ (Unit ⊕ Unit)) :=
  if (decide (v4 < (a1.length : Int))) = true then
    (nth a1 v4).bind fun x6 =>
    (nth a2 v4).bind fun x8 =>
    if (x6 != x8) = true then
      some (Sum.inr (Sum.inl ()))
    else
      some (Sum.inl (wr_i64 (v4 + 1)))
  else
    some (Sum.inr (Sum.inr ()))

def palingref03_Ints (a1 : List Int) (a2 : List Int) : Option (Bool) :=
  if ((a1.length : Int) != (a2.length : Int)) = true then
    some false
  else
    (loopM (palingref03_Ints_L1 a1 a2) 0).bind fun r12 => match r12 with
    | Sum.inl () =>
      some false
    | Sum.inr () =>
      some true

def palinglaw23_OwnersAssigns (a1 : Api_Net) (a2 : List Api_Tenant) : Option (Bool) :=
  (palinglaw15_Great a1).bind fun r3 =>
  if (r3) = true then
    (palinglaw23_works).bind fun r6 =>
    some r6
  else
    (palinglaw14_Great a2).bind fun r8 =>
    if (r8) = true then
      (palinglaw23_works).bind fun r11 =>
      some r11
    else
      (owners_Assign a1 a2).bind fun r13 => match r13 with
      | (r15, r16, r17, r18) =>
        (palingref23_Assign a1 a2).bind fun r19 => match r19 with
        | (r21, r22, r23, r24) =>
          (palingref03_Ints r15 r21).bind fun r25 =>
          if (r25) = true then
            if (r16 == r22) = true then
              if (r17 == r23) = true then
                if (r18 == r24) = true then
                  (palinglaw23_works).bind fun r31 =>
                  some r31
                else
                  some false
              else
                some false
            else
              some false
          else
            some false

def comps_alone_L1 (a1 : Int) (l3 : List Int) (v4 : Int) : Option (((List Int) × Int) ⊕ ((List Int))) :=
  if (decide (v4 < ((Int.toNat a1) : Int))) = true then
    if (lin l3 v4) = true then
      (l3[(Int.toNat v4)]?).bind fun x7 =>
      some (Sum.inl (List.set l3 (Int.toNat v4) v4, wr_i64 (v4 + 1)))
    else
      none
  else
    some (Sum.inr l3)

def comps_alone (a1 : Int) : Option (((List Int))) :=
  if (mkok 8 a1 a1) = true then
    (loopM (fun s : (List Int) × Int => match s with | (l3, v4) => comps_alone_L1 a1 l3 v4) (List.replicate (Int.toNat a1) (0 : Int), 0)).bind fun r13 => match r13 with
    | l11 =>
      some l11
  else
    none

def slices_Clone_int (a1 : List Int) : Option (List Int) :=
  if roomy 8 a1 = true then some a1 else none

def links_Other (a1 : Api_Net) (a2 : Int) : Option (Int) :=
  if (decide (a2 < 0)) = true then
    some (-1)
  else
    if (decide (a2 ≥ (a1.ports.length : Int))) = true then
      some (-1)
    else
      (nth a1.ports a2).bind fun x5 =>
      if (decide (x5.link < 0)) = true then
        some (-1)
      else
        (names_Right a1).bind fun r8 =>
        if (!r8) = true then
          some (-1)
        else
          (nth a1.ports a2).bind fun x11 =>
          (nth a1.links x11.link).bind fun x13 =>
          if (x13.a == a2) = true then
            some x13.b
          else
            some x13.a

def links_Cross (a1 : Api_Net) (a2 : Int) (a3 : Int) : Option (Int × Int × Bool) :=
  (links_Other a1 a2).bind fun r4 =>
  if (decide (r4 < 0)) = true then
    some (0, 0, false)
  else
    (nth a1.ports a2).bind fun x7 =>
    (names_Member x7 a3).bind fun r9 =>
    if (!r9) = true then
      some (0, 0, false)
    else
      (nth a1.ports r4).bind fun x12 =>
      (nth a1.ports a2).bind fun x14 =>
      if (a3 == x14.native) = true then
        if (x12.native == 0) = true then
          some (0, 0, false)
        else
          some (r4, x12.native, true)
      else
        (slices_Contains_int x12.tagged a3).bind fun r18 =>
        if (r18) = true then
          if (a3 == 0) = true then
            some (0, 0, false)
          else
            some (r4, a3, true)
        else
          if (0 == 0) = true then
            some (0, 0, false)
          else
            some (r4, 0, true)

def names_Domain_1 (a1 : Api_Domain) (a2 : Int) (a3 : Int) : Option (Bool) :=
  if (a1.dev == a2) = true then
    some (a1.vlan == a3)
  else
    some false

def slices_IndexFunc_Domain_Domain_1_L1 (a1 : List Api_Domain) (a2 : Int) (a3 : Int) (v4 : Int) : Option ((Int) ⊕ (Int ⊕ Unit)) :=
  if (decide (v4 < (a1.length : Int))) = true then
    (nth a1 v4).bind fun x6 =>
    (names_Domain_1 x6 a2 a3).bind fun r8 =>
    if (r8) = true then
      some (Sum.inr (Sum.inl v4))
    else
      some (Sum.inl (wr_i64 (v4 + 1)))
  else
    some (Sum.inr (Sum.inr ()))

def slices_IndexFunc_Domain_Domain_1 (a1 : List Api_Domain) (a2 : Int) (a3 : Int) : Option (Int) :=
  (loopM (slices_IndexFunc_Domain_Domain_1_L1 a1 a2 a3) 0).bind fun r14 => match r14 with
  | Sum.inl v12 =>
    some v12
  | Sum.inr () =>
    some (-1)

def names_find_Domain_Domain_1 (a1 : Api_Net) (a2 : List Api_Domain) (a3 : Int) (a4 : Int) : Option (Int) :=
  (names_Right a1).bind fun r5 =>
  if (!r5) = true then
    some (-1)
  else
    (slices_IndexFunc_Domain_Domain_1 a2 a3 a4).bind fun r8 =>
    some r8

def names_Domain (a1 : Api_Net) (a2 : Int) (a3 : Int) : Option (Int) :=
  (names_find_Domain_Domain_1 a1 a1.domains a2 a3).bind fun r4 =>
  some r4

def links_Domain (a1 : Api_Net) (a2 : Int) (a3 : Int) : Option (Int × Bool) :=
  (links_Cross a1 a2 a3).bind fun r4 =>
  if (!r4.2.2) = true then
    some (0, false)
  else
    (nth a1.ports r4.1).bind fun x7 =>
    (names_Domain a1 x7.dev r4.2.1).bind fun r9 =>
    some (r9, true)

def comps_forest_top_own_L1 (n2 : Nat) (l4 : List Int) (v5 : Int) : Option (((List Int) × Int) ⊕ (((List Int) × Int))) :=
  if (lin l4 v5) = true then
    (l4[(Int.toNat v5)]?).bind fun x7 =>
    if (x7 == v5) = true then
      some (Sum.inr (l4, v5))
    else
      (l4[(Int.toNat v5)]?).bind fun x10 =>
      if (lin l4 x10) = true then
        (l4[(Int.toNat x10)]?).bind fun x13 =>
        (l4[(Int.toNat v5)]?).bind fun x15 =>
        if (lin (List.set l4 (Int.toNat v5) x13) v5) = true then
          ((List.set l4 (Int.toNat v5) x13)[(Int.toNat v5)]?).bind fun x18 =>
          some (Sum.inl (List.set l4 (Int.toNat v5) x13, x18))
        else
          none
      else
        none
  else
    none

def comps_forest_top_own (a1 : List Int) (n2 : Nat) (a3 : Int) : Option (((List Int) × Int)) :=
  (loopM (fun s : (List Int) × Int => match s with | (l4, v5) => comps_forest_top_own_L1 n2 l4 v5) (a1, a3)).bind fun r26 => match r26 with
  | (l23, v24) =>
    some (l23, v24)

def comps_forest_join_own (a1 : List Int) (n2 : Nat) (a3 : Int) (a4 : Int) : Option (((List Int) × Bool)) :=
  (comps_forest_top_own a1 n2 a3).bind fun r5 => match r5 with
  | (l7, v8) =>
    (comps_forest_top_own l7 n2 a4).bind fun r9 => match r9 with
    | (l11, v12) =>
      if (lin l11 (if v12 > v8 then v12 else v8)) = true then
        (l11[(Int.toNat (if v12 > v8 then v12 else v8))]?).bind fun x14 =>
        some (List.set l11 (Int.toNat (if v12 > v8 then v12 else v8)) (if v12 < v8 then v12 else v8 : Int), v8 != v12)
      else
        none

def comps_linked_own_L2 (a1 : Api_Net) (n3 : Nat) (v5 : Int) (x7 : Api_Port) (l11 : List Int) (l13 : List Int) (v14 : Int) : Option (((List Int) × Int) ⊕ ((List Int))) :=
  if (decide (v14 < ((List.length (l11 ++ [x7.native])) : Int))) = true then
    if (lin (l11 ++ [x7.native]) v14) = true then
      ((l11 ++ [x7.native])[(Int.toNat v14)]?).bind fun x17 =>
      (links_Domain a1 v5 x17).bind fun r19 =>
      if (r19.2) = true then
        (names_Domain a1 x7.dev x17).bind fun r22 =>
        (comps_forest_join_own l13 n3 r22 r19.1).bind fun r24 => match r24 with
        | (l26, v27) =>
          some (Sum.inl (l26, wr_i64 (v14 + 1)))
      else
        some (Sum.inl (l13, wr_i64 (v14 + 1)))
    else
      none
  else
    some (Sum.inr l13)

def comps_linked_own_L1 (a1 : Api_Net) (n3 : Nat) (l4 : List Int) (v5 : Int) : Option (((List Int) × Int) ⊕ ((List Int))) :=
  if (decide (v5 < (a1.ports.length : Int))) = true then
    (nth a1.ports v5).bind fun x7 =>
    (slices_Clone_int x7.tagged).bind fun r9 => match r9 with
    | l11 =>
      if (roomy 8 (l11 ++ [x7.native])) = true then
        (loopM (fun s : (List Int) × Int => match s with | (l13, v14) => comps_linked_own_L2 a1 n3 v5 x7 l11 l13 v14) (l4, 0)).bind fun r35 => match r35 with
        | l33 =>
          some (Sum.inl (l33, wr_i64 (v5 + 1)))
      else
        none
  else
    some (Sum.inr l4)

def comps_linked_own (a1 : Api_Net) (a2 : List Int) (n3 : Nat) : Option (((List Int))) :=
  (loopM (fun s : (List Int) × Int => match s with | (l4, v5) => comps_linked_own_L1 a1 n3 l4 v5) (a2, 0)).bind fun r38 => match r38 with
  | l36 =>
    some l36

def slices_Min_int_L1 (a1 : List Int) (v5 : Int) (v6 : Int) : Option ((Int × Int) ⊕ (Int)) :=
  if (decide (v6 < (a1.length : Int))) = true then
    (nth a1 v6).bind fun x8 =>
    some (Sum.inl (if x8 < v5 then x8 else v5, wr_i64 (v6 + 1)))
  else
    some (Sum.inr v5)

def slices_Min_int (a1 : List Int) : Option (Int) :=
  if (decide ((a1.length : Int) < 1)) = true then
    none
  else
    (nth a1 0).bind fun x3 =>
    (loopM (fun s : Int × Int => match s with | (v5, v6) => slices_Min_int_L1 a1 v5 v6) (x3, 1)).bind fun r13 => match r13 with
    | v11 =>
      some v11

def comps_Loop_L1 (a1 : Api_Net) (l11 : List Int) (v12 : Int) : Option (((List Int) × Int) ⊕ (Int ⊕ Unit)) :=
  if (decide (v12 < (a1.domains.length : Int))) = true then
    (nth a1.domains v12).bind fun x14 =>
    if ((x14.peers.length : Int) == 0) = true then
      some (Sum.inl (l11, wr_i64 (v12 + 1)))
    else
      (slices_Min_int x14.peers).bind fun r17 =>
      (comps_forest_join_own l11 (Int.toNat (wr_i64 (2 * (a1.domains.length : Int)))) v12 (wr_i64 ((a1.domains.length : Int) + (if r17 < v12 then r17 else v12)))).bind fun r19 => match r19 with
      | (l21, v22) =>
        if (!v22) = true then
          some (Sum.inr (Sum.inl x14.row))
        else
          some (Sum.inl (l21, wr_i64 (v12 + 1)))
  else
    some (Sum.inr (Sum.inr ()))

def comps_Loop (a1 : Api_Net) : Option (Int × Bool) :=
  (names_Right a1).bind fun r2 =>
  if (!r2) = true then
    some (0, false)
  else
    (comps_alone (wr_i64 (2 * (a1.domains.length : Int)))).bind fun r5 => match r5 with
    | l7 =>
      (comps_linked_own a1 l7 (Int.toNat (wr_i64 (2 * (a1.domains.length : Int))))).bind fun r8 => match r8 with
      | l10 =>
        (loopM (fun s : (List Int) × Int => match s with | (l11, v12) => comps_Loop_L1 a1 l11 v12) (l10, 0)).bind fun r27 => match r27 with
        | Sum.inl v25 =>
          some (v25, true)
        | Sum.inr () =>
          some (0, false)

def comps_forest_tops_own_L1 (n2 : Nat) (a3 : Int) (l4 : List Int) (l5 : List Int) (v6 : Int) : Option (((List Int) × (List Int) × Int) ⊕ (((List Int) × (List Int)))) :=
  if (decide (v6 < a3)) = true then
    (comps_forest_top_own l4 n2 v6).bind fun r8 => match r8 with
    | (l10, v11) =>
      if (roomy 8 (l5 ++ [v11])) = true then
        some (Sum.inl (l10, l5 ++ [v11], wr_i64 (v6 + 1)))
      else
        none
  else
    some (Sum.inr (l4, l5))

def comps_forest_tops_own (a1 : List Int) (n2 : Nat) (a3 : Int) : Option (((List Int) × (List Int))) :=
  (loopM (fun s : (List Int) × (List Int) × Int => match s with | (l4, l5, v6) => comps_forest_tops_own_L1 n2 a3 l4 l5 v6) (a1, [], 0)).bind fun r20 => match r20 with
  | (l17, l18) =>
    some (l17, l18)

def comps_Links (a1 : Api_Net) : Option (((List Int))) :=
  (names_Right a1).bind fun r2 =>
  if (!r2) = true then
    some []
  else
    (comps_alone (a1.domains.length : Int)).bind fun r5 => match r5 with
    | l7 =>
      (comps_linked_own a1 l7 (Int.toNat (a1.domains.length : Int))).bind fun r8 => match r8 with
      | l10 =>
        (comps_forest_tops_own l10 (Int.toNat (a1.domains.length : Int)) ((Int.toNat (a1.domains.length : Int)) : Int)).bind fun r11 => match r11 with
        | (l13, l14) =>
          some l14

def palinglaw21_works : Option (Bool) :=
  (comps_Loop (⟨[(⟨0, 0, (⟨#[97]⟩ : ByteArray), 0, 1⟩ : Api_Device), (⟨0, 0, (⟨#[98]⟩ : ByteArray), 0, 2⟩ : Api_Device)], [(⟨0, 0, 10, 0, 0, (⟨#[112]⟩ : ByteArray), []⟩ : Api_Port), (⟨0, 1, 10, 0, 0, (⟨#[112]⟩ : ByteArray), []⟩ : Api_Port)], [(⟨0, 0, 1⟩ : Api_Link)], [(⟨0, 10, 5, (-1), 3, [(1 : Int)]⟩ : Api_Domain), (⟨1, 10, 5, (-1), 4, [(0 : Int)]⟩ : Api_Domain)], [], [], [], []⟩ : Api_Net)).bind fun r1 =>
  (comps_Links (⟨[(⟨0, 0, (⟨#[97]⟩ : ByteArray), 0, 1⟩ : Api_Device), (⟨0, 0, (⟨#[98]⟩ : ByteArray), 0, 2⟩ : Api_Device)], [(⟨0, 0, 10, 0, 0, (⟨#[112]⟩ : ByteArray), []⟩ : Api_Port), (⟨0, 1, 10, 0, 0, (⟨#[112]⟩ : ByteArray), []⟩ : Api_Port)], [(⟨0, 0, 1⟩ : Api_Link)], [(⟨0, 10, 5, (-1), 3, [(1 : Int)]⟩ : Api_Domain), (⟨1, 10, 5, (-1), 4, [(0 : Int)]⟩ : Api_Domain)], [], [], [], []⟩ : Api_Net)).bind fun r3 => match r3 with
  | l5 =>
    if (r1.2) = true then
      if (r1.1 == 4) = true then
        if (((List.length l5) : Int) == 2) = true then
          if (lin l5 0) = true then
            (l5[(Int.toNat 0)]?).bind fun x10 =>
            if (x10 == 0) = true then
              if (lin l5 1) = true then
                (l5[(Int.toNat 1)]?).bind fun x14 =>
                some (x14 == 0)
              else
                none
            else
              some false
          else
            none
        else
          some false
      else
        some false
    else
      some false

def palingref15_Members_L1 (a1 : Api_Net) (x6 : Api_Domain) (l8 : List Int) (v9 : Int) : Option (((List Int) × Int) ⊕ ((List Int))) :=
  if (decide (v9 < (a1.ports.length : Int))) = true then
    (nth a1.ports v9).bind fun x11 =>
    if (x11.dev == x6.dev) = true then
      (nth a1.ports v9).bind fun x14 =>
      (palingref15_Member x14 x6.vlan).bind fun r16 =>
      if (r16) = true then
        if (roomy 8 (l8 ++ [v9])) = true then
          some (Sum.inl (l8 ++ [v9], wr_i64 (v9 + 1)))
        else
          none
      else
        some (Sum.inl (l8, wr_i64 (v9 + 1)))
    else
      some (Sum.inl (l8, wr_i64 (v9 + 1)))
  else
    some (Sum.inr l8)

def palingref15_Members (a1 : Api_Net) (a2 : Int) : Option (((List Int))) :=
  (palingref15_Place a2 (a1.domains.length : Int)).bind fun r3 =>
  if (!r3) = true then
    some []
  else
    (nth a1.domains a2).bind fun x6 =>
    (loopM (fun s : (List Int) × Int => match s with | (l8, v9) => palingref15_Members_L1 a1 x6 l8 v9) ([], 0)).bind fun r24 => match r24 with
    | l22 =>
      some l22

def palingref17_Other_L1 (a1 : Api_Net) (a2 : Int) (v3 : Int) : Option ((Int) ⊕ (Int ⊕ Unit)) :=
  if (decide (v3 < (a1.links.length : Int))) = true then
    (nth a1.links v3).bind fun x5 =>
    if (x5.a == a2) = true then
      (nth a1.links v3).bind fun x8 =>
      some (Sum.inr (Sum.inl x8.b))
    else
      (nth a1.links v3).bind fun x10 =>
      if (x10.b == a2) = true then
        (nth a1.links v3).bind fun x13 =>
        some (Sum.inr (Sum.inl x13.a))
      else
        some (Sum.inl (wr_i64 (v3 + 1)))
  else
    some (Sum.inr (Sum.inr ()))

def palingref17_Other (a1 : Api_Net) (a2 : Int) : Option (Int) :=
  (loopM (palingref17_Other_L1 a1 a2) 0).bind fun r18 => match r18 with
  | Sum.inl v16 =>
    some v16
  | Sum.inr () =>
    some (-1)

def palingref17_Cross_J1 (a3 : Int) (r4 : Int) (x8 : Api_Port) (x10 : Api_Port) : Option (Unit ⊕ Unit) :=
  if (x8.native == a3) = true then
    if (decide (x10.native > 0)) = true then
      some (Sum.inl ())
    else
      some (Sum.inr ())
  else
    some (Sum.inr ())

def palingref17_Cross (a1 : Api_Net) (a2 : Int) (a3 : Int) : Option (Int × Int × Bool) :=
  (palingref17_Other a1 a2).bind fun r4 =>
  if (decide (r4 < 0)) = true then
    some (0, 0, false)
  else
    if (a3 == 0) = true then
      some (0, 0, false)
    else
      (nth a1.ports a2).bind fun x8 =>
      (nth a1.ports r4).bind fun x10 =>
      (palingref17_Cross_J1 a3 r4 x8 x10).bind fun r15 => match r15 with
      | Sum.inl () =>
        some (r4, x10.native, true)
      | Sum.inr () =>
        (palingref15_In x8.tagged a3).bind fun r16 =>
        if (r16) = true then
          (palingref15_In x10.tagged a3).bind fun r19 =>
          if (r19) = true then
            some (r4, a3, true)
          else
            some (0, 0, false)
        else
          some (0, 0, false)

def palingref17_Domain (a1 : Api_Net) (a2 : Int) (a3 : Int) : Option (Int × Bool) :=
  (palingref17_Cross a1 a2 a3).bind fun r4 =>
  if (!r4.2.2) = true then
    some (0, false)
  else
    (nth a1.ports r4.1).bind fun x7 =>
    (palingref15_At a1 x7.dev r4.2.1).bind fun r9 =>
    some (r9, true)

def palingref21_Crossed_L1 (a1 : Api_Net) (a2 : Int) (l5 : List Int) (l6 : List Int) (v7 : Int) : Option (((List Int) × Int) ⊕ ((List Int))) :=
  if (decide (v7 < ((List.length l5) : Int))) = true then
    if (lin l5 v7) = true then
      (l5[(Int.toNat v7)]?).bind fun x10 =>
      (nth a1.domains a2).bind fun x12 =>
      (palingref17_Domain a1 x10 x12.vlan).bind fun r14 =>
      if (r14.2) = true then
        if (roomy 8 (l6 ++ [r14.1])) = true then
          some (Sum.inl (l6 ++ [r14.1], wr_i64 (v7 + 1)))
        else
          none
      else
        some (Sum.inl (l6, wr_i64 (v7 + 1)))
    else
      none
  else
    some (Sum.inr l6)

def palingref21_Crossed (a1 : Api_Net) (a2 : Int) : Option (((List Int))) :=
  (palingref15_Members a1 a2).bind fun r3 => match r3 with
  | l5 =>
    (loopM (fun s : (List Int) × Int => match s with | (l6, v7) => palingref21_Crossed_L1 a1 a2 l5 l6 v7) ([], 0)).bind fun r22 => match r22 with
    | l20 =>
      some l20

def palingref21_least_L1 (a1 : Api_Net) (a2 : Bool) (l3 : List Int) (v4 : Int) : Option (((List Int) × Int) ⊕ ((List Int))) :=
  if (decide (v4 < (a1.domains.length : Int))) = true then
    if (roomy 8 (l3 ++ [v4])) = true then
      some (Sum.inl (l3 ++ [v4], wr_i64 (v4 + 1)))
    else
      none
  else
    some (Sum.inr l3)

def palingref21_least_J4 (a1 : Api_Net) (a2 : Bool) (l11 : List Int) (v15 : Int) (l17 : List Int) (v18 : Int) (l22 : List Int) : Option ((List Int)) :=
  if (a2) = true then
    (nth a1.domains v18).bind fun x24 =>
    if (roomy 8 (l22 ++ x24.peers)) = true then
      some (l22 ++ x24.peers)
    else
      none
  else
    some l22

def palingref21_least_J6 (a1 : Api_Net) (a2 : Bool) (l11 : List Int) (v15 : Int) (v18 : Int) (l34 : List Int) (l37 : List Int) (v38 : Int) (x41 : Int) : Option (Int) :=
  if (lin l34 v38) = true then
    (l34[(Int.toNat v38)]?).bind fun x44 =>
    if (lin l37 x44) = true then
      (l37[(Int.toNat x44)]?).bind fun x47 =>
      if (decide (x47 < x41)) = true then
        (l34[(Int.toNat v38)]?).bind fun x50 =>
        if (lin l37 x50) = true then
          (l37[(Int.toNat x50)]?).bind fun x53 =>
          some x53
        else
          none
      else
        some x41
    else
      none
  else
    none

def palingref21_least_L5 (a1 : Api_Net) (a2 : Bool) (l11 : List Int) (v15 : Int) (v18 : Int) (l34 : List Int) (l37 : List Int) (v38 : Int) : Option (((List Int) × Int) ⊕ ((List Int))) :=
  if (decide (v38 < ((List.length l34) : Int))) = true then
    if (lin l37 v18) = true then
      (l37[(Int.toNat v18)]?).bind fun x41 =>
      (palingref21_least_J6 a1 a2 l11 v15 v18 l34 l37 v38 x41).bind fun r58 => match r58 with
      | v56 =>
        (l37[(Int.toNat v18)]?).bind fun x59 =>
        if (lin l34 v38) = true then
          (l34[(Int.toNat v38)]?).bind fun x62 =>
          if (lin (List.set l37 (Int.toNat v18) v56) x62) = true then
            ((List.set l37 (Int.toNat v18) v56)[(Int.toNat x62)]?).bind fun x65 =>
            some (Sum.inl (List.set (List.set l37 (Int.toNat v18) v56) (Int.toNat x62) v56, wr_i64 (v38 + 1)))
          else
            none
        else
          none
    else
      none
  else
    some (Sum.inr l37)

def palingref21_least_L3 (a1 : Api_Net) (a2 : Bool) (l11 : List Int) (v15 : Int) (l17 : List Int) (v18 : Int) : Option (((List Int) × Int) ⊕ ((List Int))) :=
  if (decide (v18 < (a1.domains.length : Int))) = true then
    (palingref21_Crossed a1 v18).bind fun r20 => match r20 with
    | l22 =>
      (palingref21_least_J4 a1 a2 l11 v15 l17 v18 l22).bind fun r36 => match r36 with
      | l34 =>
        (loopM (fun s : (List Int) × Int => match s with | (l37, v38) => palingref21_least_L5 a1 a2 l11 v15 v18 l34 l37 v38) (l17, 0)).bind fun r75 => match r75 with
        | l73 =>
          some (Sum.inl (l73, wr_i64 (v18 + 1)))
  else
    some (Sum.inr l17)

def palingref21_least_L2 (a1 : Api_Net) (a2 : Bool) (l11 : List Int) (l14 : List Int) (v15 : Int) : Option (((List Int) × Int) ⊕ ((List Int))) :=
  if (decide (v15 < (a1.domains.length : Int))) = true then
    (loopM (fun s : (List Int) × Int => match s with | (l17, v18) => palingref21_least_L3 a1 a2 l11 v15 l17 v18) (l14, 0)).bind fun r83 => match r83 with
    | l81 =>
      some (Sum.inl (l81, wr_i64 (v15 + 1)))
  else
    some (Sum.inr l14)

def palingref21_least (a1 : Api_Net) (a2 : Bool) : Option (((List Int) × Nat)) :=
  (loopM (fun s : (List Int) × Int => match s with | (l3, v4) => palingref21_least_L1 a1 a2 l3 v4) ([], 0)).bind fun r13 => match r13 with
  | l11 =>
    (loopM (fun s : (List Int) × Int => match s with | (l14, v15) => palingref21_least_L2 a1 a2 l11 l14 v15) (l11, 0)).bind fun r88 => match r88 with
    | l86 =>
      some (l86, (List.length l11))

def palingref21_Links (a1 : Api_Net) : Option (((List Int) × Nat)) :=
  (palingref21_least a1 false).bind fun r2 => match r2 with
  | (l4, n5) =>
    some (l4, n5)

def palingref21_mesh_L1 (a1 : Api_Net) (a2 : Int) (v3 : Int) (v4 : Int) : Option ((Int × Int) ⊕ (Int)) :=
  (nth a1.domains a2).bind fun x5 =>
  if (decide (v4 < (x5.peers.length : Int))) = true then
    (nth a1.domains a2).bind fun x8 =>
    (nth x8.peers v4).bind fun x10 =>
    if (decide (x10 < v3)) = true then
      (nth a1.domains a2).bind fun x13 =>
      (nth x13.peers v4).bind fun x15 =>
      some (Sum.inl (x15, wr_i64 (v4 + 1)))
    else
      some (Sum.inl (v3, wr_i64 (v4 + 1)))
  else
    some (Sum.inr v3)

def palingref21_mesh (a1 : Api_Net) (a2 : Int) : Option (Int) :=
  (loopM (fun s : Int × Int => match s with | (v3, v4) => palingref21_mesh_L1 a1 a2 v3 v4) (a2, 0)).bind fun r20 => match r20 with
  | v18 =>
    some v18

def palingref21_way_J3 (a1 : List Int) (a2 : List Int) (a4 : Int) (v7 : Int) (l9 : List Int) (l10 : List Int) (v11 : Int) : Option ((List Int)) :=
  (nth a1 v11).bind fun x13 =>
  (palingref15_In l9 x13).bind fun r15 =>
  if (r15) = true then
    (nth a2 v11).bind fun x18 =>
    (palingref15_In l10 x18).bind fun r20 =>
    if (!r20) = true then
      (nth a2 v11).bind fun x23 =>
      if (roomy 8 (l10 ++ [x23])) = true then
        some (l10 ++ [x23])
      else
        none
    else
      some l10
  else
    some l10

def palingref21_way_L2 (a1 : List Int) (a2 : List Int) (a4 : Int) (v7 : Int) (l9 : List Int) (l10 : List Int) (v11 : Int) : Option (((List Int) × (List Int) × Int) ⊕ (((List Int) × (List Int)))) :=
  if (decide (v11 < (a1.length : Int))) = true then
    (palingref21_way_J3 a1 a2 a4 v7 l9 l10 v11).bind fun r36 => match r36 with
    | l34 =>
      (nth a2 v11).bind fun x37 =>
      (palingref15_In l34 x37).bind fun r39 =>
      if (r39) = true then
        (nth a1 v11).bind fun x42 =>
        (palingref15_In l9 x42).bind fun r44 =>
        if (!r44) = true then
          (nth a1 v11).bind fun x47 =>
          if (roomy 8 (l9 ++ [x47])) = true then
            some (Sum.inl (l9 ++ [x47], l34, wr_i64 (v11 + 1)))
          else
            none
        else
          some (Sum.inl (l9, l34, wr_i64 (v11 + 1)))
      else
        some (Sum.inl (l9, l34, wr_i64 (v11 + 1)))
  else
    some (Sum.inr (l9, l10))

def palingref21_way_L1 (a1 : List Int) (a2 : List Int) (a4 : Int) (l5 : List Int) (l6 : List Int) (v7 : Int) : Option (((List Int) × (List Int) × Int) ⊕ ((List Int))) :=
  if (decide (v7 ≤ (wr_i64 (2 * (a1.length : Int))))) = true then
    (loopM (fun s : (List Int) × (List Int) × Int => match s with | (l9, l10, v11) => palingref21_way_L2 a1 a2 a4 v7 l9 l10 v11) (l5, l6, 0)).bind fun r67 => match r67 with
    | (l64, l65) =>
      some (Sum.inl (l64, l65, wr_i64 (v7 + 1)))
  else
    some (Sum.inr l6)

def palingref21_way (a1 : List Int) (a2 : List Int) (a3 : Int) (a4 : Int) : Option (Bool) :=
  (loopM (fun s : (List Int) × (List Int) × Int => match s with | (l5, l6, v7) => palingref21_way_L1 a1 a2 a4 l5 l6 v7) ([a3], [], 0)).bind fun r73 => match r73 with
  | l71 =>
    (palingref15_In l71 a4).bind fun r74 =>
    some r74

def palingref21_Loop_L1 (a1 : Api_Net) (l4 : List Int) (n5 : Nat) (l6 : List Int) (l7 : List Int) (v8 : Int) : Option (((List Int) × (List Int) × Int) ⊕ (Int ⊕ Unit)) :=
  if (decide (v8 < (a1.domains.length : Int))) = true then
    (nth a1.domains v8).bind fun x10 =>
    if ((x10.peers.length : Int) == 0) = true then
      some (Sum.inl (l6, l7, wr_i64 (v8 + 1)))
    else
      if (lin l4 v8) = true then
        (l4[(Int.toNat v8)]?).bind fun x14 =>
        (palingref21_mesh a1 v8).bind fun r16 =>
        (palingref21_way l6 l7 x14 r16).bind fun r18 =>
        if (r18) = true then
          (nth a1.domains v8).bind fun x21 =>
          some (Sum.inr (Sum.inl x21.row))
        else
          (l4[(Int.toNat v8)]?).bind fun x23 =>
          if (roomy 8 (l6 ++ [x23])) = true then
            (palingref21_mesh a1 v8).bind fun r26 =>
            if (roomy 8 (l7 ++ [r26])) = true then
              some (Sum.inl (l6 ++ [x23], l7 ++ [r26], wr_i64 (v8 + 1)))
            else
              none
          else
            none
      else
        none
  else
    some (Sum.inr (Sum.inr ()))

def palingref21_Loop (a1 : Api_Net) : Option (Int × Bool) :=
  (palingref21_Links a1).bind fun r2 => match r2 with
  | (l4, n5) =>
    (loopM (fun s : (List Int) × (List Int) × Int => match s with | (l6, l7, v8) => palingref21_Loop_L1 a1 l4 n5 l6 l7 v8) ([], [], 0)).bind fun r32 => match r32 with
    | Sum.inl v30 =>
      some (v30, true)
    | Sum.inr () =>
      some (0, false)

def palinglaw21_CompsLoops (a1 : Api_Net) : Option (Bool) :=
  (palinglaw15_Great a1).bind fun r2 =>
  if (r2) = true then
    (palinglaw21_works).bind fun r5 =>
    some r5
  else
    (comps_Loop a1).bind fun r7 =>
    (palingref15_Right a1).bind fun r9 =>
    if (!r9) = true then
      if (r7.1 == 0) = true then
        if (!r7.2) = true then
          (palinglaw21_works).bind fun r14 =>
          some r14
        else
          some false
      else
        some false
    else
      (palingref21_Loop a1).bind fun r16 =>
      if (r7.1 == r16.1) = true then
        if (r7.2 == r16.2) = true then
          (palinglaw21_works).bind fun r20 =>
          some r20
        else
          some false
      else
        some false

def comps_All_L2 (a1 : Api_Net) (v12 : Int) (x14 : Api_Domain) (l16 : List Int) (v17 : Int) : Option (((List Int) × Int) ⊕ ((List Int))) :=
  if (decide (v17 < (x14.peers.length : Int))) = true then
    (nth x14.peers v17).bind fun x19 =>
    (comps_forest_join_own l16 (Int.toNat (a1.domains.length : Int)) v12 x19).bind fun r21 => match r21 with
    | (l23, v24) =>
      some (Sum.inl (l23, wr_i64 (v17 + 1)))
  else
    some (Sum.inr l16)

def comps_All_L1 (a1 : Api_Net) (l11 : List Int) (v12 : Int) : Option (((List Int) × Int) ⊕ ((List Int))) :=
  if (decide (v12 < (a1.domains.length : Int))) = true then
    (nth a1.domains v12).bind fun x14 =>
    (loopM (fun s : (List Int) × Int => match s with | (l16, v17) => comps_All_L2 a1 v12 x14 l16 v17) (l11, 0)).bind fun r32 => match r32 with
    | l30 =>
      some (Sum.inl (l30, wr_i64 (v12 + 1)))
  else
    some (Sum.inr l11)

def comps_All (a1 : Api_Net) : Option (((List Int))) :=
  (names_Right a1).bind fun r2 =>
  if (!r2) = true then
    some []
  else
    (comps_alone (a1.domains.length : Int)).bind fun r5 => match r5 with
    | l7 =>
      (comps_linked_own a1 l7 (Int.toNat (a1.domains.length : Int))).bind fun r8 => match r8 with
      | l10 =>
        (loopM (fun s : (List Int) × Int => match s with | (l11, v12) => comps_All_L1 a1 l11 v12) (l10, 0)).bind fun r37 => match r37 with
        | l35 =>
          (comps_forest_tops_own l35 (Int.toNat (a1.domains.length : Int)) ((Int.toNat (a1.domains.length : Int)) : Int)).bind fun r38 => match r38 with
          | (l40, l41) =>
            some l41

def palingref21_All (a1 : Api_Net) : Option (((List Int) × Nat)) :=
  (palingref21_least a1 true).bind fun r2 => match r2 with
  | (l4, n5) =>
    some (l4, n5)

def palinglaw21_CompsTells (a1 : Api_Net) : Option (Bool) :=
  (palinglaw15_Great a1).bind fun r2 =>
  if (r2) = true then
    (palinglaw21_works).bind fun r5 =>
    some r5
  else
    (comps_Links a1).bind fun r7 => match r7 with
    | l9 =>
      (comps_All a1).bind fun r10 => match r10 with
      | l12 =>
        (palingref15_Right a1).bind fun r13 =>
        if (!r13) = true then
          if (((List.length l9) : Int) == 0) = true then
            if (((List.length l12) : Int) == 0) = true then
              (palinglaw21_works).bind fun r18 =>
              some r18
            else
              some false
          else
            some false
        else
          (palingref21_Links a1).bind fun r20 => match r20 with
          | (l22, n23) =>
            (palingref03_Ints l9 l22).bind fun r24 =>
            if (r24) = true then
              (palingref21_All a1).bind fun r27 => match r27 with
              | (l29, n30) =>
                (palingref03_Ints l12 l29).bind fun r31 =>
                if (r31) = true then
                  (palinglaw21_works).bind fun r34 =>
                  some r34
                else
                  some false
            else
              some false

def palinglaw21_full_L4 (a1 : Api_Net) (v2 : Int) (x4 : Api_Domain) (v6 : Int) (x8 : Int) (v10 : Int) (x12 : Int) (x14 : Api_Domain) (v16 : Bool) (v17 : Int) : Option ((Bool × Int) ⊕ (Bool)) :=
  if (decide (v17 < (x14.peers.length : Int))) = true then
    (nth x14.peers v17).bind fun x19 =>
    if (v16) = true then
      some (Sum.inl (true, wr_i64 (v17 + 1)))
    else
      some (Sum.inl (x19 == x12, wr_i64 (v17 + 1)))
  else
    some (Sum.inr v16)

def palinglaw21_full_L3 (a1 : Api_Net) (v2 : Int) (x4 : Api_Domain) (v6 : Int) (x8 : Int) (v10 : Int) : Option ((Int) ⊕ (Unit ⊕ Unit)) :=
  if (decide (v10 < (x4.peers.length : Int))) = true then
    (nth x4.peers v10).bind fun x12 =>
    (nth a1.domains x8).bind fun x14 =>
    (loopM (fun s : Bool × Int => match s with | (v16, v17) => palinglaw21_full_L4 a1 v2 x4 v6 x8 v10 x12 x14 v16 v17) (x12 == x8, 0)).bind fun r25 => match r25 with
    | v23 =>
      if (!v23) = true then
        some (Sum.inr (Sum.inl ()))
      else
        some (Sum.inl (wr_i64 (v10 + 1)))
  else
    some (Sum.inr (Sum.inr ()))

def palinglaw21_full_L2 (a1 : Api_Net) (v2 : Int) (x4 : Api_Domain) (v6 : Int) : Option ((Int) ⊕ (Unit ⊕ Unit)) :=
  if (decide (v6 < (x4.peers.length : Int))) = true then
    (nth x4.peers v6).bind fun x8 =>
    (loopM (palinglaw21_full_L3 a1 v2 x4 v6 x8) 0).bind fun r28 => match r28 with
    | Sum.inl () =>
      some (Sum.inr (Sum.inl ()))
    | Sum.inr () =>
      some (Sum.inl (wr_i64 (v6 + 1)))
  else
    some (Sum.inr (Sum.inr ()))

def palinglaw21_full_L1 (a1 : Api_Net) (v2 : Int) : Option ((Int) ⊕ (Unit ⊕ Unit)) :=
  if (decide (v2 < (a1.domains.length : Int))) = true then
    (nth a1.domains v2).bind fun x4 =>
    (loopM (palinglaw21_full_L2 a1 v2 x4) 0).bind fun r30 => match r30 with
    | Sum.inl () =>
      some (Sum.inr (Sum.inl ()))
    | Sum.inr () =>
      some (Sum.inl (wr_i64 (v2 + 1)))
  else
    some (Sum.inr (Sum.inr ()))

def palinglaw21_full (a1 : Api_Net) : Option (Bool) :=
  (loopM (palinglaw21_full_L1 a1) 0).bind fun r32 => match r32 with
  | Sum.inl () =>
    some false
  | Sum.inr () =>
    some true

def palinglaw21_CompsFew_L2 (a1 : Api_Net) (v11 : Int) (x13 : Api_Domain) (v15 : Int) : Option ((Int) ⊕ (Bool ⊕ Unit)) :=
  if (decide (v15 < (x13.peers.length : Int))) = true then
    (nth x13.peers v15).bind fun x17 =>
    if (decide (x17 < 0)) = true then
      some (Sum.inr (Sum.inl false))
    else
      if (decide (x17 ≥ (a1.domains.length : Int))) = true then
        some (Sum.inr (Sum.inl false))
      else
        (nth a1.domains x17).bind fun x21 =>
        if ((x21.peers.length : Int) != (x13.peers.length : Int)) = true then
          some (Sum.inr (Sum.inl true))
        else
          some (Sum.inl (wr_i64 (v15 + 1)))
  else
    some (Sum.inr (Sum.inr ()))

def palinglaw21_CompsFew_L1 (a1 : Api_Net) (v11 : Int) : Option ((Int) ⊕ (Bool ⊕ Unit)) :=
  if (decide (v11 < (a1.domains.length : Int))) = true then
    (nth a1.domains v11).bind fun x13 =>
    (loopM (palinglaw21_CompsFew_L2 a1 v11 x13) 0).bind fun r27 => match r27 with
    | Sum.inl v25 =>
      some (Sum.inr (Sum.inl v25))
    | Sum.inr () =>
      some (Sum.inl (wr_i64 (v11 + 1)))
  else
    some (Sum.inr (Sum.inr ()))

def palinglaw21_CompsFew_J4 (a1 : Api_Net) (l34 : List Int) (l37 : List Int) (r38 : Int × Bool) (v42 : Int) (v43 : Int) (v44 : Int) (v45 : Int) (v46 : Int) (x48 : Api_Domain) : Option (Int) :=
  if (lin l34 v46) = true then
    (l34[(Int.toNat v46)]?).bind fun x51 =>
    if (x51 == v46) = true then
      some (wr_i64 (v42 + 1))
    else
      some v42
  else
    none

def palinglaw21_CompsFew_J5 (a1 : Api_Net) (l34 : List Int) (l37 : List Int) (r38 : Int × Bool) (v43 : Int) (v44 : Int) (v45 : Int) (v46 : Int) (x48 : Api_Domain) (v55 : Int) : Option (Int) :=
  if (lin l37 v46) = true then
    (l37[(Int.toNat v46)]?).bind fun x59 =>
    if (x59 == v46) = true then
      some (wr_i64 (v43 + 1))
    else
      some v43
  else
    none

def palinglaw21_CompsFew_L6 (a1 : Api_Net) (l34 : List Int) (l37 : List Int) (r38 : Int × Bool) (v44 : Int) (v45 : Int) (v46 : Int) (x48 : Api_Domain) (v55 : Int) (v63 : Int) (v66 : Bool) (v67 : Int) : Option ((Bool × Int) ⊕ (Bool)) :=
  if (decide (v67 < (x48.peers.length : Int))) = true then
    (nth x48.peers v67).bind fun x69 =>
    if (v66) = true then
      some (Sum.inl (decide (x69 > v46), wr_i64 (v67 + 1)))
    else
      some (Sum.inl (false, wr_i64 (v67 + 1)))
  else
    some (Sum.inr v66)

def palinglaw21_CompsFew_L3 (a1 : Api_Net) (l34 : List Int) (l37 : List Int) (r38 : Int × Bool) (v42 : Int) (v43 : Int) (v44 : Int) (v45 : Int) (v46 : Int) : Option ((Int × Int × Int × Int × Int) ⊕ ((Int × Int × Int × Int))) :=
  if (decide (v46 < (a1.domains.length : Int))) = true then
    (nth a1.domains v46).bind fun x48 =>
    (palinglaw21_CompsFew_J4 a1 l34 l37 r38 v42 v43 v44 v45 v46 x48).bind fun r57 => match r57 with
    | v55 =>
      (palinglaw21_CompsFew_J5 a1 l34 l37 r38 v43 v44 v45 v46 x48 v55).bind fun r65 => match r65 with
      | v63 =>
        (loopM (fun s : Bool × Int => match s with | (v66, v67) => palinglaw21_CompsFew_L6 a1 l34 l37 r38 v44 v45 v46 x48 v55 v63 v66 v67) (decide ((x48.peers.length : Int) > 0), 0)).bind fun r75 => match r75 with
        | v73 =>
          if (decide ((x48.peers.length : Int) > 0)) = true then
            if (v73) = true then
              some (Sum.inl (v55, v63, wr_i64 (v44 + 1), wr_i64 (v45 + 1), wr_i64 (v46 + 1)))
            else
              some (Sum.inl (v55, v63, wr_i64 (v44 + 1), v45, wr_i64 (v46 + 1)))
          else
            if (v73) = true then
              some (Sum.inl (v55, v63, v44, wr_i64 (v45 + 1), wr_i64 (v46 + 1)))
            else
              some (Sum.inl (v55, v63, v44, v45, wr_i64 (v46 + 1)))
  else
    some (Sum.inr (v42, v43, v44, v45))

def palinglaw21_CompsFew (a1 : Api_Net) : Option (Bool) :=
  (palinglaw21_works).bind fun r2 =>
  if (!r2) = true then
    some false
  else
    (palinglaw15_Great a1).bind fun r5 =>
    if (r5) = true then
      some true
    else
      (names_Right a1).bind fun r8 =>
      if (!r8) = true then
        some true
      else
        (loopM (palinglaw21_CompsFew_L1 a1) 0).bind fun r31 => match r31 with
        | Sum.inl v29 =>
          some v29
        | Sum.inr () =>
          (comps_Links a1).bind fun r32 => match r32 with
          | l34 =>
            (comps_All a1).bind fun r35 => match r35 with
            | l37 =>
              (comps_Loop a1).bind fun r38 =>
              if (((List.length l34) : Int) != (a1.domains.length : Int)) = true then
                some false
              else
                if (((List.length l37) : Int) != ((List.length l34) : Int)) = true then
                  some false
                else
                  (loopM (fun s : Int × Int × Int × Int × Int => match s with | (v42, v43, v44, v45, v46) => palinglaw21_CompsFew_L3 a1 l34 l37 r38 v42 v43 v44 v45 v46) (0, 0, 0, 0, 0)).bind fun r88 => match r88 with
                  | (v83, v84, v85, v86) =>
                    (palinglaw21_full a1).bind fun r89 =>
                    if (!r89) = true then
                      some true
                    else
                      some ((v84 == (wr_i64 ((wr_i64 (v83 + v86)) - v85))) == (!r38.2))

def names_Members_L1 (a1 : Api_Net) (a2 : Int) (l9 : List Int) (v10 : Int) : Option (((List Int) × Int) ⊕ ((List Int))) :=
  if (decide (v10 < (a1.ports.length : Int))) = true then
    (nth a1.ports v10).bind fun x12 =>
    (nth a1.domains a2).bind fun x14 =>
    if (x12.dev == x14.dev) = true then
      (nth a1.domains a2).bind fun x17 =>
      (names_Member x12 x17.vlan).bind fun r19 =>
      if (r19) = true then
        if (roomy 8 (l9 ++ [v10])) = true then
          some (Sum.inl (l9 ++ [v10], wr_i64 (v10 + 1)))
        else
          none
      else
        some (Sum.inl (l9, wr_i64 (v10 + 1)))
    else
      some (Sum.inl (l9, wr_i64 (v10 + 1)))
  else
    some (Sum.inr l9)

def names_Members (a1 : Api_Net) (a2 : Int) : Option (((List Int))) :=
  (names_Right a1).bind fun r3 =>
  if (!r3) = true then
    some []
  else
    (names_place_Domain a1.domains a2).bind fun r6 =>
    if (!r6) = true then
      some []
    else
      (loopM (fun s : (List Int) × Int => match s with | (l9, v10) => names_Members_L1 a1 a2 l9 v10) ([], 0)).bind fun r27 => match r27 with
      | l25 =>
        some l25

def palinglaw21_CompsHang_L2 (a1 : Api_Net) (l13 : List Int) (l16 : List Int) (v19 : Int) (x59 : Api_Domain) (v61 : Int) : Option ((Int) ⊕ (Unit ⊕ Unit)) :=
  if (decide (v61 < (x59.peers.length : Int))) = true then
    (nth x59.peers v61).bind fun x63 =>
    if (decide (x63 < 0)) = true then
      some (Sum.inr (Sum.inl ()))
    else
      if (decide (x63 ≥ ((List.length l16) : Int))) = true then
        some (Sum.inr (Sum.inl ()))
      else
        if (lin l16 x63) = true then
          (l16[(Int.toNat x63)]?).bind fun x68 =>
          if (lin l16 v19) = true then
            (l16[(Int.toNat v19)]?).bind fun x71 =>
            if (x68 != x71) = true then
              some (Sum.inr (Sum.inl ()))
            else
              some (Sum.inl (wr_i64 (v61 + 1)))
          else
            none
        else
          none
  else
    some (Sum.inr (Sum.inr ()))

def palinglaw21_CompsHang_L3 (a1 : Api_Net) (l13 : List Int) (l16 : List Int) (v19 : Int) (l78 : List Int) (v79 : Int) : Option ((Int) ⊕ (Unit ⊕ Unit)) :=
  if (decide (v79 < ((List.length l78) : Int))) = true then
    if (lin l78 v79) = true then
      (l78[(Int.toNat v79)]?).bind fun x82 =>
      (nth a1.domains v19).bind fun x84 =>
      (links_Domain a1 x82 x84.vlan).bind fun r86 =>
      if (r86.2) = true then
        if (decide (r86.1 < 0)) = true then
          some (Sum.inr (Sum.inl ()))
        else
          if (decide (r86.1 ≥ ((List.length l13) : Int))) = true then
            some (Sum.inr (Sum.inl ()))
          else
            if (lin l13 r86.1) = true then
              (l13[(Int.toNat r86.1)]?).bind fun x92 =>
              if (lin l13 v19) = true then
                (l13[(Int.toNat v19)]?).bind fun x95 =>
                if (x92 != x95) = true then
                  some (Sum.inr (Sum.inl ()))
                else
                  some (Sum.inl (wr_i64 (v79 + 1)))
              else
                none
            else
              none
      else
        some (Sum.inl (wr_i64 (v79 + 1)))
    else
      none
  else
    some (Sum.inr (Sum.inr ()))

def palinglaw21_CompsHang_L1 (a1 : Api_Net) (l13 : List Int) (l16 : List Int) (v19 : Int) : Option ((Int) ⊕ (Unit ⊕ Unit)) :=
  if (decide (v19 < ((List.length l13) : Int))) = true then
    if (lin l13 v19) = true then
      (l13[(Int.toNat v19)]?).bind fun x22 =>
      if (decide (x22 < 0)) = true then
        some (Sum.inr (Sum.inl ()))
      else
        (l13[(Int.toNat v19)]?).bind fun x25 =>
        if (decide (x25 > v19)) = true then
          some (Sum.inr (Sum.inl ()))
        else
          (l13[(Int.toNat v19)]?).bind fun x28 =>
          if (lin l13 x28) = true then
            (l13[(Int.toNat x28)]?).bind fun x31 =>
            (l13[(Int.toNat v19)]?).bind fun x33 =>
            if (x31 != x33) = true then
              some (Sum.inr (Sum.inl ()))
            else
              if (lin l16 v19) = true then
                (l16[(Int.toNat v19)]?).bind fun x37 =>
                if (decide (x37 < 0)) = true then
                  some (Sum.inr (Sum.inl ()))
                else
                  (l16[(Int.toNat v19)]?).bind fun x40 =>
                  if (decide (x40 > v19)) = true then
                    some (Sum.inr (Sum.inl ()))
                  else
                    (l16[(Int.toNat v19)]?).bind fun x43 =>
                    if (lin l16 x43) = true then
                      (l16[(Int.toNat x43)]?).bind fun x46 =>
                      (l16[(Int.toNat v19)]?).bind fun x48 =>
                      if (x46 != x48) = true then
                        some (Sum.inr (Sum.inl ()))
                      else
                        (l16[(Int.toNat v19)]?).bind fun x51 =>
                        (l13[(Int.toNat v19)]?).bind fun x53 =>
                        if (lin l16 x53) = true then
                          (l16[(Int.toNat x53)]?).bind fun x56 =>
                          if (x51 != x56) = true then
                            some (Sum.inr (Sum.inl ()))
                          else
                            (nth a1.domains v19).bind fun x59 =>
                            (loopM (palinglaw21_CompsHang_L2 a1 l13 l16 v19 x59) 0).bind fun r75 => match r75 with
                            | Sum.inl () =>
                              some (Sum.inr (Sum.inl ()))
                            | Sum.inr () =>
                              (names_Members a1 v19).bind fun r76 => match r76 with
                              | l78 =>
                                (loopM (palinglaw21_CompsHang_L3 a1 l13 l16 v19 l78) 0).bind fun r99 => match r99 with
                                | Sum.inl () =>
                                  some (Sum.inr (Sum.inl ()))
                                | Sum.inr () =>
                                  some (Sum.inl (wr_i64 (v19 + 1)))
                        else
                          none
                    else
                      none
              else
                none
          else
            none
    else
      none
  else
    some (Sum.inr (Sum.inr ()))

def palinglaw21_CompsHang (a1 : Api_Net) : Option (Bool) :=
  (palinglaw21_works).bind fun r2 =>
  if (!r2) = true then
    some false
  else
    (palinglaw15_Great a1).bind fun r5 =>
    if (r5) = true then
      some true
    else
      (names_Right a1).bind fun r8 =>
      if (!r8) = true then
        some true
      else
        (comps_Links a1).bind fun r11 => match r11 with
        | l13 =>
          (comps_All a1).bind fun r14 => match r14 with
          | l16 =>
            if (((List.length l13) : Int) != (a1.domains.length : Int)) = true then
              some false
            else
              if (((List.length l16) : Int) != ((List.length l13) : Int)) = true then
                some false
              else
                (loopM (palinglaw21_CompsHang_L1 a1 l13 l16) 0).bind fun r101 => match r101 with
                | Sum.inl () =>
                  some false
                | Sum.inr () =>
                  some true

def owners_Right_L1 (a1 : Api_Net) (a2 : List Int) (v7 : Int) : Option ((Int) ⊕ (Unit ⊕ Unit)) :=
  if (decide (v7 < (a2.length : Int))) = true then
    (nth a2 v7).bind fun x9 =>
    (nth a1.ports v7).bind fun x11 =>
    if (decide (x11.link ≥ 0)) = true then
      if (x9 != (-1)) = true then
        some (Sum.inr (Sum.inl ()))
      else
        if (!(decide (x11.link ≥ 0))) = true then
          if (decide (x9 < 0)) = true then
            some (Sum.inr (Sum.inl ()))
          else
            if (decide (x9 ≥ 10)) = true then
              some (Sum.inr (Sum.inl ()))
            else
              some (Sum.inl (wr_i64 (v7 + 1)))
        else
          some (Sum.inl (wr_i64 (v7 + 1)))
    else
      if (!(decide (x11.link ≥ 0))) = true then
        if (decide (x9 < 0)) = true then
          some (Sum.inr (Sum.inl ()))
        else
          if (decide (x9 ≥ 10)) = true then
            some (Sum.inr (Sum.inl ()))
          else
            some (Sum.inl (wr_i64 (v7 + 1)))
      else
        some (Sum.inl (wr_i64 (v7 + 1)))
  else
    some (Sum.inr (Sum.inr ()))

def owners_Right (a1 : Api_Net) (a2 : List Int) : Option (Bool) :=
  if ((a2.length : Int) != (a1.ports.length : Int)) = true then
    some false
  else
    (names_Right a1).bind fun r4 =>
    if (!r4) = true then
      some false
    else
      (loopM (owners_Right_L1 a1 a2) 0).bind fun r22 => match r22 with
      | Sum.inl () =>
        some false
      | Sum.inr () =>
        some true

def palingref23_Right_J2 (a1 : Api_Net) (a2 : List Int) (v7 : Int) : Option (Unit ⊕ Unit) :=
  (nth a1.ports v7).bind fun x9 =>
  if (x9.link != (-1)) = true then
    (nth a2 v7).bind fun x12 =>
    if (x12 != (-1)) = true then
      some (Sum.inl ())
    else
      some (Sum.inr ())
  else
    some (Sum.inr ())

def palingref23_Right_L1 (a1 : Api_Net) (a2 : List Int) (v7 : Int) : Option ((Int) ⊕ (Unit ⊕ Unit)) :=
  if (decide (v7 < (a2.length : Int))) = true then
    (palingref23_Right_J2 a1 a2 v7).bind fun r16 => match r16 with
    | Sum.inl () =>
      some (Sum.inr (Sum.inl ()))
    | Sum.inr () =>
      (nth a1.ports v7).bind fun x17 =>
      if (x17.link == (-1)) = true then
        (nth a2 v7).bind fun x20 =>
        if (decide (x20 < 0)) = true then
          some (Sum.inr (Sum.inl ()))
        else
          (nth a2 v7).bind fun x23 =>
          if (decide (x23 > 9)) = true then
            some (Sum.inr (Sum.inl ()))
          else
            some (Sum.inl (wr_i64 (v7 + 1)))
      else
        some (Sum.inl (wr_i64 (v7 + 1)))
  else
    some (Sum.inr (Sum.inr ()))

def palingref23_Right (a1 : Api_Net) (a2 : List Int) : Option (Bool) :=
  if ((a2.length : Int) != (a1.ports.length : Int)) = true then
    some false
  else
    (palingref15_Right a1).bind fun r4 =>
    if (!r4) = true then
      some false
    else
      (loopM (palingref23_Right_L1 a1 a2) 0).bind fun r27 => match r27 with
      | Sum.inl () =>
        some false
      | Sum.inr () =>
        some true

def owners_Of_L1 (a1 : List Int) (a2 : Int) (l3 : List Int) (v4 : Int) : Option (((List Int) × Int) ⊕ ((List Int))) :=
  if (decide (v4 < (a1.length : Int))) = true then
    (nth a1 v4).bind fun x6 =>
    if (x6 == a2) = true then
      if (roomy 8 (l3 ++ [v4])) = true then
        some (Sum.inl (l3 ++ [v4], wr_i64 (v4 + 1)))
      else
        none
    else
      some (Sum.inl (l3, wr_i64 (v4 + 1)))
  else
    some (Sum.inr l3)

def owners_Of (a1 : List Int) (a2 : Int) : Option (((List Int))) :=
  (loopM (fun s : (List Int) × Int => match s with | (l3, v4) => owners_Of_L1 a1 a2 l3 v4) ([], 0)).bind fun r14 => match r14 with
  | l12 =>
    some l12

def palingref23_Of_L1 (a1 : List Int) (a2 : Int) (l3 : List Int) (v4 : Int) : Option (((List Int) × Int) ⊕ ((List Int))) :=
  if (decide (v4 < (a1.length : Int))) = true then
    (nth a1 v4).bind fun x6 =>
    if (x6 == a2) = true then
      if (roomy 8 (l3 ++ [v4])) = true then
        some (Sum.inl (l3 ++ [v4], wr_i64 (v4 + 1)))
      else
        none
    else
      some (Sum.inl (l3, wr_i64 (v4 + 1)))
  else
    some (Sum.inr l3)

def palingref23_Of (a1 : List Int) (a2 : Int) : Option (((List Int))) :=
  (loopM (fun s : (List Int) × Int => match s with | (l3, v4) => palingref23_Of_L1 a1 a2 l3 v4) ([], 0)).bind fun r14 => match r14 with
  | l12 =>
    some l12

def palinglaw23_OwnersAsks (a1 : Api_Net) (a2 : List Int) (a3 : Int) : Option (Bool) :=
  (palinglaw15_Great a1).bind fun r4 =>
  if (r4) = true then
    (palinglaw23_works).bind fun r7 =>
    some r7
  else
    if (decide ((a2.length : Int) > 300)) = true then
      (palinglaw23_works).bind fun r10 =>
      some r10
    else
      (owners_Right a1 a2).bind fun r12 =>
      (palingref23_Right a1 a2).bind fun r14 =>
      if (r12 == r14) = true then
        (owners_Of a2 a3).bind fun r17 => match r17 with
        | l19 =>
          (palingref23_Of a2 a3).bind fun r20 => match r20 with
          | l22 =>
            (palingref03_Ints l19 l22).bind fun r23 =>
            if (r23) = true then
              (palinglaw23_works).bind fun r26 =>
              some r26
            else
              some false
      else
        some false

def palinglaw23_OwnersAll_L2 (a1 : Api_Net) (a2 : List Api_Tenant) (r14 : List Int) (v25 : Int) (x27 : Api_Tenant) (v29 : Int) (v30 : Int) : Option ((Int × Int) ⊕ (Unit ⊕ Int)) :=
  if (decide (v30 < (x27.devs.length : Int))) = true then
    if (decide (v30 < (x27.ports.length : Int))) = true then
      (nth x27.devs v30).bind fun x33 =>
      (names_Device a1 x33).bind fun r35 =>
      (nth x27.ports v30).bind fun x37 =>
      (names_Port a1 r35 x37).bind fun r39 =>
      if (decide (r39 < 0)) = true then
        some (Sum.inr (Sum.inl ()))
      else
        if (decide (r39 ≥ (r14.length : Int))) = true then
          some (Sum.inr (Sum.inl ()))
        else
          (nth r14 r39).bind fun x43 =>
          if (x43 != v25) = true then
            some (Sum.inr (Sum.inl ()))
          else
            some (Sum.inl (wr_i64 (v29 + 1), wr_i64 (v30 + 1)))
    else
      some (Sum.inr (Sum.inr v29))
  else
    some (Sum.inr (Sum.inr v29))

def palinglaw23_OwnersAll_L1 (a1 : Api_Net) (a2 : List Api_Tenant) (r14 : List Int) (v24 : Int) (v25 : Int) : Option ((Int × Int) ⊕ (Unit ⊕ Int)) :=
  if (decide (v25 < (a2.length : Int))) = true then
    (nth a2 v25).bind fun x27 =>
    (loopM (fun s : Int × Int => match s with | (v29, v30) => palinglaw23_OwnersAll_L2 a1 a2 r14 v25 x27 v29 v30) (v24, 0)).bind fun r49 => match r49 with
    | Sum.inl () =>
      some (Sum.inr (Sum.inl ()))
    | Sum.inr v47 =>
      (owners_Of r14 v25).bind fun r50 => match r50 with
      | l52 =>
        if (((List.length l52) : Int) != (x27.devs.length : Int)) = true then
          some (Sum.inr (Sum.inl ()))
        else
          some (Sum.inl (v47, wr_i64 (v25 + 1)))
  else
    some (Sum.inr (Sum.inr v24))

def palinglaw23_OwnersAll_L3 (a1 : Api_Net) (r14 : List Int) (v55 : Int) (v58 : Int) : Option ((Int) ⊕ (Unit ⊕ Unit)) :=
  if (decide (v58 < (a1.ports.length : Int))) = true then
    (nth a1.ports v58).bind fun x60 =>
    (nth r14 v58).bind fun x62 =>
    if (!((x62 == (-1)) == (decide (x60.link ≥ 0)))) = true then
      some (Sum.inr (Sum.inl ()))
    else
      some (Sum.inl (wr_i64 (v58 + 1)))
  else
    some (Sum.inr (Sum.inr ()))

def palinglaw23_OwnersAll (a1 : Api_Net) (a2 : List Api_Tenant) : Option (Bool) :=
  (palinglaw23_works).bind fun r3 =>
  if (!r3) = true then
    some false
  else
    (palinglaw15_Great a1).bind fun r6 =>
    if (r6) = true then
      some true
    else
      (palinglaw14_Great a2).bind fun r9 =>
      if (r9) = true then
        some true
      else
        (owners_Assign a1 a2).bind fun r12 => match r12 with
        | (r14, r15, r16, r17) =>
          if (r17 != 0) = true then
            some ((r14.length : Int) == 0)
          else
            if (r15 != 0) = true then
              some false
            else
              (owners_Right a1 r14).bind fun r20 =>
              if (!r20) = true then
                some false
              else
                if ((r14.length : Int) != (a1.ports.length : Int)) = true then
                  some false
                else
                  (loopM (fun s : Int × Int => match s with | (v24, v25) => palinglaw23_OwnersAll_L1 a1 a2 r14 v24 v25) (0, 0)).bind fun r57 => match r57 with
                  | Sum.inl () =>
                    some false
                  | Sum.inr v55 =>
                    (loopM (palinglaw23_OwnersAll_L3 a1 r14 v55) 0).bind fun r66 => match r66 with
                    | Sum.inl () =>
                      some false
                    | Sum.inr () =>
                      (owners_Of r14 (-1)).bind fun r67 => match r67 with
                      | l69 =>
                        some ((wr_i64 (v55 + ((List.length l69) : Int))) == (r14.length : Int))

def reach_place (a1 : Api_Net) (a2 : Int) : Option (Bool) :=
  if (decide (a2 ≥ 0)) = true then
    if (decide (a2 < (a1.domains.length : Int))) = true then
      (names_Right a1).bind fun r5 =>
      some r5
    else
      some false
  else
    some false

def mac_shift (a1 : Int) : Option (Int) :=
  some (wr_u64 (wr_i64 (8 * (wr_i64 (5 - a1)))))

def mac_Put_own_L1 (a2 : Int) (l3 : List Int) (v4 : Int) : Option (((List Int) × Int) ⊕ ((List Int))) :=
  if (decide (v4 < 6)) = true then
    (mac_shift v4).bind fun r6 =>
    if (decide (0 ≤ r6)) = true then
      if (roomy 1 (l3 ++ [(wr_u8 (Int.fdiv a2 (2 ^ (min (Int.toNat r6) 64))) : Int)])) = true then
        some (Sum.inl (l3 ++ [(wr_u8 (Int.fdiv a2 (2 ^ (min (Int.toNat r6) 64))) : Int)], wr_i64 (v4 + 1)))
      else
        none
    else
      none
  else
    some (Sum.inr l3)

def mac_Put_own (a1 : List Int) (a2 : Int) : Option (((List Int))) :=
  (loopM (fun s : (List Int) × Int => match s with | (l3, v4) => mac_Put_own_L1 a2 l3 v4) (a1, 0)).bind fun r14 => match r14 with
  | l12 =>
    some l12

def ether_Put (a1 : Api_Frame) : Option (((List Int) × Int)) :=
  if (decide (a1.dst > 281474976710655)) = true then
    some ([], 11)
  else
    if (decide (a1.src > 281474976710655)) = true then
      some ([], 11)
    else
      if (decide (a1.type_ < 0)) = true then
        some ([], 11)
      else
        if (decide (a1.type_ > 65535)) = true then
          some ([], 11)
        else
          if (decide ((a1.body.length : Int) > 1504)) = true then
            some ([], 14)
          else
            (mac_Put_own [] a1.dst).bind fun r7 => match r7 with
            | l9 =>
              (mac_Put_own l9 a1.src).bind fun r10 => match r10 with
              | l12 =>
                if (roomy 1 (l12 ++ [(wr_u8 (Int.fdiv a1.type_ (2 ^ 8)) : Int), (wr_u8 a1.type_ : Int)])) = true then
                  if (roomy 1 ((l12 ++ [(wr_u8 (Int.fdiv a1.type_ (2 ^ 8)) : Int), (wr_u8 a1.type_ : Int)]) ++ a1.body)) = true then
                    some ((l12 ++ [(wr_u8 (Int.fdiv a1.type_ (2 ^ 8)) : Int), (wr_u8 a1.type_ : Int)]) ++ a1.body, 0)
                  else
                    none
                else
                  none

def tag_Is (a1 : Api_Frame) : Option (Bool) :=
  some (a1.type_ == 33024)

def tag_Add_J1 (a1 : Api_Frame) (a2 : Int) (a3 : Int) : Option (Bool) :=
  (tag_Is a1).bind fun r4 =>
  if (r4) = true then
    some true
  else
    if (decide (a2 < 0)) = true then
      some true
    else
      if (decide (a2 > 4094)) = true then
        some true
      else
        if (decide (a3 < 0)) = true then
          some true
        else
          some (decide (a3 > 15))

def tag_Add_J2 (a1 : Api_Frame) (a2 : Int) (a3 : Int) : Option (Bool) :=
  if (decide (a1.type_ < 0)) = true then
    some true
  else
    some (decide (a1.type_ > 65535))

def tag_Add (a1 : Api_Frame) (a2 : Int) (a3 : Int) : Option (((List Int) × Int × Int × Int × Int)) :=
  (tag_Add_J1 a1 a2 a3).bind fun r13 => match r13 with
  | v11 =>
    if (v11) = true then
      some ([], 0, 0, 0, 15)
    else
      (tag_Add_J2 a1 a2 a3).bind fun r19 => match r19 with
      | v17 =>
        if (v17) = true then
          some ([], 0, 0, 0, 11)
        else
          if (decide ((a1.body.length : Int) > 1500)) = true then
            some ([], 0, 0, 0, 14)
          else
            if (roomy 1 ([(wr_u8 (Int.fdiv (bits_or .i64 (wr_i64 (a3 * 2 ^ 12)) a2) (2 ^ 8)) : Int), (wr_u8 (bits_or .i64 (wr_i64 (a3 * 2 ^ 12)) a2) : Int), (wr_u8 (Int.fdiv a1.type_ (2 ^ 8)) : Int), (wr_u8 a1.type_ : Int)] ++ a1.body)) = true then
              some ([(wr_u8 (Int.fdiv (bits_or .i64 (wr_i64 (a3 * 2 ^ 12)) a2) (2 ^ 8)) : Int), (wr_u8 (bits_or .i64 (wr_i64 (a3 * 2 ^ 12)) a2) : Int), (wr_u8 (Int.fdiv a1.type_ (2 ^ 8)) : Int), (wr_u8 a1.type_ : Int)] ++ a1.body, a1.dst, a1.src, 33024, 0)
            else
              none

def mac_Take_L1 (a1 : List Int) (a2 : Int) (v5 : Int) (v6 : Int) : Option ((Int × Int) ⊕ (Int)) :=
  if (decide (v6 < 6)) = true then
    (nth a1 (wr_i64 (a2 + v6))).bind fun x8 =>
    some (Sum.inl (bits_or .u64 (wr_u64 (v5 * 2 ^ 8)) (wr_u64 x8), wr_i64 (v6 + 1)))
  else
    some (Sum.inr v5)

def mac_Take (a1 : List Int) (a2 : Int) : Option (Int × Bool) :=
  if (decide (a2 < 0)) = true then
    some (0, false)
  else
    if (decide (a2 > (wr_i64 ((a1.length : Int) - 6)))) = true then
      some (0, false)
    else
      (loopM (fun s : Int × Int => match s with | (v5, v6) => mac_Take_L1 a1 a2 v5 v6) (0, 0)).bind fun r13 => match r13 with
      | v11 =>
        some (v11, true)

def ether_Take (a1 : List Int) : Option (((List Int) × Nat × Int × Int × Int × Int)) :=
  if (decide ((a1.length : Int) < 14)) = true then
    some ([], 0, 0, 0, 0, 10)
  else
    if (decide ((a1.length : Int) > 1518)) = true then
      some ([], 0, 0, 0, 0, 14)
    else
      (mac_Take a1 0).bind fun r4 =>
      (mac_Take a1 6).bind fun r6 =>
      if (mkok 1 (wr_i64 ((a1.length : Int) - 14)) (wr_i64 ((a1.length : Int) - 14))) = true then
        if (slok (List.length a1) 14 ((List.length a1) : Int)) = true then
          (nth a1 12).bind fun x10 =>
          (nth a1 13).bind fun x12 =>
          some (List.take 0 (List.replicate (Int.toNat (wr_i64 ((a1.length : Int) - 14))) (0 : Int)) ++ (List.take (min (List.length (List.drop (Int.toNat 14) (List.take (Int.toNat ((List.length a1) : Int)) a1))) ((List.length (List.replicate (Int.toNat (wr_i64 ((a1.length : Int) - 14))) (0 : Int))) - 0)) (List.drop (Int.toNat 14) (List.take (Int.toNat ((List.length a1) : Int)) a1)) ++ List.drop (0 + (min (List.length (List.drop (Int.toNat 14) (List.take (Int.toNat ((List.length a1) : Int)) a1))) ((List.length (List.replicate (Int.toNat (wr_i64 ((a1.length : Int) - 14))) (0 : Int))) - 0))) (List.replicate (Int.toNat (wr_i64 ((a1.length : Int) - 14))) (0 : Int))), (Int.toNat (wr_i64 ((a1.length : Int) - 14))), r4.1, r6.1, bits_or .i64 (wr_i64 ((wr_i64 x10) * 2 ^ 8)) (wr_i64 x12), 0)
        else
          none
      else
        none

def slices_Clone_byte (a1 : List Int) : Option (List Int) :=
  if roomy 1 a1 = true then some a1 else none

def tag_Strip (a1 : Api_Frame) : Option (((List Int) × Int × Int × Int × Int × Int × Int)) :=
  (tag_Is a1).bind fun r2 =>
  if (!r2) = true then
    some ([], 0, 0, 0, 0, 0, 11)
  else
    if (decide ((a1.body.length : Int) < 4)) = true then
      some ([], 0, 0, 0, 0, 0, 10)
    else
      (nth a1.body 0).bind fun x6 =>
      (nth a1.body 1).bind fun x8 =>
      (nth a1.body 2).bind fun x10 =>
      (nth a1.body 3).bind fun x12 =>
      if (decide ((bits_and .i64 (bits_or .i64 (wr_i64 ((wr_i64 x6) * 2 ^ 8)) (wr_i64 x8)) 4095) > 4094)) = true then
        some ([], 0, 0, 0, 0, 0, 15)
      else
        if ((bits_or .i64 (wr_i64 ((wr_i64 x10) * 2 ^ 8)) (wr_i64 x12)) == 33024) = true then
          some ([], 0, 0, 0, 0, 0, 15)
        else
          if (slok (List.length a1.body) 4 ((List.length a1.body) : Int)) = true then
            (slices_Clone_byte (List.drop (Int.toNat 4) (List.take (Int.toNat ((List.length a1.body) : Int)) a1.body))).bind fun r17 => match r17 with
            | l19 =>
              some (l19, a1.dst, a1.src, bits_or .i64 (wr_i64 ((wr_i64 x10) * 2 ^ 8)) (wr_i64 x12), bits_and .i64 (bits_or .i64 (wr_i64 ((wr_i64 x6) * 2 ^ 8)) (wr_i64 x8)) 4095, Int.fdiv (bits_or .i64 (wr_i64 ((wr_i64 x6) * 2 ^ 8)) (wr_i64 x8)) (2 ^ 12), 0)
          else
            none

def mac_Group (a1 : Int) : Option (Bool) :=
  some ((bits_and .u64 a1 1099511627776) != 0)

def enter_Vlan (a1 : Api_Port) (a2 : Bool) (a3 : Int) : Option (Int × Bool) :=
  if (!a2) = true then
    some (a1.native, a1.native != 0)
  else
    if (a3 == 0) = true then
      some (a1.native, a1.native != 0)
    else
      (slices_Contains_int a1.tagged a3).bind fun r6 =>
      if (r6) = true then
        some (a3, true)
      else
        some (0, false)

def enter_At_J1 (a1 : Api_Net) (a2 : Int) (l11 : List Int) (n12 : Nat) (v13 : Int) (v14 : Int) (v15 : Int) (v16 : Int) (r17 : Bool) : Option (((List Int) × Int × Int × Int × Nat × Int × Int)) :=
  if (v16 == 0) = true then
    if (r17) = true then
      (tag_Strip (⟨v13, v14, v15, l11⟩ : Api_Frame)).bind fun r21 => match r21 with
      | (l23, v24, v25, v26, v27, v28, v29) =>
        some (l23, v24, v25, v26, (List.length l23), v29, v27)
    else
      some (l11, v13, v14, v15, n12, v16, 0)
  else
    some (l11, v13, v14, v15, n12, v16, 0)

def enter_At_J2 (a1 : Api_Net) (a2 : Int) (r17 : Bool) (l67 : List Int) (v68 : Int) (v69 : Int) (v70 : Int) (n71 : Nat) (v72 : Int) (v73 : Int) : Option (Int) :=
  if (v72 == 0) = true then
    (mac_Group v69).bind fun r77 =>
    if (r77) = true then
      some 11
    else
      some v72
  else
    some v72

def enter_At_J3 (a1 : Api_Net) (l67 : List Int) (v68 : Int) (v69 : Int) (v70 : Int) (n71 : Nat) (v81 : Int) (x84 : Api_Port) (r86 : Int × Bool) : Option (Int) :=
  if (v81 == 0) = true then
    if (!r86.2) = true then
      some 16
    else
      some v81
  else
    some v81

def enter_At (a1 : Api_Net) (a2 : Int) (a3 : List Int) : Option (((List Int) × Nat × Int × Int × Int × Int × Int)) :=
  if (decide (a2 < 0)) = true then
    some ([], 0, 0, 0, 0, 0, 2)
  else
    if (decide (a2 ≥ (a1.ports.length : Int))) = true then
      some ([], 0, 0, 0, 0, 0, 2)
    else
      (names_Right a1).bind fun r6 =>
      if (!r6) = true then
        some ([], 0, 0, 0, 0, 0, 2)
      else
        (ether_Take a3).bind fun r9 => match r9 with
        | (l11, n12, v13, v14, v15, v16) =>
          (tag_Is (⟨v13, v14, v15, l11⟩ : Api_Frame)).bind fun r17 =>
          (enter_At_J1 a1 a2 l11 n12 v13 v14 v15 v16 r17).bind fun r75 => match r75 with
          | (l67, v68, v69, v70, n71, v72, v73) =>
            (enter_At_J2 a1 a2 r17 l67 v68 v69 v70 n71 v72 v73).bind fun r83 => match r83 with
            | v81 =>
              (nth a1.ports a2).bind fun x84 =>
              (enter_Vlan x84 r17 v73).bind fun r86 =>
              (enter_At_J3 a1 l67 v68 v69 v70 n71 v81 x84 r86).bind fun r93 => match r93 with
              | v91 =>
                if (v91 != 0) = true then
                  some ([], 0, 0, 0, 0, 0, v91)
                else
                  (names_Domain a1 x84.dev r86.1).bind fun r95 =>
                  some (l67, n71, r95, v68, v69, v70, 0)

def ether_Same (a1 : Api_Frame) (a2 : Api_Frame) : Option (Bool) :=
  if (a1.dst == a2.dst) = true then
    if (a1.src == a2.src) = true then
      if (a1.type_ == a2.type_) = true then
        some (seqB (bstr a1.body) (bstr a2.body))
      else
        some false
    else
      some false
  else
    some false

def palinglaw27_works : Option (Bool) :=
  (ether_Put (⟨1, 2, 2048, []⟩ : Api_Frame)).bind fun r1 => match r1 with
  | (l3, v4) =>
    (tag_Add (⟨1, 2, 2048, []⟩ : Api_Frame) 0 0).bind fun r5 => match r5 with
    | (l7, v8, v9, v10, v11) =>
      (tag_Add (⟨1, 2, 2048, []⟩ : Api_Frame) 10 0).bind fun r12 => match r12 with
      | (l14, v15, v16, v17, v18) =>
        (ether_Put (⟨v8, v9, v10, l7⟩ : Api_Frame)).bind fun r19 => match r19 with
        | (l21, v22) =>
          (ether_Put (⟨v15, v16, v17, l14⟩ : Api_Frame)).bind fun r23 => match r23 with
          | (l25, v26) =>
            (enter_At (⟨[(⟨0, 0, (⟨#[97]⟩ : ByteArray), 0, 0⟩ : Api_Device)], [(⟨0, 0, 10, 0, (-1), (⟨#[112]⟩ : ByteArray), []⟩ : Api_Port)], [], [(⟨0, 10, 0, (-1), 0, []⟩ : Api_Domain)], [], [], [], []⟩ : Api_Net) 0 l3).bind fun r27 => match r27 with
            | (l29, n30, v31, v32, v33, v34, v35) =>
              (enter_At (⟨[(⟨0, 0, (⟨#[97]⟩ : ByteArray), 0, 0⟩ : Api_Device)], [(⟨0, 0, 10, 0, (-1), (⟨#[112]⟩ : ByteArray), []⟩ : Api_Port)], [], [(⟨0, 10, 0, (-1), 0, []⟩ : Api_Domain)], [], [], [], []⟩ : Api_Net) 0 l21).bind fun r36 => match r36 with
              | (l38, n39, v40, v41, v42, v43, v44) =>
                (enter_At (⟨[(⟨0, 0, (⟨#[97]⟩ : ByteArray), 0, 0⟩ : Api_Device)], [(⟨0, 0, 10, 0, (-1), (⟨#[112]⟩ : ByteArray), []⟩ : Api_Port)], [], [(⟨0, 10, 0, (-1), 0, []⟩ : Api_Domain)], [], [], [], []⟩ : Api_Net) 0 l25).bind fun r45 => match r45 with
                | (l47, n48, v49, v50, v51, v52, v53) =>
                  if (v35 == 0) = true then
                    if (v31 == 0) = true then
                      if (v32 == 1) = true then
                        if (v44 == 0) = true then
                          (ether_Same (⟨v32, v33, v34, l29⟩ : Api_Frame) (⟨v41, v42, v43, l38⟩ : Api_Frame)).bind fun r58 =>
                          if (r58) = true then
                            some (v53 == 16)
                          else
                            some false
                        else
                          some false
                      else
                        some false
                    else
                      some false
                  else
                    some false

def palingref01_number_L1 (a1 : List Int) (v2 : Int) (v3 : Int) : Option ((Int × Int) ⊕ (Int)) :=
  if (decide (v3 < (a1.length : Int))) = true then
    (nth a1 v3).bind fun x5 =>
    some (Sum.inl (wr_u64 ((wr_u64 (v2 * 256)) + (wr_u64 x5)), wr_i64 (v3 + 1)))
  else
    some (Sum.inr v2)

def palingref01_number (a1 : List Int) : Option (Int) :=
  (loopM (fun s : Int × Int => match s with | (v2, v3) => palingref01_number_L1 a1 v2 v3) (0, 0)).bind fun r10 => match r10 with
  | v8 =>
    some v8

def palingref01_Take (a1 : List Int) (a2 : Int) : Option (Int × Bool) :=
  if (decide (a2 < 0)) = true then
    some (0, false)
  else
    if (decide (a2 > (a1.length : Int))) = true then
      some (0, false)
    else
      if (decide ((wr_i64 ((a1.length : Int) - a2)) < 6)) = true then
        some (0, false)
      else
        if (slok (List.length a1) a2 (wr_i64 (a2 + 6))) = true then
          (palingref01_number (List.drop (Int.toNat a2) (List.take (Int.toNat (wr_i64 (a2 + 6))) a1))).bind fun r7 =>
          some (r7, true)
        else
          none

def palingref04_Take (a1 : List Int) : Option (((List Int) × Int × Int × Int × Int)) :=
  if (decide ((a1.length : Int) < 14)) = true then
    some ([], 0, 0, 0, 10)
  else
    if (decide ((a1.length : Int) > 1518)) = true then
      some ([], 0, 0, 0, 14)
    else
      (palingref01_Take a1 0).bind fun r4 =>
      (palingref01_Take a1 6).bind fun r6 =>
      (nth a1 12).bind fun x8 =>
      (nth a1 13).bind fun x10 =>
      if (slok (List.length a1) 14 ((List.length a1) : Int)) = true then
        if (roomy 1 (List.drop (Int.toNat 14) (List.take (Int.toNat ((List.length a1) : Int)) a1))) = true then
          some (List.drop (Int.toNat 14) (List.take (Int.toNat ((List.length a1) : Int)) a1), r4.1, r6.1, wr_i64 ((wr_i64 ((wr_i64 x8) * 256)) + (wr_i64 x10)), 0)
        else
          none
      else
        none

def palingref05_Strip (a1 : Api_Frame) : Option (((List Int) × Int × Int × Int × Int × Int × Int)) :=
  if (a1.type_ != 33024) = true then
    some ([], 0, 0, 0, 0, 0, 11)
  else
    if (decide ((a1.body.length : Int) < 4)) = true then
      some ([], 0, 0, 0, 0, 0, 10)
    else
      (nth a1.body 0).bind fun x4 =>
      (nth a1.body 1).bind fun x6 =>
      (nth a1.body 2).bind fun x8 =>
      (nth a1.body 3).bind fun x10 =>
      if ((Int.tmod (wr_i64 ((wr_i64 ((wr_i64 x4) * 256)) + (wr_i64 x6))) 4096) == 4095) = true then
        some ([], 0, 0, 0, 0, 0, 15)
      else
        if ((wr_i64 ((wr_i64 ((wr_i64 x8) * 256)) + (wr_i64 x10))) == 33024) = true then
          some ([], 0, 0, 0, 0, 0, 15)
        else
          if (slok (List.length a1.body) 4 ((List.length a1.body) : Int)) = true then
            if (roomy 1 (List.drop (Int.toNat 4) (List.take (Int.toNat ((List.length a1.body) : Int)) a1.body))) = true then
              some (List.drop (Int.toNat 4) (List.take (Int.toNat ((List.length a1.body) : Int)) a1.body), a1.dst, a1.src, wr_i64 ((wr_i64 ((wr_i64 x8) * 256)) + (wr_i64 x10)), Int.tmod (wr_i64 ((wr_i64 ((wr_i64 x4) * 256)) + (wr_i64 x6))) 4096, wr_i64 (Int.tdiv (wr_i64 ((wr_i64 ((wr_i64 x4) * 256)) + (wr_i64 x6))) 4096), 0)
            else
              none
          else
            none

def palingref01_Bytes_L2 (a1 : Int) (l2 : List Int) (v3 : Int) (v5 : Int) (v6 : Int) : Option ((Int × Int) ⊕ (Int)) :=
  if (decide (v6 < v3)) = true then
    some (Sum.inl (wr_u64 (Int.tdiv v5 256), wr_i64 (v6 + 1)))
  else
    some (Sum.inr v5)

def palingref01_Bytes_L1 (a1 : Int) (l2 : List Int) (v3 : Int) : Option (((List Int) × Int) ⊕ ((List Int))) :=
  if (decide (v3 ≥ 0)) = true then
    (loopM (fun s : Int × Int => match s with | (v5, v6) => palingref01_Bytes_L2 a1 l2 v3 v5 v6) (a1, 0)).bind fun r11 => match r11 with
    | v9 =>
      if (roomy 1 (l2 ++ [(wr_u8 (Int.tmod v9 256) : Int)])) = true then
        some (Sum.inl (l2 ++ [(wr_u8 (Int.tmod v9 256) : Int)], wr_i64 (v3 - 1)))
      else
        none
  else
    some (Sum.inr l2)

def palingref01_Bytes (a1 : Int) : Option (((List Int))) :=
  (loopM (fun s : (List Int) × Int => match s with | (l2, v3) => palingref01_Bytes_L1 a1 l2 v3) ([], 5)).bind fun r17 => match r17 with
  | l15 =>
    some l15

def palingref01_Group (a1 : Int) : Option (Bool) :=
  (palingref01_Bytes a1).bind fun r2 => match r2 with
  | l4 =>
    if (lin l4 0) = true then
      (l4[(Int.toNat 0)]?).bind fun x6 =>
      some ((Int.tmod x6 2) == 1)
    else
      none

def palingref27_Vlan (a1 : Api_Port) (a2 : Bool) (a3 : Int) : Option (Int × Bool) :=
  if (!a2) = true then
    some (a1.native, a1.native != 0)
  else
    if (a3 == 0) = true then
      some (a1.native, a1.native != 0)
    else
      (palingref15_In a1.tagged a3).bind fun r6 =>
      if (r6) = true then
        some (a3, true)
      else
        some (0, false)

def palingref27_At_J1 (a1 : Api_Net) (a2 : Int) (l12 : List Int) (v13 : Int) (v14 : Int) (v15 : Int) (v16 : Int) : Option (Int ⊕ ((List Int) × Int × Int × Int × Int)) :=
  if (v15 == 33024) = true then
    (palingref05_Strip (⟨v13, v14, v15, l12⟩ : Api_Frame)).bind fun r19 => match r19 with
    | (l21, v22, v23, v24, v25, v26, v27) =>
      if (v27 != 0) = true then
        some (Sum.inl v27)
      else
        some (Sum.inr (l21, v22, v23, v24, v25))
  else
    some (Sum.inr (l12, v13, v14, v15, 0))

def palingref27_At (a1 : Api_Net) (a2 : Int) (a3 : List Int) : Option (((List Int) × Int × Int × Int × Int × Int)) :=
  (palingref15_Right a1).bind fun r4 =>
  if (!r4) = true then
    some ([], 0, 0, 0, 0, 2)
  else
    (palingref15_Place a2 (a1.ports.length : Int)).bind fun r7 =>
    if (!r7) = true then
      some ([], 0, 0, 0, 0, 2)
    else
      (palingref04_Take a3).bind fun r10 => match r10 with
      | (l12, v13, v14, v15, v16) =>
        if (v16 != 0) = true then
          some ([], 0, 0, 0, 0, v16)
        else
          (palingref27_At_J1 a1 a2 l12 v13 v14 v15 v16).bind fun r70 => match r70 with
          | Sum.inl v30 =>
            some ([], 0, 0, 0, 0, v30)
          | Sum.inr (l64, v65, v66, v67, v68) =>
            (palingref01_Group v66).bind fun r71 =>
            if (r71) = true then
              some ([], 0, 0, 0, 0, 11)
            else
              (nth a1.ports a2).bind fun x74 =>
              (palingref27_Vlan x74 (v15 == 33024) v68).bind fun r76 =>
              if (!r76.2) = true then
                some ([], 0, 0, 0, 0, 16)
              else
                (nth a1.ports a2).bind fun x79 =>
                (palingref15_At a1 x79.dev r76.1).bind fun r81 =>
                some (l64, r81, v65, v66, v67, 0)

def palingref04_Same (a1 : Api_Frame) (a2 : Api_Frame) : Option (Bool) :=
  if (a1.dst == a2.dst) = true then
    if (a1.src == a2.src) = true then
      if (a1.type_ == a2.type_) = true then
        some (seqB (bstr a1.body) (bstr a2.body))
      else
        some false
    else
      some false
  else
    some false

def palinglaw27_EnterComes (a1 : Api_Net) (a2 : Int) (a3 : List Int) (a4 : Api_Port) (a5 : Bool) (a6 : Int) : Option (Bool) :=
  (palinglaw15_Great a1).bind fun r7 =>
  if (r7) = true then
    (palinglaw27_works).bind fun r10 =>
    some r10
  else
    if (decide ((a3.length : Int) > 4000)) = true then
      (palinglaw27_works).bind fun r13 =>
      some r13
    else
      if (decide ((a4.tagged.length : Int) > 100)) = true then
        (palinglaw27_works).bind fun r16 =>
        some r16
      else
        (enter_At a1 a2 a3).bind fun r18 => match r18 with
        | (l20, n21, v22, v23, v24, v25, v26) =>
          (palingref27_At a1 a2 a3).bind fun r27 => match r27 with
          | (l29, v30, v31, v32, v33, v34) =>
            (enter_Vlan a4 a5 a6).bind fun r35 =>
            (palingref27_Vlan a4 a5 a6).bind fun r37 =>
            if (v22 == v30) = true then
              (palingref04_Same (⟨v23, v24, v25, l20⟩ : Api_Frame) (⟨v31, v32, v33, l29⟩ : Api_Frame)).bind fun r40 =>
              if (r40) = true then
                if (v26 == v34) = true then
                  if (r35.1 == r37.1) = true then
                    if (r35.2 == r37.2) = true then
                      (palinglaw27_works).bind fun r46 =>
                      some r46
                    else
                      some false
                  else
                    some false
                else
                  some false
              else
                some false
            else
              some false

def palinglaw27_EnterMember_L1 (a2 : Int) (a3 : List Int) (l13 : List Int) (n14 : Nat) (v16 : Int) (v17 : Int) (v18 : Int) (l26 : List Int) (v27 : Bool) (v28 : Int) : Option ((Bool × Int) ⊕ (Bool)) :=
  if (decide (v28 < ((List.length l26) : Int))) = true then
    if (lin l26 v28) = true then
      (l26[(Int.toNat v28)]?).bind fun x31 =>
      if (v27) = true then
        some (Sum.inl (true, wr_i64 (v28 + 1)))
      else
        some (Sum.inl (x31 == a2, wr_i64 (v28 + 1)))
    else
      none
  else
    some (Sum.inr v27)

def palinglaw27_EnterMember (a1 : Api_Net) (a2 : Int) (a3 : List Int) : Option (Bool) :=
  (palinglaw27_works).bind fun r4 =>
  if (!r4) = true then
    some false
  else
    (palinglaw15_Great a1).bind fun r7 =>
    if (r7) = true then
      some true
    else
      if (decide ((a3.length : Int) > 4000)) = true then
        some true
      else
        (enter_At a1 a2 a3).bind fun r11 => match r11 with
        | (l13, n14, v15, v16, v17, v18, v19) =>
          if (v19 != 0) = true then
            if (v15 == 0) = true then
              (ether_Same (⟨v16, v17, v18, l13⟩ : Api_Frame) (⟨0, 0, 0, []⟩ : Api_Frame)).bind fun r22 =>
              some r22
            else
              some false
          else
            (names_Members a1 v15).bind fun r24 => match r24 with
            | l26 =>
              (loopM (fun s : Bool × Int => match s with | (v27, v28) => palinglaw27_EnterMember_L1 a2 a3 l13 n14 v16 v17 v18 l26 v27 v28) (false, 0)).bind fun r37 => match r37 with
              | v35 =>
                if (v35) = true then
                  (tag_Is (⟨v16, v17, v18, l13⟩ : Api_Frame)).bind fun r39 =>
                  if (!r39) = true then
                    (mac_Group v17).bind fun r42 =>
                    if (!r42) = true then
                      some (decide ((wr_i64 ((n14 : Int) + 14)) ≤ (a3.length : Int)))
                    else
                      some false
                  else
                    some false
                else
                  some false

end Go.Eng
