/- Part of the proof of EnterComes: printed mirrors of the functions, or their contracts. No conditions. -/
import Derived.Test.YtakginbgngjhkaaEng14
set_option linter.unusedVariables false
set_option maxRecDepth 100000
namespace Go.Eng
open Go
structure Api_Device where
  row : Int
  priority : Int
  name : ByteArray
  mac : Int
  vtep : Int
  deriving DecidableEq, Inhabited

def Api_Device.Ok (x : Api_Device) : Prop := (okI .i64) x.row ∧ (okI .i64) x.priority ∧ okS x.name ∧ (okI .u64) x.mac ∧ (okI .u32) x.vtep ∧ True

structure Api_Port where
  row : Int
  dev : Int
  native : Int
  cost : Int
  link : Int
  name : ByteArray
  tagged : List Int
  deriving DecidableEq, Inhabited

def Api_Port.Ok (x : Api_Port) : Prop := (okI .i64) x.row ∧ (okI .i64) x.dev ∧ (okI .i64) x.native ∧ (okI .i64) x.cost ∧ (okI .i64) x.link ∧ okS x.name ∧ (okL (okI .i64)) x.tagged ∧ True

structure Api_Link where
  row : Int
  a : Int
  b : Int
  deriving DecidableEq, Inhabited

def Api_Link.Ok (x : Api_Link) : Prop := (okI .i64) x.row ∧ (okI .i64) x.a ∧ (okI .i64) x.b ∧ True

structure Api_Domain where
  dev : Int
  vlan : Int
  vni : Int
  irb : Int
  row : Int
  peers : List Int
  deriving DecidableEq, Inhabited

def Api_Domain.Ok (x : Api_Domain) : Prop := (okI .i64) x.dev ∧ (okI .i64) x.vlan ∧ (okI .i64) x.vni ∧ (okI .i64) x.irb ∧ (okI .i64) x.row ∧ (okL (okI .i64)) x.peers ∧ True

structure Api_Static where
  row : Int
  domain : Int
  port : Int
  mac : Int
  deriving DecidableEq, Inhabited

def Api_Static.Ok (x : Api_Static) : Prop := (okI .i64) x.row ∧ (okI .i64) x.domain ∧ (okI .i64) x.port ∧ (okI .u64) x.mac ∧ True

structure Api_Flood where
  row : Int
  dev : Int
  vni : Int
  addrs : List Int
  deriving DecidableEq, Inhabited

def Api_Flood.Ok (x : Api_Flood) : Prop := (okI .i64) x.row ∧ (okI .i64) x.dev ∧ (okI .i64) x.vni ∧ (okL (okI .u32)) x.addrs ∧ True

structure Api_Vrf where
  row : Int
  dev : Int
  name : ByteArray
  imports : List Int
  exports : List Int
  deriving DecidableEq, Inhabited

def Api_Vrf.Ok (x : Api_Vrf) : Prop := (okI .i64) x.row ∧ (okI .i64) x.dev ∧ okS x.name ∧ (okL (okI .i64)) x.imports ∧ (okL (okI .i64)) x.exports ∧ True

structure Api_Prefix where
  addr : Int
  bits : Int
  deriving DecidableEq, Inhabited

def Api_Prefix.Ok (x : Api_Prefix) : Prop := (okI .u32) x.addr ∧ (okI .i64) x.bits ∧ True

structure Api_Irb where
  row : Int
  domain : Int
  vrf : Int
  net : Api_Prefix
  deriving DecidableEq, Inhabited

def Api_Irb.Ok (x : Api_Irb) : Prop := (okI .i64) x.row ∧ (okI .i64) x.domain ∧ (okI .i64) x.vrf ∧ Api_Prefix.Ok x.net ∧ True

structure Api_Net where
  devices : List Api_Device
  ports : List Api_Port
  links : List Api_Link
  domains : List Api_Domain
  statics : List Api_Static
  floods : List Api_Flood
  vrfs : List Api_Vrf
  irbs : List Api_Irb
  deriving DecidableEq, Inhabited

def Api_Net.Ok (x : Api_Net) : Prop := (okL Api_Device.Ok) x.devices ∧ (okL Api_Port.Ok) x.ports ∧ (okL Api_Link.Ok) x.links ∧ (okL Api_Domain.Ok) x.domains ∧ (okL Api_Static.Ok) x.statics ∧ (okL Api_Flood.Ok) x.floods ∧ (okL Api_Vrf.Ok) x.vrfs ∧ (okL Api_Irb.Ok) x.irbs ∧ True

structure Api_Frame where
  dst : Int
  src : Int
  type_ : Int
  body : List Int
  deriving DecidableEq, Inhabited

def Api_Frame.Ok (x : Api_Frame) : Prop := (okI .u64) x.dst ∧ (okI .u64) x.src ∧ (okI .i64) x.type_ ∧ (okL (okI .u8)) x.body ∧ True

structure Names_judge where
  n : Api_Net
  deriving DecidableEq, Inhabited

def Names_judge.Ok (x : Names_judge) : Prop := Api_Net.Ok x.n ∧ True


def palinglaw15_Great_L1 (a1 : Api_Net) (v10 : Int) : Option ((Int) ⊕ (Unit ⊕ Unit)) :=
  if (decide (v10 < (a1.ports.length : Int))) = true then
    (nth a1.ports v10).bind fun x12 =>
    if (decide ((x12.tagged.length : Int) > 100)) = true then
      some (Sum.inr (Sum.inl ()))
    else
      some (Sum.inl (wr_i64 (v10 + 1)))
  else
    some (Sum.inr (Sum.inr ()))

def palinglaw15_Great_L2 (a1 : Api_Net) (v17 : Int) : Option ((Int) ⊕ (Unit ⊕ Unit)) :=
  if (decide (v17 < (a1.domains.length : Int))) = true then
    (nth a1.domains v17).bind fun x19 =>
    if (decide ((x19.peers.length : Int) > 100)) = true then
      some (Sum.inr (Sum.inl ()))
    else
      some (Sum.inl (wr_i64 (v17 + 1)))
  else
    some (Sum.inr (Sum.inr ()))

def palinglaw15_Great_L3 (a1 : Api_Net) (v24 : Int) : Option ((Int) ⊕ (Unit ⊕ Unit)) :=
  if (decide (v24 < (a1.floods.length : Int))) = true then
    (nth a1.floods v24).bind fun x26 =>
    if (decide ((x26.addrs.length : Int) > 100)) = true then
      some (Sum.inr (Sum.inl ()))
    else
      some (Sum.inl (wr_i64 (v24 + 1)))
  else
    some (Sum.inr (Sum.inr ()))

def palinglaw15_Great_L4 (a1 : Api_Net) (v31 : Int) : Option ((Int) ⊕ (Unit ⊕ Unit)) :=
  if (decide (v31 < (a1.vrfs.length : Int))) = true then
    (nth a1.vrfs v31).bind fun x33 =>
    if (decide ((x33.imports.length : Int) > 100)) = true then
      some (Sum.inr (Sum.inl ()))
    else
      (nth a1.vrfs v31).bind fun x36 =>
      if (decide ((x36.exports.length : Int) > 100)) = true then
        some (Sum.inr (Sum.inl ()))
      else
        some (Sum.inl (wr_i64 (v31 + 1)))
  else
    some (Sum.inr (Sum.inr ()))

def palinglaw15_Great (a1 : Api_Net) : Option (Bool) :=
  if (decide ((a1.devices.length : Int) > 200)) = true then
    some true
  else
    if (decide ((a1.ports.length : Int) > 200)) = true then
      some true
    else
      if (decide ((a1.links.length : Int) > 200)) = true then
        some true
      else
        if (decide ((a1.domains.length : Int) > 200)) = true then
          some true
        else
          if (decide ((a1.statics.length : Int) > 200)) = true then
            some true
          else
            if (decide ((a1.floods.length : Int) > 200)) = true then
              some true
            else
              if (decide ((a1.vrfs.length : Int) > 200)) = true then
                some true
              else
                if (decide ((a1.irbs.length : Int) > 200)) = true then
                  some true
                else
                  (loopM (palinglaw15_Great_L1 a1) 0).bind fun r16 => match r16 with
                  | Sum.inl () =>
                    some true
                  | Sum.inr () =>
                    (loopM (palinglaw15_Great_L2 a1) 0).bind fun r23 => match r23 with
                    | Sum.inl () =>
                      some true
                    | Sum.inr () =>
                      (loopM (palinglaw15_Great_L3 a1) 0).bind fun r30 => match r30 with
                      | Sum.inl () =>
                        some true
                      | Sum.inr () =>
                        (loopM (palinglaw15_Great_L4 a1) 0).bind fun r40 => match r40 with
                        | Sum.inl () =>
                          some true
                        | Sum.inr () =>
                          some false

def mac_shift (a1 : Int) : Option (Int) :=
  some (wr_u64 (wr_i64 (8 * (wr_i64 (5 - a1)))))

def mac_Put_own_L1 (a2 : Int) (l3 : List Int) (v4 : Int) : Option (((List Int) × Int) ⊕ ((List Int))) :=
  if (decide (v4 < 6)) = true then
    (mac_shift v4).bind fun r6 =>
    if (decide (0 ≤ r6)) = true then
      if (roomy 1 (l3 ++ [(wr_u8 (Int.fdiv a2 (2 ^ (min (Int.toNat r6) 64))) : Int)])) = true then
        some (Sum.inl (l3 ++ [(wr_u8 (Int.fdiv a2 (2 ^ (min (Int.toNat r6) 64))) : Int)], wr_i64 (v4 + 1)))
      else
        none
    else
      none
  else
    some (Sum.inr l3)

def mac_Put_own (a1 : List Int) (a2 : Int) : Option (((List Int))) :=
  (loopM (fun s : (List Int) × Int => match s with | (l3, v4) => mac_Put_own_L1 a2 l3 v4) (a1, 0)).bind fun r14 => match r14 with
  | l12 =>
    some l12

def ether_Put (a1 : Api_Frame) : Option (((List Int) × Int)) :=
  if (decide (a1.dst > 281474976710655)) = true then
    some ([], 11)
  else
    if (decide (a1.src > 281474976710655)) = true then
      some ([], 11)
    else
      if (decide (a1.type_ < 0)) = true then
        some ([], 11)
      else
        if (decide (a1.type_ > 65535)) = true then
          some ([], 11)
        else
          if (decide ((a1.body.length : Int) > 1504)) = true then
            some ([], 14)
          else
            (mac_Put_own [] a1.dst).bind fun r7 => match r7 with
            | l9 =>
              (mac_Put_own l9 a1.src).bind fun r10 => match r10 with
              | l12 =>
                if (roomy 1 (l12 ++ [(wr_u8 (Int.fdiv a1.type_ (2 ^ 8)) : Int), (wr_u8 a1.type_ : Int)])) = true then
                  if (roomy 1 ((l12 ++ [(wr_u8 (Int.fdiv a1.type_ (2 ^ 8)) : Int), (wr_u8 a1.type_ : Int)]) ++ a1.body)) = true then
                    some ((l12 ++ [(wr_u8 (Int.fdiv a1.type_ (2 ^ 8)) : Int), (wr_u8 a1.type_ : Int)]) ++ a1.body, 0)
                  else
                    none
                else
                  none

def tag_Is (a1 : Api_Frame) : Option (Bool) :=
  some (a1.type_ == 33024)

def tag_Add_J1 (a1 : Api_Frame) (a2 : Int) (a3 : Int) : Option (Bool) :=
  (tag_Is a1).bind fun r4 =>
  if (r4) = true then
    some true
  else
    if (decide (a2 < 0)) = true then
      some true
    else
      if (decide (a2 > 4094)) = true then
        some true
      else
        if (decide (a3 < 0)) = true then
          some true
        else
          some (decide (a3 > 15))

def tag_Add_J2 (a1 : Api_Frame) (a2 : Int) (a3 : Int) : Option (Bool) :=
  if (decide (a1.type_ < 0)) = true then
    some true
  else
    some (decide (a1.type_ > 65535))

def tag_Add (a1 : Api_Frame) (a2 : Int) (a3 : Int) : Option (((List Int) × Int × Int × Int × Int)) :=
  (tag_Add_J1 a1 a2 a3).bind fun r13 => match r13 with
  | v11 =>
    if (v11) = true then
      some ([], 0, 0, 0, 15)
    else
      (tag_Add_J2 a1 a2 a3).bind fun r19 => match r19 with
      | v17 =>
        if (v17) = true then
          some ([], 0, 0, 0, 11)
        else
          if (decide ((a1.body.length : Int) > 1500)) = true then
            some ([], 0, 0, 0, 14)
          else
            if (roomy 1 ([(wr_u8 (Int.fdiv (bits_or .i64 (wr_i64 (a3 * 2 ^ 12)) a2) (2 ^ 8)) : Int), (wr_u8 (bits_or .i64 (wr_i64 (a3 * 2 ^ 12)) a2) : Int), (wr_u8 (Int.fdiv a1.type_ (2 ^ 8)) : Int), (wr_u8 a1.type_ : Int)] ++ a1.body)) = true then
              some ([(wr_u8 (Int.fdiv (bits_or .i64 (wr_i64 (a3 * 2 ^ 12)) a2) (2 ^ 8)) : Int), (wr_u8 (bits_or .i64 (wr_i64 (a3 * 2 ^ 12)) a2) : Int), (wr_u8 (Int.fdiv a1.type_ (2 ^ 8)) : Int), (wr_u8 a1.type_ : Int)] ++ a1.body, a1.dst, a1.src, 33024, 0)
            else
              none

def names_judge_few (a1 : Names_judge) : Option (Bool) :=
  if (decide ((a1.n.devices.length : Int) ≤ 8)) = true then
    if (decide ((a1.n.ports.length : Int) ≤ 40)) = true then
      if (decide ((a1.n.links.length : Int) ≤ 20)) = true then
        if (decide ((a1.n.domains.length : Int) ≤ 48)) = true then
          if (decide ((a1.n.statics.length : Int) ≤ 64)) = true then
            if (decide ((a1.n.floods.length : Int) ≤ 48)) = true then
              if (decide ((a1.n.vrfs.length : Int) ≤ 16)) = true then
                some (decide ((a1.n.irbs.length : Int) ≤ 48))
              else
                some false
            else
              some false
          else
            some false
        else
          some false
      else
        some false
    else
      some false
  else
    some false

def names_place_Device (a1 : List Api_Device) (a2 : Int) : Option (Bool) :=
  if (decide (a2 ≥ 0)) = true then
    some (decide (a2 < (a1.length : Int)))
  else
    some false

def names_judge_domain_1 (a1 : Api_Domain) (a2 : Int) (a3 : Int) : Option (Bool) :=
  if (a1.dev == a2) = true then
    some (a1.vlan == a3)
  else
    some false

def slices_IndexFunc_Domain_judge_domain_1_L1 (a1 : List Api_Domain) (a2 : Int) (a3 : Int) (v4 : Int) : Option ((Int) ⊕ (Int ⊕ Unit)) :=
  if (decide (v4 < (a1.length : Int))) = true then
    (nth a1 v4).bind fun x6 =>
    (names_judge_domain_1 x6 a2 a3).bind fun r8 =>
    if (r8) = true then
      some (Sum.inr (Sum.inl v4))
    else
      some (Sum.inl (wr_i64 (v4 + 1)))
  else
    some (Sum.inr (Sum.inr ()))

def slices_IndexFunc_Domain_judge_domain_1 (a1 : List Api_Domain) (a2 : Int) (a3 : Int) : Option (Int) :=
  (loopM (slices_IndexFunc_Domain_judge_domain_1_L1 a1 a2 a3) 0).bind fun r14 => match r14 with
  | Sum.inl v12 =>
    some v12
  | Sum.inr () =>
    some (-1)

def names_judge_domain (a1 : Names_judge) (a2 : Int) (a3 : Int) : Option (Int) :=
  (slices_IndexFunc_Domain_judge_domain_1 a1.n.domains a2 a3).bind fun r4 =>
  some r4

def names_place_Irb (a1 : List Api_Irb) (a2 : Int) : Option (Bool) :=
  if (decide (a2 ≥ 0)) = true then
    some (decide (a2 < (a1.length : Int)))
  else
    some false

def names_judge_bare (a1 : Names_judge) (a2 : Int) (a3 : Api_Domain) : Option (Bool) :=
  (names_place_Device a1.n.devices a3.dev).bind fun r4 =>
  if (r4) = true then
    if (decide (a3.vlan ≥ 1)) = true then
      if (decide (a3.vlan ≤ 4094)) = true then
        if (decide (a3.vni ≥ 0)) = true then
          if (decide (a3.vni ≤ 16777215)) = true then
            if (a3.irb == (-1)) = true then
              (names_judge_domain a1 a3.dev a3.vlan).bind fun r12 =>
              some (r12 == a2)
            else
              (names_place_Irb a1.n.irbs a3.irb).bind fun r14 =>
              if (r14) = true then
                (nth a1.n.irbs a3.irb).bind fun x17 =>
                if (x17.domain == a2) = true then
                  (names_judge_domain a1 a3.dev a3.vlan).bind fun r20 =>
                  some (r20 == a2)
                else
                  some false
              else
                some false
          else
            some false
        else
          some false
      else
        some false
    else
      some false
  else
    some false

def names_all_Domain_judge_bare_L1 (a1 : List Api_Domain) (a2 : Names_judge) (v3 : Int) : Option ((Int) ⊕ (Unit ⊕ Unit)) :=
  if (decide (v3 < (a1.length : Int))) = true then
    (nth a1 v3).bind fun x5 =>
    (names_judge_bare a2 v3 x5).bind fun r7 =>
    if (!r7) = true then
      some (Sum.inr (Sum.inl ()))
    else
      some (Sum.inl (wr_i64 (v3 + 1)))
  else
    some (Sum.inr (Sum.inr ()))

def names_all_Domain_judge_bare (a1 : List Api_Domain) (a2 : Names_judge) : Option (Bool) :=
  (loopM (names_all_Domain_judge_bare_L1 a1 a2) 0).bind fun r11 => match r11 with
  | Sum.inl () =>
    some false
  | Sum.inr () =>
    some true

def names_place_Domain (a1 : List Api_Domain) (a2 : Int) : Option (Bool) :=
  if (decide (a2 ≥ 0)) = true then
    some (decide (a2 < (a1.length : Int)))
  else
    some false

def names_judge_vtep (a1 : Names_judge) (a2 : Api_Domain) : Option (Bool) :=
  (nth a1.n.devices a2.dev).bind fun x3 =>
  some (x3.vtep != 0)

def slices_Index_int_L1 (a1 : List Int) (a2 : Int) (v3 : Int) : Option ((Int) ⊕ (Int ⊕ Unit)) :=
  if (decide (v3 < (a1.length : Int))) = true then
    (nth a1 v3).bind fun x5 =>
    if (a2 == x5) = true then
      some (Sum.inr (Sum.inl v3))
    else
      some (Sum.inl (wr_i64 (v3 + 1)))
  else
    some (Sum.inr (Sum.inr ()))

def slices_Index_int (a1 : List Int) (a2 : Int) : Option (Int) :=
  (loopM (slices_Index_int_L1 a1 a2) 0).bind fun r11 => match r11 with
  | Sum.inl v9 =>
    some v9
  | Sum.inr () =>
    some (-1)

def slices_Contains_int (a1 : List Int) (a2 : Int) : Option (Bool) :=
  (slices_Index_int a1 a2).bind fun r3 =>
  some (decide (r3 ≥ 0))

def names_judge_peer (a1 : Names_judge) (a2 : Int) (a3 : Api_Domain) (a4 : Int) : Option (Bool) :=
  (names_place_Domain a1.n.domains a4).bind fun r5 =>
  if (!r5) = true then
    some false
  else
    if (a4 == a2) = true then
      some false
    else
      (nth a1.n.domains a4).bind fun x9 =>
      (names_place_Device a1.n.devices x9.dev).bind fun r11 =>
      if (r11) = true then
        if (x9.dev != a3.dev) = true then
          if (x9.vni == a3.vni) = true then
            if (a3.vni != 0) = true then
              (names_judge_vtep a1 x9).bind fun r17 =>
              if (r17) = true then
                (names_judge_vtep a1 a3).bind fun r20 =>
                if (r20) = true then
                  (slices_Contains_int x9.peers a2).bind fun r23 =>
                  some r23
                else
                  some false
              else
                some false
            else
              some false
          else
            some false
        else
          some false
      else
        some false

def names_judge_peers_1 (a1 : Int) (a2 : Int) (a3 : Names_judge) (a4 : Int) (a5 : Api_Domain) : Option (Bool) :=
  (names_judge_peer a3 a4 a5 a2).bind fun r6 =>
  if (r6) = true then
    (slices_Index_int a5.peers a2).bind fun r9 =>
    some (r9 == a1)
  else
    some false

def names_all_int_judge_peers_1_L1 (a1 : List Int) (a2 : Names_judge) (a3 : Int) (a4 : Api_Domain) (v5 : Int) : Option ((Int) ⊕ (Unit ⊕ Unit)) :=
  if (decide (v5 < (a1.length : Int))) = true then
    (nth a1 v5).bind fun x7 =>
    (names_judge_peers_1 v5 x7 a2 a3 a4).bind fun r9 =>
    if (!r9) = true then
      some (Sum.inr (Sum.inl ()))
    else
      some (Sum.inl (wr_i64 (v5 + 1)))
  else
    some (Sum.inr (Sum.inr ()))

def names_all_int_judge_peers_1 (a1 : List Int) (a2 : Names_judge) (a3 : Int) (a4 : Api_Domain) : Option (Bool) :=
  (loopM (names_all_int_judge_peers_1_L1 a1 a2 a3 a4) 0).bind fun r13 => match r13 with
  | Sum.inl () =>
    some false
  | Sum.inr () =>
    some true

def names_judge_peers (a1 : Names_judge) (a2 : Int) (a3 : Api_Domain) : Option (Bool) :=
  (names_all_int_judge_peers_1 a3.peers a1 a2 a3).bind fun r4 =>
  some r4

def names_all_Domain_judge_peers_L1 (a1 : List Api_Domain) (a2 : Names_judge) (v3 : Int) : Option ((Int) ⊕ (Unit ⊕ Unit)) :=
  if (decide (v3 < (a1.length : Int))) = true then
    (nth a1 v3).bind fun x5 =>
    (names_judge_peers a2 v3 x5).bind fun r7 =>
    if (!r7) = true then
      some (Sum.inr (Sum.inl ()))
    else
      some (Sum.inl (wr_i64 (v3 + 1)))
  else
    some (Sum.inr (Sum.inr ()))

def names_all_Domain_judge_peers (a1 : List Api_Domain) (a2 : Names_judge) : Option (Bool) :=
  (loopM (names_all_Domain_judge_peers_L1 a1 a2) 0).bind fun r11 => match r11 with
  | Sum.inl () =>
    some false
  | Sum.inr () =>
    some true

def num_Rising_L1 (a1 : List Int) (a2 : Int) (a3 : Int) (v4 : Int) : Option ((Int) ⊕ (Unit ⊕ Unit)) :=
  if (decide (v4 < (a1.length : Int))) = true then
    (nth a1 v4).bind fun x6 =>
    if (decide (x6 < a2)) = true then
      some (Sum.inr (Sum.inl ()))
    else
      if (decide (x6 > a3)) = true then
        some (Sum.inr (Sum.inl ()))
      else
        if (decide (v4 > 0)) = true then
          (nth a1 (wr_i64 (v4 - 1))).bind fun x11 =>
          if (decide (x11 ≥ x6)) = true then
            some (Sum.inr (Sum.inl ()))
          else
            some (Sum.inl (wr_i64 (v4 + 1)))
        else
          some (Sum.inl (wr_i64 (v4 + 1)))
  else
    some (Sum.inr (Sum.inr ()))

def num_Rising (a1 : List Int) (a2 : Int) (a3 : Int) : Option (Bool) :=
  (loopM (num_Rising_L1 a1 a2 a3) 0).bind fun r15 => match r15 with
  | Sum.inl () =>
    some false
  | Sum.inr () =>
    if (decide ((a1.length : Int) > 0)) = true then
      some (decide ((a1.length : Int) ≤ 16))
    else
      some false

def names_rising (a1 : List Int) (a2 : Int) : Option (Bool) :=
  if ((a1.length : Int) == 0) = true then
    some true
  else
    (num_Rising a1 1 a2).bind fun r4 =>
    some r4

def names_place_Link (a1 : List Api_Link) (a2 : Int) : Option (Bool) :=
  if (decide (a2 ≥ 0)) = true then
    some (decide (a2 < (a1.length : Int)))
  else
    some false

def names_judge_port_J1 (a1 : Names_judge) (a2 : Int) (a3 : Api_Port) : Option (Unit ⊕ Unit) :=
  (names_place_Device a1.n.devices a3.dev).bind fun r4 =>
  if (!r4) = true then
    some (Sum.inl ())
  else
    if (decide (a3.native < 0)) = true then
      some (Sum.inl ())
    else
      if (decide (a3.native > 4094)) = true then
        some (Sum.inl ())
      else
        (names_rising a3.tagged 4094).bind fun r9 =>
        if (!r9) = true then
          some (Sum.inl ())
        else
          (slices_Contains_int a3.tagged a3.native).bind fun r12 =>
          if (r12) = true then
            some (Sum.inl ())
          else
            if (a3.native == 0) = true then
              if ((a3.tagged.length : Int) == 0) = true then
                some (Sum.inl ())
              else
                some (Sum.inr ())
            else
              some (Sum.inr ())

def names_judge_port_L2 (a1 : Names_judge) (a2 : Int) (a3 : Api_Port) (v19 : Int) : Option ((Int) ⊕ (Unit ⊕ Unit)) :=
  if (decide (v19 < (a3.tagged.length : Int))) = true then
    (nth a3.tagged v19).bind fun x21 =>
    (names_judge_domain a1 a3.dev x21).bind fun r23 =>
    if (decide (r23 < 0)) = true then
      some (Sum.inr (Sum.inl ()))
    else
      some (Sum.inl (wr_i64 (v19 + 1)))
  else
    some (Sum.inr (Sum.inr ()))

def names_judge_port_J3 (a1 : Names_judge) (a2 : Int) (a3 : Api_Port) : Option (Unit ⊕ Unit) :=
  if (decide (a3.native > 0)) = true then
    (names_judge_domain a1 a3.dev a3.native).bind fun r29 =>
    if (decide (r29 < 0)) = true then
      some (Sum.inl ())
    else
      some (Sum.inr ())
  else
    some (Sum.inr ())

def names_judge_port (a1 : Names_judge) (a2 : Int) (a3 : Api_Port) : Option (Bool) :=
  (names_judge_port_J1 a1 a2 a3).bind fun r18 => match r18 with
  | Sum.inl () =>
    some false
  | Sum.inr () =>
    (loopM (names_judge_port_L2 a1 a2 a3) 0).bind fun r27 => match r27 with
    | Sum.inl () =>
      some false
    | Sum.inr () =>
      (names_judge_port_J3 a1 a2 a3).bind fun r33 => match r33 with
      | Sum.inl () =>
        some false
      | Sum.inr () =>
        if (a3.link == (-1)) = true then
          some true
        else
          (names_place_Link a1.n.links a3.link).bind fun r35 =>
          if (r35) = true then
            (nth a1.n.links a3.link).bind fun x38 =>
            if (x38.a == a2) = true then
              some true
            else
              (nth a1.n.links a3.link).bind fun x41 =>
              some (x41.b == a2)
          else
            some false

def names_all_Port_judge_port_L1 (a1 : List Api_Port) (a2 : Names_judge) (v3 : Int) : Option ((Int) ⊕ (Unit ⊕ Unit)) :=
  if (decide (v3 < (a1.length : Int))) = true then
    (nth a1 v3).bind fun x5 =>
    (names_judge_port a2 v3 x5).bind fun r7 =>
    if (!r7) = true then
      some (Sum.inr (Sum.inl ()))
    else
      some (Sum.inl (wr_i64 (v3 + 1)))
  else
    some (Sum.inr (Sum.inr ()))

def names_all_Port_judge_port (a1 : List Api_Port) (a2 : Names_judge) : Option (Bool) :=
  (loopM (names_all_Port_judge_port_L1 a1 a2) 0).bind fun r11 => match r11 with
  | Sum.inl () =>
    some false
  | Sum.inr () =>
    some true

def names_place_Port (a1 : List Api_Port) (a2 : Int) : Option (Bool) :=
  if (decide (a2 ≥ 0)) = true then
    some (decide (a2 < (a1.length : Int)))
  else
    some false

def names_judge_link (a1 : Names_judge) (a2 : Int) (a3 : Api_Link) : Option (Bool) :=
  (names_place_Port a1.n.ports a3.a).bind fun r4 =>
  if (!r4) = true then
    some false
  else
    (names_place_Port a1.n.ports a3.b).bind fun r7 =>
    if (!r7) = true then
      some false
    else
      (nth a1.n.ports a3.a).bind fun x10 =>
      (nth a1.n.ports a3.b).bind fun x12 =>
      if (x10.dev != x12.dev) = true then
        if (x10.link == a2) = true then
          some (x12.link == a2)
        else
          some false
      else
        some false

def names_all_Link_judge_link_L1 (a1 : List Api_Link) (a2 : Names_judge) (v3 : Int) : Option ((Int) ⊕ (Unit ⊕ Unit)) :=
  if (decide (v3 < (a1.length : Int))) = true then
    (nth a1 v3).bind fun x5 =>
    (names_judge_link a2 v3 x5).bind fun r7 =>
    if (!r7) = true then
      some (Sum.inr (Sum.inl ()))
    else
      some (Sum.inl (wr_i64 (v3 + 1)))
  else
    some (Sum.inr (Sum.inr ()))

def names_all_Link_judge_link (a1 : List Api_Link) (a2 : Names_judge) : Option (Bool) :=
  (loopM (names_all_Link_judge_link_L1 a1 a2) 0).bind fun r11 => match r11 with
  | Sum.inl () =>
    some false
  | Sum.inr () =>
    some true

def names_Member (a1 : Api_Port) (a2 : Int) : Option (Bool) :=
  if (a2 != 0) = true then
    if (a2 == a1.native) = true then
      some true
    else
      (slices_Contains_int a1.tagged a2).bind fun r5 =>
      some r5
  else
    some false

def names_judge_static (a1 : Names_judge) (a2 : Int) (a3 : Api_Static) : Option (Bool) :=
  (names_place_Domain a1.n.domains a3.domain).bind fun r4 =>
  if (!r4) = true then
    some false
  else
    (names_place_Port a1.n.ports a3.port).bind fun r7 =>
    if (!r7) = true then
      some false
    else
      (nth a1.n.ports a3.port).bind fun x10 =>
      (nth a1.n.domains a3.domain).bind fun x12 =>
      if (x10.dev == x12.dev) = true then
        (names_Member x10 x12.vlan).bind fun r15 =>
        some r15
      else
        some false

def names_all_Static_judge_static_L1 (a1 : List Api_Static) (a2 : Names_judge) (v3 : Int) : Option ((Int) ⊕ (Unit ⊕ Unit)) :=
  if (decide (v3 < (a1.length : Int))) = true then
    (nth a1 v3).bind fun x5 =>
    (names_judge_static a2 v3 x5).bind fun r7 =>
    if (!r7) = true then
      some (Sum.inr (Sum.inl ()))
    else
      some (Sum.inl (wr_i64 (v3 + 1)))
  else
    some (Sum.inr (Sum.inr ()))

def names_all_Static_judge_static (a1 : List Api_Static) (a2 : Names_judge) : Option (Bool) :=
  (loopM (names_all_Static_judge_static_L1 a1 a2) 0).bind fun r11 => match r11 with
  | Sum.inl () =>
    some false
  | Sum.inr () =>
    some true

def names_Right_1 (a1 : Int) (a2 : Api_Flood) (a3 : Api_Net) : Option (Bool) :=
  (names_place_Device a3.devices a2.dev).bind fun r4 =>
  if (r4) = true then
    some (decide ((a2.addrs.length : Int) ≤ 16))
  else
    some false

def names_all_Flood_Right_1_L1 (a1 : List Api_Flood) (a2 : Api_Net) (v3 : Int) : Option ((Int) ⊕ (Unit ⊕ Unit)) :=
  if (decide (v3 < (a1.length : Int))) = true then
    (nth a1 v3).bind fun x5 =>
    (names_Right_1 v3 x5 a2).bind fun r7 =>
    if (!r7) = true then
      some (Sum.inr (Sum.inl ()))
    else
      some (Sum.inl (wr_i64 (v3 + 1)))
  else
    some (Sum.inr (Sum.inr ()))

def names_all_Flood_Right_1 (a1 : List Api_Flood) (a2 : Api_Net) : Option (Bool) :=
  (loopM (names_all_Flood_Right_1_L1 a1 a2) 0).bind fun r11 => match r11 with
  | Sum.inl () =>
    some false
  | Sum.inr () =>
    some true

def names_Right_2 (a1 : Int) (a2 : Api_Vrf) (a3 : Api_Net) : Option (Bool) :=
  (names_place_Device a3.devices a2.dev).bind fun r4 =>
  if (r4) = true then
    (names_rising a2.imports 65535).bind fun r7 =>
    if (r7) = true then
      (names_rising a2.exports 65535).bind fun r10 =>
      some r10
    else
      some false
  else
    some false

def names_all_Vrf_Right_2_L1 (a1 : List Api_Vrf) (a2 : Api_Net) (v3 : Int) : Option ((Int) ⊕ (Unit ⊕ Unit)) :=
  if (decide (v3 < (a1.length : Int))) = true then
    (nth a1 v3).bind fun x5 =>
    (names_Right_2 v3 x5 a2).bind fun r7 =>
    if (!r7) = true then
      some (Sum.inr (Sum.inl ()))
    else
      some (Sum.inl (wr_i64 (v3 + 1)))
  else
    some (Sum.inr (Sum.inr ()))

def names_all_Vrf_Right_2 (a1 : List Api_Vrf) (a2 : Api_Net) : Option (Bool) :=
  (loopM (names_all_Vrf_Right_2_L1 a1 a2) 0).bind fun r11 => match r11 with
  | Sum.inl () =>
    some false
  | Sum.inr () =>
    some true

def names_place_Vrf (a1 : List Api_Vrf) (a2 : Int) : Option (Bool) :=
  if (decide (a2 ≥ 0)) = true then
    some (decide (a2 < (a1.length : Int)))
  else
    some false

def names_judge_irb (a1 : Names_judge) (a2 : Int) (a3 : Api_Irb) : Option (Bool) :=
  (names_place_Domain a1.n.domains a3.domain).bind fun r4 =>
  if (r4) = true then
    (names_place_Vrf a1.n.vrfs a3.vrf).bind fun r7 =>
    if (r7) = true then
      (nth a1.n.domains a3.domain).bind fun x10 =>
      (nth a1.n.vrfs a3.vrf).bind fun x12 =>
      if (x10.dev == x12.dev) = true then
        (nth a1.n.domains a3.domain).bind fun x15 =>
        if (x15.irb == a2) = true then
          if (decide (a3.net.bits ≥ 1)) = true then
            some (decide (a3.net.bits ≤ 30))
          else
            some false
        else
          some false
      else
        some false
    else
      some false
  else
    some false

def names_all_Irb_judge_irb_L1 (a1 : List Api_Irb) (a2 : Names_judge) (v3 : Int) : Option ((Int) ⊕ (Unit ⊕ Unit)) :=
  if (decide (v3 < (a1.length : Int))) = true then
    (nth a1 v3).bind fun x5 =>
    (names_judge_irb a2 v3 x5).bind fun r7 =>
    if (!r7) = true then
      some (Sum.inr (Sum.inl ()))
    else
      some (Sum.inl (wr_i64 (v3 + 1)))
  else
    some (Sum.inr (Sum.inr ()))

def names_all_Irb_judge_irb (a1 : List Api_Irb) (a2 : Names_judge) : Option (Bool) :=
  (loopM (names_all_Irb_judge_irb_L1 a1 a2) 0).bind fun r11 => match r11 with
  | Sum.inl () =>
    some false
  | Sum.inr () =>
    some true

def names_Right (a1 : Api_Net) : Option (Bool) :=
  (names_judge_few (⟨a1⟩ : Names_judge)).bind fun r2 =>
  if (r2) = true then
    (names_all_Domain_judge_bare a1.domains (⟨a1⟩ : Names_judge)).bind fun r5 =>
    if (r5) = true then
      (names_all_Domain_judge_peers a1.domains (⟨a1⟩ : Names_judge)).bind fun r8 =>
      if (r8) = true then
        (names_all_Port_judge_port a1.ports (⟨a1⟩ : Names_judge)).bind fun r11 =>
        if (r11) = true then
          (names_all_Link_judge_link a1.links (⟨a1⟩ : Names_judge)).bind fun r14 =>
          if (r14) = true then
            (names_all_Static_judge_static a1.statics (⟨a1⟩ : Names_judge)).bind fun r17 =>
            if (r17) = true then
              (names_all_Flood_Right_1 a1.floods a1).bind fun r20 =>
              if (r20) = true then
                (names_all_Vrf_Right_2 a1.vrfs a1).bind fun r23 =>
                if (r23) = true then
                  (names_all_Irb_judge_irb a1.irbs (⟨a1⟩ : Names_judge)).bind fun r26 =>
                  some r26
                else
                  some false
              else
                some false
            else
              some false
          else
            some false
        else
          some false
      else
        some false
    else
      some false
  else
    some false

def mac_Take_L1 (a1 : List Int) (a2 : Int) (v5 : Int) (v6 : Int) : Option ((Int × Int) ⊕ (Int)) :=
  if (decide (v6 < 6)) = true then
    (nth a1 (wr_i64 (a2 + v6))).bind fun x8 =>
    some (Sum.inl (bits_or .u64 (wr_u64 (v5 * 2 ^ 8)) (wr_u64 x8), wr_i64 (v6 + 1)))
  else
    some (Sum.inr v5)

def mac_Take (a1 : List Int) (a2 : Int) : Option (Int × Bool) :=
  if (decide (a2 < 0)) = true then
    some (0, false)
  else
    if (decide (a2 > (wr_i64 ((a1.length : Int) - 6)))) = true then
      some (0, false)
    else
      (loopM (fun s : Int × Int => match s with | (v5, v6) => mac_Take_L1 a1 a2 v5 v6) (0, 0)).bind fun r13 => match r13 with
      | v11 =>
        some (v11, true)

def ether_Take (a1 : List Int) : Option (((List Int) × Nat × Int × Int × Int × Int)) :=
  if (decide ((a1.length : Int) < 14)) = true then
    some ([], 0, 0, 0, 0, 10)
  else
    if (decide ((a1.length : Int) > 1518)) = true then
      some ([], 0, 0, 0, 0, 14)
    else
      (mac_Take a1 0).bind fun r4 =>
      (mac_Take a1 6).bind fun r6 =>
      if (mkok 1 (wr_i64 ((a1.length : Int) - 14)) (wr_i64 ((a1.length : Int) - 14))) = true then
        if (slok (List.length a1) 14 ((List.length a1) : Int)) = true then
          (nth a1 12).bind fun x10 =>
          (nth a1 13).bind fun x12 =>
          some (List.take 0 (List.replicate (Int.toNat (wr_i64 ((a1.length : Int) - 14))) (0 : Int)) ++ (List.take (min (List.length (List.drop (Int.toNat 14) (List.take (Int.toNat ((List.length a1) : Int)) a1))) ((List.length (List.replicate (Int.toNat (wr_i64 ((a1.length : Int) - 14))) (0 : Int))) - 0)) (List.drop (Int.toNat 14) (List.take (Int.toNat ((List.length a1) : Int)) a1)) ++ List.drop (0 + (min (List.length (List.drop (Int.toNat 14) (List.take (Int.toNat ((List.length a1) : Int)) a1))) ((List.length (List.replicate (Int.toNat (wr_i64 ((a1.length : Int) - 14))) (0 : Int))) - 0))) (List.replicate (Int.toNat (wr_i64 ((a1.length : Int) - 14))) (0 : Int))), (Int.toNat (wr_i64 ((a1.length : Int) - 14))), r4.1, r6.1, bits_or .i64 (wr_i64 ((wr_i64 x10) * 2 ^ 8)) (wr_i64 x12), 0)
        else
          none
      else
        none

def slices_Clone_byte (a1 : List Int) : Option (List Int) :=
  if roomy 1 a1 = true then some a1 else none

def tag_Strip (a1 : Api_Frame) : Option (((List Int) × Int × Int × Int × Int × Int × Int)) :=
  (tag_Is a1).bind fun r2 =>
  if (!r2) = true then
    some ([], 0, 0, 0, 0, 0, 11)
  else
    if (decide ((a1.body.length : Int) < 4)) = true then
      some ([], 0, 0, 0, 0, 0, 10)
    else
      (nth a1.body 0).bind fun x6 =>
      (nth a1.body 1).bind fun x8 =>
      (nth a1.body 2).bind fun x10 =>
      (nth a1.body 3).bind fun x12 =>
      if (decide ((bits_and .i64 (bits_or .i64 (wr_i64 ((wr_i64 x6) * 2 ^ 8)) (wr_i64 x8)) 4095) > 4094)) = true then
        some ([], 0, 0, 0, 0, 0, 15)
      else
        if ((bits_or .i64 (wr_i64 ((wr_i64 x10) * 2 ^ 8)) (wr_i64 x12)) == 33024) = true then
          some ([], 0, 0, 0, 0, 0, 15)
        else
          if (slok (List.length a1.body) 4 ((List.length a1.body) : Int)) = true then
            (slices_Clone_byte (List.drop (Int.toNat 4) (List.take (Int.toNat ((List.length a1.body) : Int)) a1.body))).bind fun r17 => match r17 with
            | l19 =>
              some (l19, a1.dst, a1.src, bits_or .i64 (wr_i64 ((wr_i64 x10) * 2 ^ 8)) (wr_i64 x12), bits_and .i64 (bits_or .i64 (wr_i64 ((wr_i64 x6) * 2 ^ 8)) (wr_i64 x8)) 4095, Int.fdiv (bits_or .i64 (wr_i64 ((wr_i64 x6) * 2 ^ 8)) (wr_i64 x8)) (2 ^ 12), 0)
          else
            none

def mac_Group (a1 : Int) : Option (Bool) :=
  some ((bits_and .u64 a1 1099511627776) != 0)

def enter_Vlan (a1 : Api_Port) (a2 : Bool) (a3 : Int) : Option (Int × Bool) :=
  if (!a2) = true then
    some (a1.native, a1.native != 0)
  else
    if (a3 == 0) = true then
      some (a1.native, a1.native != 0)
    else
      (slices_Contains_int a1.tagged a3).bind fun r6 =>
      if (r6) = true then
        some (a3, true)
      else
        some (0, false)

def names_Domain_1 (a1 : Api_Domain) (a2 : Int) (a3 : Int) : Option (Bool) :=
  if (a1.dev == a2) = true then
    some (a1.vlan == a3)
  else
    some false

def slices_IndexFunc_Domain_Domain_1_L1 (a1 : List Api_Domain) (a2 : Int) (a3 : Int) (v4 : Int) : Option ((Int) ⊕ (Int ⊕ Unit)) :=
  if (decide (v4 < (a1.length : Int))) = true then
    (nth a1 v4).bind fun x6 =>
    (names_Domain_1 x6 a2 a3).bind fun r8 =>
    if (r8) = true then
      some (Sum.inr (Sum.inl v4))
    else
      some (Sum.inl (wr_i64 (v4 + 1)))
  else
    some (Sum.inr (Sum.inr ()))

def slices_IndexFunc_Domain_Domain_1 (a1 : List Api_Domain) (a2 : Int) (a3 : Int) : Option (Int) :=
  (loopM (slices_IndexFunc_Domain_Domain_1_L1 a1 a2 a3) 0).bind fun r14 => match r14 with
  | Sum.inl v12 =>
    some v12
  | Sum.inr () =>
    some (-1)

def names_find_Domain_Domain_1 (a1 : Api_Net) (a2 : List Api_Domain) (a3 : Int) (a4 : Int) : Option (Int) :=
  (names_Right a1).bind fun r5 =>
  if (!r5) = true then
    some (-1)
  else
    (slices_IndexFunc_Domain_Domain_1 a2 a3 a4).bind fun r8 =>
    some r8

def names_Domain (a1 : Api_Net) (a2 : Int) (a3 : Int) : Option (Int) :=
  (names_find_Domain_Domain_1 a1 a1.domains a2 a3).bind fun r4 =>
  some r4

def enter_At_J1 (a1 : Api_Net) (a2 : Int) (l11 : List Int) (n12 : Nat) (v13 : Int) (v14 : Int) (v15 : Int) (v16 : Int) (r17 : Bool) : Option (((List Int) × Int × Int × Int × Nat × Int × Int)) :=
  if (v16 == 0) = true then
    if (r17) = true then
      (tag_Strip (⟨v13, v14, v15, l11⟩ : Api_Frame)).bind fun r21 => match r21 with
      | (l23, v24, v25, v26, v27, v28, v29) =>
        some (l23, v24, v25, v26, (List.length l23), v29, v27)
    else
      some (l11, v13, v14, v15, n12, v16, 0)
  else
    some (l11, v13, v14, v15, n12, v16, 0)

def enter_At_J2 (a1 : Api_Net) (a2 : Int) (r17 : Bool) (l67 : List Int) (v68 : Int) (v69 : Int) (v70 : Int) (n71 : Nat) (v72 : Int) (v73 : Int) : Option (Int) :=
  if (v72 == 0) = true then
    (mac_Group v69).bind fun r77 =>
    if (r77) = true then
      some 11
    else
      some v72
  else
    some v72

def enter_At_J3 (a1 : Api_Net) (l67 : List Int) (v68 : Int) (v69 : Int) (v70 : Int) (n71 : Nat) (v81 : Int) (x84 : Api_Port) (r86 : Int × Bool) : Option (Int) :=
  if (v81 == 0) = true then
    if (!r86.2) = true then
      some 16
    else
      some v81
  else
    some v81

def enter_At (a1 : Api_Net) (a2 : Int) (a3 : List Int) : Option (((List Int) × Nat × Int × Int × Int × Int × Int)) :=
  if (decide (a2 < 0)) = true then
    some ([], 0, 0, 0, 0, 0, 2)
  else
    if (decide (a2 ≥ (a1.ports.length : Int))) = true then
      some ([], 0, 0, 0, 0, 0, 2)
    else
      (names_Right a1).bind fun r6 =>
      if (!r6) = true then
        some ([], 0, 0, 0, 0, 0, 2)
      else
        (ether_Take a3).bind fun r9 => match r9 with
        | (l11, n12, v13, v14, v15, v16) =>
          (tag_Is (⟨v13, v14, v15, l11⟩ : Api_Frame)).bind fun r17 =>
          (enter_At_J1 a1 a2 l11 n12 v13 v14 v15 v16 r17).bind fun r75 => match r75 with
          | (l67, v68, v69, v70, n71, v72, v73) =>
            (enter_At_J2 a1 a2 r17 l67 v68 v69 v70 n71 v72 v73).bind fun r83 => match r83 with
            | v81 =>
              (nth a1.ports a2).bind fun x84 =>
              (enter_Vlan x84 r17 v73).bind fun r86 =>
              (enter_At_J3 a1 l67 v68 v69 v70 n71 v81 x84 r86).bind fun r93 => match r93 with
              | v91 =>
                if (v91 != 0) = true then
                  some ([], 0, 0, 0, 0, 0, v91)
                else
                  (names_Domain a1 x84.dev r86.1).bind fun r95 =>
                  some (l67, n71, r95, v68, v69, v70, 0)

def ether_Same (a1 : Api_Frame) (a2 : Api_Frame) : Option (Bool) :=
  if (a1.dst == a2.dst) = true then
    if (a1.src == a2.src) = true then
      if (a1.type_ == a2.type_) = true then
        some (seqB (bstr a1.body) (bstr a2.body))
      else
        some false
    else
      some false
  else
    some false

def palinglaw27_works : Option (Bool) :=
  (ether_Put (⟨1, 2, 2048, []⟩ : Api_Frame)).bind fun r1 => match r1 with
  | (l3, v4) =>
    (tag_Add (⟨1, 2, 2048, []⟩ : Api_Frame) 0 0).bind fun r5 => match r5 with
    | (l7, v8, v9, v10, v11) =>
      (tag_Add (⟨1, 2, 2048, []⟩ : Api_Frame) 10 0).bind fun r12 => match r12 with
      | (l14, v15, v16, v17, v18) =>
        (ether_Put (⟨v8, v9, v10, l7⟩ : Api_Frame)).bind fun r19 => match r19 with
        | (l21, v22) =>
          (ether_Put (⟨v15, v16, v17, l14⟩ : Api_Frame)).bind fun r23 => match r23 with
          | (l25, v26) =>
            (enter_At (⟨[(⟨0, 0, (⟨#[97]⟩ : ByteArray), 0, 0⟩ : Api_Device)], [(⟨0, 0, 10, 0, (-1), (⟨#[112]⟩ : ByteArray), []⟩ : Api_Port)], [], [(⟨0, 10, 0, (-1), 0, []⟩ : Api_Domain)], [], [], [], []⟩ : Api_Net) 0 l3).bind fun r27 => match r27 with
            | (l29, n30, v31, v32, v33, v34, v35) =>
              (enter_At (⟨[(⟨0, 0, (⟨#[97]⟩ : ByteArray), 0, 0⟩ : Api_Device)], [(⟨0, 0, 10, 0, (-1), (⟨#[112]⟩ : ByteArray), []⟩ : Api_Port)], [], [(⟨0, 10, 0, (-1), 0, []⟩ : Api_Domain)], [], [], [], []⟩ : Api_Net) 0 l21).bind fun r36 => match r36 with
              | (l38, n39, v40, v41, v42, v43, v44) =>
                (enter_At (⟨[(⟨0, 0, (⟨#[97]⟩ : ByteArray), 0, 0⟩ : Api_Device)], [(⟨0, 0, 10, 0, (-1), (⟨#[112]⟩ : ByteArray), []⟩ : Api_Port)], [], [(⟨0, 10, 0, (-1), 0, []⟩ : Api_Domain)], [], [], [], []⟩ : Api_Net) 0 l25).bind fun r45 => match r45 with
                | (l47, n48, v49, v50, v51, v52, v53) =>
                  if (v35 == 0) = true then
                    if (v31 == 0) = true then
                      if (v32 == 1) = true then
                        if (v44 == 0) = true then
                          (ether_Same (⟨v32, v33, v34, l29⟩ : Api_Frame) (⟨v41, v42, v43, l38⟩ : Api_Frame)).bind fun r58 =>
                          if (r58) = true then
                            some (v53 == 16)
                          else
                            some false
                        else
                          some false
                      else
                        some false
                    else
                      some false
                  else
                    some false

def palingref15_Place (a1 : Int) (a2 : Int) : Option (Bool) :=
  if (decide (a1 ≥ 0)) = true then
    some (decide (a1 < a2))
  else
    some false

def palingref15_At_L1 (a1 : Api_Net) (a2 : Int) (a3 : Int) (v4 : Int) : Option ((Int) ⊕ (Int ⊕ Unit)) :=
  if (decide (v4 < (a1.domains.length : Int))) = true then
    (nth a1.domains v4).bind fun x6 =>
    if (x6.dev == a2) = true then
      (nth a1.domains v4).bind fun x9 =>
      if (x9.vlan == a3) = true then
        some (Sum.inr (Sum.inl v4))
      else
        some (Sum.inl (wr_i64 (v4 + 1)))
    else
      some (Sum.inl (wr_i64 (v4 + 1)))
  else
    some (Sum.inr (Sum.inr ()))

def palingref15_At (a1 : Api_Net) (a2 : Int) (a3 : Int) : Option (Int) :=
  (loopM (palingref15_At_L1 a1 a2 a3) 0).bind fun r15 => match r15 with
  | Sum.inl v13 =>
    some v13
  | Sum.inr () =>
    some (-1)

def palingref15_In_L1 (a1 : List Int) (a2 : Int) (v3 : Int) : Option ((Int) ⊕ (Unit ⊕ Unit)) :=
  if (decide (v3 < (a1.length : Int))) = true then
    (nth a1 v3).bind fun x5 =>
    if (x5 == a2) = true then
      some (Sum.inr (Sum.inl ()))
    else
      some (Sum.inl (wr_i64 (v3 + 1)))
  else
    some (Sum.inr (Sum.inr ()))

def palingref15_In (a1 : List Int) (a2 : Int) : Option (Bool) :=
  (loopM (palingref15_In_L1 a1 a2) 0).bind fun r9 => match r9 with
  | Sum.inl () =>
    some true
  | Sum.inr () =>
    some false

def palingref15_peer (a1 : Api_Net) (a2 : Int) (a3 : Int) : Option (Bool) :=
  (palingref15_Place a3 (a1.domains.length : Int)).bind fun r4 =>
  if (!r4) = true then
    some false
  else
    if (a3 == a2) = true then
      some false
    else
      (nth a1.domains a2).bind fun x8 =>
      (nth a1.domains a3).bind fun x10 =>
      if (x8.dev != x10.dev) = true then
        if (x8.vni == x10.vni) = true then
          if (x8.vni != 0) = true then
            (nth a1.devices x8.dev).bind fun x15 =>
            if (x15.vtep != 0) = true then
              (nth a1.devices x10.dev).bind fun x18 =>
              if (x18.vtep != 0) = true then
                (palingref15_In x10.peers a2).bind fun r21 =>
                some r21
              else
                some false
            else
              some false
          else
            some false
        else
          some false
      else
        some false

def palingref15_domains_L1 (a1 : Api_Net) (v2 : Int) : Option ((Int) ⊕ (Unit ⊕ Unit)) :=
  if (decide (v2 < (a1.domains.length : Int))) = true then
    (nth a1.domains v2).bind fun x4 =>
    (palingref15_Place x4.dev (a1.devices.length : Int)).bind fun r6 =>
    if (!r6) = true then
      some (Sum.inr (Sum.inl ()))
    else
      if (decide (x4.vlan < 1)) = true then
        some (Sum.inr (Sum.inl ()))
      else
        if (decide (x4.vlan > 4094)) = true then
          some (Sum.inr (Sum.inl ()))
        else
          if (decide (x4.vni < 0)) = true then
            some (Sum.inr (Sum.inl ()))
          else
            if (decide (x4.vni ≥ 16777216)) = true then
              some (Sum.inr (Sum.inl ()))
            else
              (palingref15_At a1 x4.dev x4.vlan).bind fun r13 =>
              if (r13 != v2) = true then
                some (Sum.inr (Sum.inl ()))
              else
                if (x4.irb != (-1)) = true then
                  (palingref15_Place x4.irb (a1.irbs.length : Int)).bind fun r17 =>
                  if (!r17) = true then
                    some (Sum.inr (Sum.inl ()))
                  else
                    (nth a1.irbs x4.irb).bind fun x20 =>
                    if (x20.domain != v2) = true then
                      some (Sum.inr (Sum.inl ()))
                    else
                      some (Sum.inl (wr_i64 (v2 + 1)))
                else
                  some (Sum.inl (wr_i64 (v2 + 1)))
  else
    some (Sum.inr (Sum.inr ()))

def palingref15_domains_L3 (a1 : Api_Net) (v25 : Int) (x27 : Api_Domain) (v29 : Int) : Option ((Int) ⊕ (Unit ⊕ Unit)) :=
  if (decide (v29 < (x27.peers.length : Int))) = true then
    (nth x27.peers v29).bind fun x31 =>
    (palingref15_peer a1 v25 x31).bind fun r33 =>
    if (!r33) = true then
      some (Sum.inr (Sum.inl ()))
    else
      if (slok (List.length x27.peers) 0 v29) = true then
        (nth x27.peers v29).bind fun x37 =>
        (palingref15_In (List.drop (Int.toNat 0) (List.take (Int.toNat v29) x27.peers)) x37).bind fun r39 =>
        if (r39) = true then
          some (Sum.inr (Sum.inl ()))
        else
          some (Sum.inl (wr_i64 (v29 + 1)))
      else
        none
  else
    some (Sum.inr (Sum.inr ()))

def palingref15_domains_L2 (a1 : Api_Net) (v25 : Int) : Option ((Int) ⊕ (Unit ⊕ Unit)) :=
  if (decide (v25 < (a1.domains.length : Int))) = true then
    (nth a1.domains v25).bind fun x27 =>
    (loopM (palingref15_domains_L3 a1 v25 x27) 0).bind fun r43 => match r43 with
    | Sum.inl () =>
      some (Sum.inr (Sum.inl ()))
    | Sum.inr () =>
      some (Sum.inl (wr_i64 (v25 + 1)))
  else
    some (Sum.inr (Sum.inr ()))

def palingref15_domains (a1 : Api_Net) : Option (Bool) :=
  (loopM (palingref15_domains_L1 a1) 0).bind fun r24 => match r24 with
  | Sum.inl () =>
    some false
  | Sum.inr () =>
    (loopM (palingref15_domains_L2 a1) 0).bind fun r45 => match r45 with
    | Sum.inl () =>
      some false
    | Sum.inr () =>
      some true

def palingref03_Rising_L1 (a1 : List Int) (a2 : Int) (a3 : Int) (v6 : Int) : Option ((Int) ⊕ (Unit ⊕ Unit)) :=
  if (decide (v6 < (a1.length : Int))) = true then
    (nth a1 v6).bind fun x8 =>
    if (decide (x8 < a2)) = true then
      some (Sum.inr (Sum.inl ()))
    else
      (nth a1 v6).bind fun x11 =>
      if (decide (x11 > a3)) = true then
        some (Sum.inr (Sum.inl ()))
      else
        if (decide (v6 > 0)) = true then
          (nth a1 v6).bind fun x15 =>
          (nth a1 (wr_i64 (v6 - 1))).bind fun x17 =>
          if (decide (x15 ≤ x17)) = true then
            some (Sum.inr (Sum.inl ()))
          else
            some (Sum.inl (wr_i64 (v6 + 1)))
        else
          some (Sum.inl (wr_i64 (v6 + 1)))
  else
    some (Sum.inr (Sum.inr ()))

def palingref03_Rising (a1 : List Int) (a2 : Int) (a3 : Int) : Option (Bool) :=
  if (decide ((a1.length : Int) < 1)) = true then
    some false
  else
    if (decide ((a1.length : Int) > 16)) = true then
      some false
    else
      (loopM (palingref03_Rising_L1 a1 a2 a3) 0).bind fun r21 => match r21 with
      | Sum.inl () =>
        some false
      | Sum.inr () =>
        some true

def palingref15_rising (a1 : List Int) (a2 : Int) : Option (Bool) :=
  if ((a1.length : Int) == 0) = true then
    some true
  else
    (palingref03_Rising a1 1 a2).bind fun r4 =>
    some r4

def palingref15_ports_J2 (a1 : Api_Net) (v2 : Int) (x4 : Api_Port) : Option (Unit ⊕ Unit) :=
  if (x4.native == 0) = true then
    if ((x4.tagged.length : Int) == 0) = true then
      some (Sum.inl ())
    else
      if (decide (x4.native > 0)) = true then
        (palingref15_At a1 x4.dev x4.native).bind fun r20 =>
        if (decide (r20 < 0)) = true then
          some (Sum.inl ())
        else
          some (Sum.inr ())
      else
        some (Sum.inr ())
  else
    if (decide (x4.native > 0)) = true then
      (palingref15_At a1 x4.dev x4.native).bind fun r24 =>
      if (decide (r24 < 0)) = true then
        some (Sum.inl ())
      else
        some (Sum.inr ())
    else
      some (Sum.inr ())

def palingref15_ports_L3 (a1 : Api_Net) (v2 : Int) (x4 : Api_Port) (v29 : Int) : Option ((Int) ⊕ (Unit ⊕ Unit)) :=
  if (decide (v29 < (x4.tagged.length : Int))) = true then
    (nth x4.tagged v29).bind fun x31 =>
    (palingref15_At a1 x4.dev x31).bind fun r33 =>
    if (decide (r33 < 0)) = true then
      some (Sum.inr (Sum.inl ()))
    else
      some (Sum.inl (wr_i64 (v29 + 1)))
  else
    some (Sum.inr (Sum.inr ()))

def palingref15_ports_L1 (a1 : Api_Net) (v2 : Int) : Option ((Int) ⊕ (Unit ⊕ Unit)) :=
  if (decide (v2 < (a1.ports.length : Int))) = true then
    (nth a1.ports v2).bind fun x4 =>
    (palingref15_Place x4.dev (a1.devices.length : Int)).bind fun r6 =>
    if (!r6) = true then
      some (Sum.inr (Sum.inl ()))
    else
      if (decide (x4.native < 0)) = true then
        some (Sum.inr (Sum.inl ()))
      else
        if (decide (x4.native > 4094)) = true then
          some (Sum.inr (Sum.inl ()))
        else
          (palingref15_rising x4.tagged 4094).bind fun r11 =>
          if (!r11) = true then
            some (Sum.inr (Sum.inl ()))
          else
            (palingref15_In x4.tagged x4.native).bind fun r14 =>
            if (r14) = true then
              some (Sum.inr (Sum.inl ()))
            else
              (palingref15_ports_J2 a1 v2 x4).bind fun r28 => match r28 with
              | Sum.inl () =>
                some (Sum.inr (Sum.inl ()))
              | Sum.inr () =>
                (loopM (palingref15_ports_L3 a1 v2 x4) 0).bind fun r37 => match r37 with
                | Sum.inl () =>
                  some (Sum.inr (Sum.inl ()))
                | Sum.inr () =>
                  if (x4.link == (-1)) = true then
                    some (Sum.inl (wr_i64 (v2 + 1)))
                  else
                    (palingref15_Place x4.link (a1.links.length : Int)).bind fun r39 =>
                    if (!r39) = true then
                      some (Sum.inr (Sum.inl ()))
                    else
                      (nth a1.links x4.link).bind fun x42 =>
                      if (x42.a != v2) = true then
                        (nth a1.links x4.link).bind fun x45 =>
                        if (x45.b != v2) = true then
                          some (Sum.inr (Sum.inl ()))
                        else
                          some (Sum.inl (wr_i64 (v2 + 1)))
                      else
                        some (Sum.inl (wr_i64 (v2 + 1)))
  else
    some (Sum.inr (Sum.inr ()))

def palingref15_ports (a1 : Api_Net) : Option (Bool) :=
  (loopM (palingref15_ports_L1 a1) 0).bind fun r49 => match r49 with
  | Sum.inl () =>
    some false
  | Sum.inr () =>
    some true

def palingref15_links_L1 (a1 : Api_Net) (v2 : Int) : Option ((Int) ⊕ (Unit ⊕ Unit)) :=
  if (decide (v2 < (a1.links.length : Int))) = true then
    (nth a1.links v2).bind fun x4 =>
    (palingref15_Place x4.a (a1.ports.length : Int)).bind fun r6 =>
    if (!r6) = true then
      some (Sum.inr (Sum.inl ()))
    else
      (palingref15_Place x4.b (a1.ports.length : Int)).bind fun r9 =>
      if (!r9) = true then
        some (Sum.inr (Sum.inl ()))
      else
        (nth a1.ports x4.a).bind fun x12 =>
        (nth a1.ports x4.b).bind fun x14 =>
        if (x12.dev == x14.dev) = true then
          some (Sum.inr (Sum.inl ()))
        else
          (nth a1.ports x4.a).bind fun x17 =>
          if (x17.link != v2) = true then
            some (Sum.inr (Sum.inl ()))
          else
            (nth a1.ports x4.b).bind fun x20 =>
            if (x20.link != v2) = true then
              some (Sum.inr (Sum.inl ()))
            else
              some (Sum.inl (wr_i64 (v2 + 1)))
  else
    some (Sum.inr (Sum.inr ()))

def palingref15_links (a1 : Api_Net) : Option (Bool) :=
  (loopM (palingref15_links_L1 a1) 0).bind fun r24 => match r24 with
  | Sum.inl () =>
    some false
  | Sum.inr () =>
    some true

def palingref15_Member (a1 : Api_Port) (a2 : Int) : Option (Bool) :=
  if (a2 != 0) = true then
    if (a1.native == a2) = true then
      some true
    else
      (palingref15_In a1.tagged a2).bind fun r5 =>
      some r5
  else
    some false

def palingref15_rest_L1 (a1 : Api_Net) (v2 : Int) : Option ((Int) ⊕ (Unit ⊕ Unit)) :=
  if (decide (v2 < (a1.statics.length : Int))) = true then
    (nth a1.statics v2).bind fun x4 =>
    (palingref15_Place x4.domain (a1.domains.length : Int)).bind fun r6 =>
    if (!r6) = true then
      some (Sum.inr (Sum.inl ()))
    else
      (palingref15_Place x4.port (a1.ports.length : Int)).bind fun r9 =>
      if (!r9) = true then
        some (Sum.inr (Sum.inl ()))
      else
        (nth a1.domains x4.domain).bind fun x12 =>
        (nth a1.ports x4.port).bind fun x14 =>
        if (x14.dev != x12.dev) = true then
          some (Sum.inr (Sum.inl ()))
        else
          (nth a1.ports x4.port).bind fun x17 =>
          (palingref15_Member x17 x12.vlan).bind fun r19 =>
          if (!r19) = true then
            some (Sum.inr (Sum.inl ()))
          else
            some (Sum.inl (wr_i64 (v2 + 1)))
  else
    some (Sum.inr (Sum.inr ()))

def palingref15_rest_L2 (a1 : Api_Net) (v24 : Int) : Option ((Int) ⊕ (Unit ⊕ Unit)) :=
  if (decide (v24 < (a1.floods.length : Int))) = true then
    (nth a1.floods v24).bind fun x26 =>
    (palingref15_Place x26.dev (a1.devices.length : Int)).bind fun r28 =>
    if (!r28) = true then
      some (Sum.inr (Sum.inl ()))
    else
      (nth a1.floods v24).bind fun x31 =>
      if (decide ((x31.addrs.length : Int) > 16)) = true then
        some (Sum.inr (Sum.inl ()))
      else
        some (Sum.inl (wr_i64 (v24 + 1)))
  else
    some (Sum.inr (Sum.inr ()))

def palingref15_rest_L3 (a1 : Api_Net) (v36 : Int) : Option ((Int) ⊕ (Unit ⊕ Unit)) :=
  if (decide (v36 < (a1.vrfs.length : Int))) = true then
    (nth a1.vrfs v36).bind fun x38 =>
    (palingref15_Place x38.dev (a1.devices.length : Int)).bind fun r40 =>
    if (!r40) = true then
      some (Sum.inr (Sum.inl ()))
    else
      (palingref15_rising x38.imports 65535).bind fun r43 =>
      if (!r43) = true then
        some (Sum.inr (Sum.inl ()))
      else
        (palingref15_rising x38.exports 65535).bind fun r46 =>
        if (!r46) = true then
          some (Sum.inr (Sum.inl ()))
        else
          some (Sum.inl (wr_i64 (v36 + 1)))
  else
    some (Sum.inr (Sum.inr ()))

def palingref15_rest_L4 (a1 : Api_Net) (v51 : Int) : Option ((Int) ⊕ (Unit ⊕ Unit)) :=
  if (decide (v51 < (a1.irbs.length : Int))) = true then
    (nth a1.irbs v51).bind fun x53 =>
    (palingref15_Place x53.domain (a1.domains.length : Int)).bind fun r55 =>
    if (!r55) = true then
      some (Sum.inr (Sum.inl ()))
    else
      (palingref15_Place x53.vrf (a1.vrfs.length : Int)).bind fun r58 =>
      if (!r58) = true then
        some (Sum.inr (Sum.inl ()))
      else
        if (decide (x53.net.bits < 1)) = true then
          some (Sum.inr (Sum.inl ()))
        else
          if (decide (x53.net.bits > 30)) = true then
            some (Sum.inr (Sum.inl ()))
          else
            (nth a1.domains x53.domain).bind fun x63 =>
            (nth a1.vrfs x53.vrf).bind fun x65 =>
            if (x63.dev != x65.dev) = true then
              some (Sum.inr (Sum.inl ()))
            else
              (nth a1.domains x53.domain).bind fun x68 =>
              if (x68.irb != v51) = true then
                some (Sum.inr (Sum.inl ()))
              else
                some (Sum.inl (wr_i64 (v51 + 1)))
  else
    some (Sum.inr (Sum.inr ()))

def palingref15_rest (a1 : Api_Net) : Option (Bool) :=
  (loopM (palingref15_rest_L1 a1) 0).bind fun r23 => match r23 with
  | Sum.inl () =>
    some false
  | Sum.inr () =>
    (loopM (palingref15_rest_L2 a1) 0).bind fun r35 => match r35 with
    | Sum.inl () =>
      some false
    | Sum.inr () =>
      (loopM (palingref15_rest_L3 a1) 0).bind fun r50 => match r50 with
      | Sum.inl () =>
        some false
      | Sum.inr () =>
        (loopM (palingref15_rest_L4 a1) 0).bind fun r72 => match r72 with
        | Sum.inl () =>
          some false
        | Sum.inr () =>
          some true

def palingref15_Right (a1 : Api_Net) : Option (Bool) :=
  if (decide ((a1.devices.length : Int) > 8)) = true then
    some false
  else
    if (decide ((a1.ports.length : Int) > 40)) = true then
      some false
    else
      if (decide ((a1.links.length : Int) > 20)) = true then
        some false
      else
        if (decide ((a1.domains.length : Int) > 48)) = true then
          some false
        else
          if (decide ((a1.statics.length : Int) > 64)) = true then
            some false
          else
            if (decide ((a1.floods.length : Int) > 48)) = true then
              some false
            else
              if (decide ((a1.vrfs.length : Int) > 16)) = true then
                some false
              else
                if (decide ((a1.irbs.length : Int) > 48)) = true then
                  some false
                else
                  (palingref15_domains a1).bind fun r10 =>
                  if (r10) = true then
                    (palingref15_ports a1).bind fun r13 =>
                    if (r13) = true then
                      (palingref15_links a1).bind fun r16 =>
                      if (r16) = true then
                        (palingref15_rest a1).bind fun r19 =>
                        some r19
                      else
                        some false
                    else
                      some false
                  else
                    some false

def palingref01_number_L1 (a1 : List Int) (v2 : Int) (v3 : Int) : Option ((Int × Int) ⊕ (Int)) :=
  if (decide (v3 < (a1.length : Int))) = true then
    (nth a1 v3).bind fun x5 =>
    some (Sum.inl (wr_u64 ((wr_u64 (v2 * 256)) + (wr_u64 x5)), wr_i64 (v3 + 1)))
  else
    some (Sum.inr v2)

def palingref01_number (a1 : List Int) : Option (Int) :=
  (loopM (fun s : Int × Int => match s with | (v2, v3) => palingref01_number_L1 a1 v2 v3) (0, 0)).bind fun r10 => match r10 with
  | v8 =>
    some v8

def palingref01_Take (a1 : List Int) (a2 : Int) : Option (Int × Bool) :=
  if (decide (a2 < 0)) = true then
    some (0, false)
  else
    if (decide (a2 > (a1.length : Int))) = true then
      some (0, false)
    else
      if (decide ((wr_i64 ((a1.length : Int) - a2)) < 6)) = true then
        some (0, false)
      else
        if (slok (List.length a1) a2 (wr_i64 (a2 + 6))) = true then
          (palingref01_number (List.drop (Int.toNat a2) (List.take (Int.toNat (wr_i64 (a2 + 6))) a1))).bind fun r7 =>
          some (r7, true)
        else
          none

def palingref04_Take (a1 : List Int) : Option (((List Int) × Int × Int × Int × Int)) :=
  if (decide ((a1.length : Int) < 14)) = true then
    some ([], 0, 0, 0, 10)
  else
    if (decide ((a1.length : Int) > 1518)) = true then
      some ([], 0, 0, 0, 14)
    else
      (palingref01_Take a1 0).bind fun r4 =>
      (palingref01_Take a1 6).bind fun r6 =>
      (nth a1 12).bind fun x8 =>
      (nth a1 13).bind fun x10 =>
      if (slok (List.length a1) 14 ((List.length a1) : Int)) = true then
        if (roomy 1 (List.drop (Int.toNat 14) (List.take (Int.toNat ((List.length a1) : Int)) a1))) = true then
          some (List.drop (Int.toNat 14) (List.take (Int.toNat ((List.length a1) : Int)) a1), r4.1, r6.1, wr_i64 ((wr_i64 ((wr_i64 x8) * 256)) + (wr_i64 x10)), 0)
        else
          none
      else
        none

def palingref05_Strip (a1 : Api_Frame) : Option (((List Int) × Int × Int × Int × Int × Int × Int)) :=
  if (a1.type_ != 33024) = true then
    some ([], 0, 0, 0, 0, 0, 11)
  else
    if (decide ((a1.body.length : Int) < 4)) = true then
      some ([], 0, 0, 0, 0, 0, 10)
    else
      (nth a1.body 0).bind fun x4 =>
      (nth a1.body 1).bind fun x6 =>
      (nth a1.body 2).bind fun x8 =>
      (nth a1.body 3).bind fun x10 =>
      if ((Int.tmod (wr_i64 ((wr_i64 ((wr_i64 x4) * 256)) + (wr_i64 x6))) 4096) == 4095) = true then
        some ([], 0, 0, 0, 0, 0, 15)
      else
        if ((wr_i64 ((wr_i64 ((wr_i64 x8) * 256)) + (wr_i64 x10))) == 33024) = true then
          some ([], 0, 0, 0, 0, 0, 15)
        else
          if (slok (List.length a1.body) 4 ((List.length a1.body) : Int)) = true then
            if (roomy 1 (List.drop (Int.toNat 4) (List.take (Int.toNat ((List.length a1.body) : Int)) a1.body))) = true then
              some (List.drop (Int.toNat 4) (List.take (Int.toNat ((List.length a1.body) : Int)) a1.body), a1.dst, a1.src, wr_i64 ((wr_i64 ((wr_i64 x8) * 256)) + (wr_i64 x10)), Int.tmod (wr_i64 ((wr_i64 ((wr_i64 x4) * 256)) + (wr_i64 x6))) 4096, wr_i64 (Int.tdiv (wr_i64 ((wr_i64 ((wr_i64 x4) * 256)) + (wr_i64 x6))) 4096), 0)
            else
              none
          else
            none

def palingref01_Bytes_L2 (a1 : Int) (l2 : List Int) (v3 : Int) (v5 : Int) (v6 : Int) : Option ((Int × Int) ⊕ (Int)) :=
  if (decide (v6 < v3)) = true then
    some (Sum.inl (wr_u64 (Int.tdiv v5 256), wr_i64 (v6 + 1)))
  else
    some (Sum.inr v5)

def palingref01_Bytes_L1 (a1 : Int) (l2 : List Int) (v3 : Int) : Option (((List Int) × Int) ⊕ ((List Int))) :=
  if (decide (v3 ≥ 0)) = true then
    (loopM (fun s : Int × Int => match s with | (v5, v6) => palingref01_Bytes_L2 a1 l2 v3 v5 v6) (a1, 0)).bind fun r11 => match r11 with
    | v9 =>
      if (roomy 1 (l2 ++ [(wr_u8 (Int.tmod v9 256) : Int)])) = true then
        some (Sum.inl (l2 ++ [(wr_u8 (Int.tmod v9 256) : Int)], wr_i64 (v3 - 1)))
      else
        none
  else
    some (Sum.inr l2)

def palingref01_Bytes (a1 : Int) : Option (((List Int))) :=
  (loopM (fun s : (List Int) × Int => match s with | (l2, v3) => palingref01_Bytes_L1 a1 l2 v3) ([], 5)).bind fun r17 => match r17 with
  | l15 =>
    some l15

def palingref01_Group (a1 : Int) : Option (Bool) :=
  (palingref01_Bytes a1).bind fun r2 => match r2 with
  | l4 =>
    if (lin l4 0) = true then
      (l4[(Int.toNat 0)]?).bind fun x6 =>
      some ((Int.tmod x6 2) == 1)
    else
      none

def palingref27_Vlan (a1 : Api_Port) (a2 : Bool) (a3 : Int) : Option (Int × Bool) :=
  if (!a2) = true then
    some (a1.native, a1.native != 0)
  else
    if (a3 == 0) = true then
      some (a1.native, a1.native != 0)
    else
      (palingref15_In a1.tagged a3).bind fun r6 =>
      if (r6) = true then
        some (a3, true)
      else
        some (0, false)

def palingref27_At_J1 (a1 : Api_Net) (a2 : Int) (l12 : List Int) (v13 : Int) (v14 : Int) (v15 : Int) (v16 : Int) : Option (Int ⊕ ((List Int) × Int × Int × Int × Int)) :=
  if (v15 == 33024) = true then
    (palingref05_Strip (⟨v13, v14, v15, l12⟩ : Api_Frame)).bind fun r19 => match r19 with
    | (l21, v22, v23, v24, v25, v26, v27) =>
      if (v27 != 0) = true then
        some (Sum.inl v27)
      else
        some (Sum.inr (l21, v22, v23, v24, v25))
  else
    some (Sum.inr (l12, v13, v14, v15, 0))

def palingref27_At (a1 : Api_Net) (a2 : Int) (a3 : List Int) : Option (((List Int) × Int × Int × Int × Int × Int)) :=
  (palingref15_Right a1).bind fun r4 =>
  if (!r4) = true then
    some ([], 0, 0, 0, 0, 2)
  else
    (palingref15_Place a2 (a1.ports.length : Int)).bind fun r7 =>
    if (!r7) = true then
      some ([], 0, 0, 0, 0, 2)
    else
      (palingref04_Take a3).bind fun r10 => match r10 with
      | (l12, v13, v14, v15, v16) =>
        if (v16 != 0) = true then
          some ([], 0, 0, 0, 0, v16)
        else
          (palingref27_At_J1 a1 a2 l12 v13 v14 v15 v16).bind fun r70 => match r70 with
          | Sum.inl v30 =>
            some ([], 0, 0, 0, 0, v30)
          | Sum.inr (l64, v65, v66, v67, v68) =>
            (palingref01_Group v66).bind fun r71 =>
            if (r71) = true then
              some ([], 0, 0, 0, 0, 11)
            else
              (nth a1.ports a2).bind fun x74 =>
              (palingref27_Vlan x74 (v15 == 33024) v68).bind fun r76 =>
              if (!r76.2) = true then
                some ([], 0, 0, 0, 0, 16)
              else
                (nth a1.ports a2).bind fun x79 =>
                (palingref15_At a1 x79.dev r76.1).bind fun r81 =>
                some (l64, r81, v65, v66, v67, 0)

def palingref04_Same (a1 : Api_Frame) (a2 : Api_Frame) : Option (Bool) :=
  if (a1.dst == a2.dst) = true then
    if (a1.src == a2.src) = true then
      if (a1.type_ == a2.type_) = true then
        some (seqB (bstr a1.body) (bstr a2.body))
      else
        some false
    else
      some false
  else
    some false

def palinglaw27_EnterComes (a1 : Api_Net) (a2 : Int) (a3 : List Int) (a4 : Api_Port) (a5 : Bool) (a6 : Int) : Option (Bool) :=
  (palinglaw15_Great a1).bind fun r7 =>
  if (r7) = true then
    (palinglaw27_works).bind fun r10 =>
    some r10
  else
    if (decide ((a3.length : Int) > 4000)) = true then
      (palinglaw27_works).bind fun r13 =>
      some r13
    else
      if (decide ((a4.tagged.length : Int) > 100)) = true then
        (palinglaw27_works).bind fun r16 =>
        some r16
      else
        (enter_At a1 a2 a3).bind fun r18 => match r18 with
        | (l20, n21, v22, v23, v24, v25, v26) =>
          (palingref27_At a1 a2 a3).bind fun r27 => match r27 with
          | (l29, v30, v31, v32, v33, v34) =>
            (enter_Vlan a4 a5 a6).bind fun r35 =>
            (palingref27_Vlan a4 a5 a6).bind fun r37 =>
            if (v22 == v30) = true then
              (palingref04_Same (⟨v23, v24, v25, l20⟩ : Api_Frame) (⟨v31, v32, v33, l29⟩ : Api_Frame)).bind fun r40 =>
              if (r40) = true then
                if (v26 == v34) = true then
                  if (r35.1 == r37.1) = true then
                    if (r35.2 == r37.2) = true then
                      (palinglaw27_works).bind fun r46 =>
                      some r46
                    else
                      some false
                  else
                    some false
                else
                  some false
              else
                some false
            else
              some false

def names_Members_L1 (a1 : Api_Net) (a2 : Int) (l9 : List Int) (v10 : Int) : Option (((List Int) × Int) ⊕ ((List Int))) :=
  if (decide (v10 < (a1.ports.length : Int))) = true then
    (nth a1.ports v10).bind fun x12 =>
    (nth a1.domains a2).bind fun x14 =>
    if (x12.dev == x14.dev) = true then
      (nth a1.domains a2).bind fun x17 =>
      (names_Member x12 x17.vlan).bind fun r19 =>
      if (r19) = true then
        if (roomy 8 (l9 ++ [v10])) = true then
          some (Sum.inl (l9 ++ [v10], wr_i64 (v10 + 1)))
        else
          none
      else
        some (Sum.inl (l9, wr_i64 (v10 + 1)))
    else
      some (Sum.inl (l9, wr_i64 (v10 + 1)))
  else
    some (Sum.inr l9)

def names_Members (a1 : Api_Net) (a2 : Int) : Option (((List Int))) :=
  (names_Right a1).bind fun r3 =>
  if (!r3) = true then
    some []
  else
    (names_place_Domain a1.domains a2).bind fun r6 =>
    if (!r6) = true then
      some []
    else
      (loopM (fun s : (List Int) × Int => match s with | (l9, v10) => names_Members_L1 a1 a2 l9 v10) ([], 0)).bind fun r27 => match r27 with
      | l25 =>
        some l25

def palinglaw27_EnterMember_L1 (a2 : Int) (a3 : List Int) (l13 : List Int) (n14 : Nat) (v16 : Int) (v17 : Int) (v18 : Int) (l26 : List Int) (v27 : Bool) (v28 : Int) : Option ((Bool × Int) ⊕ (Bool)) :=
  if (decide (v28 < ((List.length l26) : Int))) = true then
    if (lin l26 v28) = true then
      (l26[(Int.toNat v28)]?).bind fun x31 =>
      if (v27) = true then
        some (Sum.inl (true, wr_i64 (v28 + 1)))
      else
        some (Sum.inl (x31 == a2, wr_i64 (v28 + 1)))
    else
      none
  else
    some (Sum.inr v27)

def palinglaw27_EnterMember (a1 : Api_Net) (a2 : Int) (a3 : List Int) : Option (Bool) :=
  (palinglaw27_works).bind fun r4 =>
  if (!r4) = true then
    some false
  else
    (palinglaw15_Great a1).bind fun r7 =>
    if (r7) = true then
      some true
    else
      if (decide ((a3.length : Int) > 4000)) = true then
        some true
      else
        (enter_At a1 a2 a3).bind fun r11 => match r11 with
        | (l13, n14, v15, v16, v17, v18, v19) =>
          if (v19 != 0) = true then
            if (v15 == 0) = true then
              (ether_Same (⟨v16, v17, v18, l13⟩ : Api_Frame) (⟨0, 0, 0, []⟩ : Api_Frame)).bind fun r22 =>
              some r22
            else
              some false
          else
            (names_Members a1 v15).bind fun r24 => match r24 with
            | l26 =>
              (loopM (fun s : Bool × Int => match s with | (v27, v28) => palinglaw27_EnterMember_L1 a2 a3 l13 n14 v16 v17 v18 l26 v27 v28) (false, 0)).bind fun r37 => match r37 with
              | v35 =>
                if (v35) = true then
                  (tag_Is (⟨v16, v17, v18, l13⟩ : Api_Frame)).bind fun r39 =>
                  if (!r39) = true then
                    (mac_Group v17).bind fun r42 =>
                    if (!r42) = true then
                      some (decide ((wr_i64 ((n14 : Int) + 14)) ≤ (a3.length : Int)))
                    else
                      some false
                  else
                    some false
                else
                  some false

end Go.Eng
