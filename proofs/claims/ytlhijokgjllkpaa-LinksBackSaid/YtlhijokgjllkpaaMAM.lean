/- Part of the proof of LinksBack: printed mirrors of the functions, or their contracts. No conditions. -/
import Derived.Test.YtlhijokgjllkpaaEng14
set_option linter.unusedVariables false
set_option maxRecDepth 100000
namespace Go.Eng
open Go
structure Api_Device where
  row : Int
  priority : Int
  name : ByteArray
  mac : Int
  vtep : Int
  deriving DecidableEq, Inhabited

def Api_Device.Ok (x : Api_Device) : Prop := (okI .i64) x.row ∧ (okI .i64) x.priority ∧ okS x.name ∧ (okI .u64) x.mac ∧ (okI .u32) x.vtep ∧ True

structure Api_Port where
  row : Int
  dev : Int
  native : Int
  cost : Int
  link : Int
  name : ByteArray
  tagged : List Int
  deriving DecidableEq, Inhabited

def Api_Port.Ok (x : Api_Port) : Prop := (okI .i64) x.row ∧ (okI .i64) x.dev ∧ (okI .i64) x.native ∧ (okI .i64) x.cost ∧ (okI .i64) x.link ∧ okS x.name ∧ (okL (okI .i64)) x.tagged ∧ True

structure Api_Link where
  row : Int
  a : Int
  b : Int
  deriving DecidableEq, Inhabited

def Api_Link.Ok (x : Api_Link) : Prop := (okI .i64) x.row ∧ (okI .i64) x.a ∧ (okI .i64) x.b ∧ True

structure Api_Domain where
  dev : Int
  vlan : Int
  vni : Int
  irb : Int
  row : Int
  peers : List Int
  deriving DecidableEq, Inhabited

def Api_Domain.Ok (x : Api_Domain) : Prop := (okI .i64) x.dev ∧ (okI .i64) x.vlan ∧ (okI .i64) x.vni ∧ (okI .i64) x.irb ∧ (okI .i64) x.row ∧ (okL (okI .i64)) x.peers ∧ True

structure Api_Static where
  row : Int
  domain : Int
  port : Int
  mac : Int
  deriving DecidableEq, Inhabited

def Api_Static.Ok (x : Api_Static) : Prop := (okI .i64) x.row ∧ (okI .i64) x.domain ∧ (okI .i64) x.port ∧ (okI .u64) x.mac ∧ True

structure Api_Flood where
  row : Int
  dev : Int
  vni : Int
  addrs : List Int
  deriving DecidableEq, Inhabited

def Api_Flood.Ok (x : Api_Flood) : Prop := (okI .i64) x.row ∧ (okI .i64) x.dev ∧ (okI .i64) x.vni ∧ (okL (okI .u32)) x.addrs ∧ True

structure Api_Vrf where
  row : Int
  dev : Int
  name : ByteArray
  imports : List Int
  exports : List Int
  deriving DecidableEq, Inhabited

def Api_Vrf.Ok (x : Api_Vrf) : Prop := (okI .i64) x.row ∧ (okI .i64) x.dev ∧ okS x.name ∧ (okL (okI .i64)) x.imports ∧ (okL (okI .i64)) x.exports ∧ True

structure Api_Prefix where
  addr : Int
  bits : Int
  deriving DecidableEq, Inhabited

def Api_Prefix.Ok (x : Api_Prefix) : Prop := (okI .u32) x.addr ∧ (okI .i64) x.bits ∧ True

structure Api_Irb where
  row : Int
  domain : Int
  vrf : Int
  net : Api_Prefix
  deriving DecidableEq, Inhabited

def Api_Irb.Ok (x : Api_Irb) : Prop := (okI .i64) x.row ∧ (okI .i64) x.domain ∧ (okI .i64) x.vrf ∧ Api_Prefix.Ok x.net ∧ True

structure Api_Net where
  devices : List Api_Device
  ports : List Api_Port
  links : List Api_Link
  domains : List Api_Domain
  statics : List Api_Static
  floods : List Api_Flood
  vrfs : List Api_Vrf
  irbs : List Api_Irb
  deriving DecidableEq, Inhabited

def Api_Net.Ok (x : Api_Net) : Prop := (okL Api_Device.Ok) x.devices ∧ (okL Api_Port.Ok) x.ports ∧ (okL Api_Link.Ok) x.links ∧ (okL Api_Domain.Ok) x.domains ∧ (okL Api_Static.Ok) x.statics ∧ (okL Api_Flood.Ok) x.floods ∧ (okL Api_Vrf.Ok) x.vrfs ∧ (okL Api_Irb.Ok) x.irbs ∧ True

structure Names_judge where
  n : Api_Net
  deriving DecidableEq, Inhabited

def Names_judge.Ok (x : Names_judge) : Prop := Api_Net.Ok x.n ∧ True

def names_judge_few (a1 : Names_judge) : Option (Bool) :=
  if (decide ((a1.n.devices.length : Int) ≤ 8)) = true then
    if (decide ((a1.n.ports.length : Int) ≤ 40)) = true then
      if (decide ((a1.n.links.length : Int) ≤ 20)) = true then
        if (decide ((a1.n.domains.length : Int) ≤ 48)) = true then
          if (decide ((a1.n.statics.length : Int) ≤ 64)) = true then
            if (decide ((a1.n.floods.length : Int) ≤ 48)) = true then
              if (decide ((a1.n.vrfs.length : Int) ≤ 16)) = true then
                some (decide ((a1.n.irbs.length : Int) ≤ 48))
              else
                some false
            else
              some false
          else
            some false
        else
          some false
      else
        some false
    else
      some false
  else
    some false

def names_place_Device (a1 : List Api_Device) (a2 : Int) : Option (Bool) :=
  if (decide (a2 ≥ 0)) = true then
    some (decide (a2 < (a1.length : Int)))
  else
    some false

def names_judge_domain_1 (a1 : Api_Domain) (a2 : Int) (a3 : Int) : Option (Bool) :=
  if (a1.dev == a2) = true then
    some (a1.vlan == a3)
  else
    some false

def slices_IndexFunc_Domain_judge_domain_1_L1 (a1 : List Api_Domain) (a2 : Int) (a3 : Int) (v4 : Int) : Option ((Int) ⊕ (Int ⊕ Unit)) :=
  if (decide (v4 < (a1.length : Int))) = true then
    (nth a1 v4).bind fun x6 =>
    (names_judge_domain_1 x6 a2 a3).bind fun r8 =>
    if (r8) = true then
      some (Sum.inr (Sum.inl v4))
    else
      some (Sum.inl (wr_i64 (v4 + 1)))
  else
    some (Sum.inr (Sum.inr ()))

def slices_IndexFunc_Domain_judge_domain_1 (a1 : List Api_Domain) (a2 : Int) (a3 : Int) : Option (Int) :=
  (loopM (slices_IndexFunc_Domain_judge_domain_1_L1 a1 a2 a3) 0).bind fun r14 => match r14 with
  | Sum.inl v12 =>
    some v12
  | Sum.inr () =>
    some (-1)

def names_judge_domain (a1 : Names_judge) (a2 : Int) (a3 : Int) : Option (Int) :=
  (slices_IndexFunc_Domain_judge_domain_1 a1.n.domains a2 a3).bind fun r4 =>
  some r4

def names_place_Irb (a1 : List Api_Irb) (a2 : Int) : Option (Bool) :=
  if (decide (a2 ≥ 0)) = true then
    some (decide (a2 < (a1.length : Int)))
  else
    some false

def names_judge_bare (a1 : Names_judge) (a2 : Int) (a3 : Api_Domain) : Option (Bool) :=
  (names_place_Device a1.n.devices a3.dev).bind fun r4 =>
  if (r4) = true then
    if (decide (a3.vlan ≥ 1)) = true then
      if (decide (a3.vlan ≤ 4094)) = true then
        if (decide (a3.vni ≥ 0)) = true then
          if (decide (a3.vni ≤ 16777215)) = true then
            if (a3.irb == (-1)) = true then
              (names_judge_domain a1 a3.dev a3.vlan).bind fun r12 =>
              some (r12 == a2)
            else
              (names_place_Irb a1.n.irbs a3.irb).bind fun r14 =>
              if (r14) = true then
                (nth a1.n.irbs a3.irb).bind fun x17 =>
                if (x17.domain == a2) = true then
                  (names_judge_domain a1 a3.dev a3.vlan).bind fun r20 =>
                  some (r20 == a2)
                else
                  some false
              else
                some false
          else
            some false
        else
          some false
      else
        some false
    else
      some false
  else
    some false

def names_all_Domain_judge_bare_L1 (a1 : List Api_Domain) (a2 : Names_judge) (v3 : Int) : Option ((Int) ⊕ (Unit ⊕ Unit)) :=
  if (decide (v3 < (a1.length : Int))) = true then
    (nth a1 v3).bind fun x5 =>
    (names_judge_bare a2 v3 x5).bind fun r7 =>
    if (!r7) = true then
      some (Sum.inr (Sum.inl ()))
    else
      some (Sum.inl (wr_i64 (v3 + 1)))
  else
    some (Sum.inr (Sum.inr ()))

def names_all_Domain_judge_bare (a1 : List Api_Domain) (a2 : Names_judge) : Option (Bool) :=
  (loopM (names_all_Domain_judge_bare_L1 a1 a2) 0).bind fun r11 => match r11 with
  | Sum.inl () =>
    some false
  | Sum.inr () =>
    some true

def names_place_Domain (a1 : List Api_Domain) (a2 : Int) : Option (Bool) :=
  if (decide (a2 ≥ 0)) = true then
    some (decide (a2 < (a1.length : Int)))
  else
    some false

def names_judge_vtep (a1 : Names_judge) (a2 : Api_Domain) : Option (Bool) :=
  (nth a1.n.devices a2.dev).bind fun x3 =>
  some (x3.vtep != 0)

def slices_Index_int_L1 (a1 : List Int) (a2 : Int) (v3 : Int) : Option ((Int) ⊕ (Int ⊕ Unit)) :=
  if (decide (v3 < (a1.length : Int))) = true then
    (nth a1 v3).bind fun x5 =>
    if (a2 == x5) = true then
      some (Sum.inr (Sum.inl v3))
    else
      some (Sum.inl (wr_i64 (v3 + 1)))
  else
    some (Sum.inr (Sum.inr ()))

def slices_Index_int (a1 : List Int) (a2 : Int) : Option (Int) :=
  (loopM (slices_Index_int_L1 a1 a2) 0).bind fun r11 => match r11 with
  | Sum.inl v9 =>
    some v9
  | Sum.inr () =>
    some (-1)

def slices_Contains_int (a1 : List Int) (a2 : Int) : Option (Bool) :=
  (slices_Index_int a1 a2).bind fun r3 =>
  some (decide (r3 ≥ 0))

def names_judge_peer (a1 : Names_judge) (a2 : Int) (a3 : Api_Domain) (a4 : Int) : Option (Bool) :=
  (names_place_Domain a1.n.domains a4).bind fun r5 =>
  if (!r5) = true then
    some false
  else
    if (a4 == a2) = true then
      some false
    else
      (nth a1.n.domains a4).bind fun x9 =>
      (names_place_Device a1.n.devices x9.dev).bind fun r11 =>
      if (r11) = true then
        if (x9.dev != a3.dev) = true then
          if (x9.vni == a3.vni) = true then
            if (a3.vni != 0) = true then
              (names_judge_vtep a1 x9).bind fun r17 =>
              if (r17) = true then
                (names_judge_vtep a1 a3).bind fun r20 =>
                if (r20) = true then
                  (slices_Contains_int x9.peers a2).bind fun r23 =>
                  some r23
                else
                  some false
              else
                some false
            else
              some false
          else
            some false
        else
          some false
      else
        some false

def names_judge_peers_1 (a1 : Int) (a2 : Int) (a3 : Names_judge) (a4 : Int) (a5 : Api_Domain) : Option (Bool) :=
  (names_judge_peer a3 a4 a5 a2).bind fun r6 =>
  if (r6) = true then
    (slices_Index_int a5.peers a2).bind fun r9 =>
    some (r9 == a1)
  else
    some false

def names_all_int_judge_peers_1_L1 (a1 : List Int) (a2 : Names_judge) (a3 : Int) (a4 : Api_Domain) (v5 : Int) : Option ((Int) ⊕ (Unit ⊕ Unit)) :=
  if (decide (v5 < (a1.length : Int))) = true then
    (nth a1 v5).bind fun x7 =>
    (names_judge_peers_1 v5 x7 a2 a3 a4).bind fun r9 =>
    if (!r9) = true then
      some (Sum.inr (Sum.inl ()))
    else
      some (Sum.inl (wr_i64 (v5 + 1)))
  else
    some (Sum.inr (Sum.inr ()))

def names_all_int_judge_peers_1 (a1 : List Int) (a2 : Names_judge) (a3 : Int) (a4 : Api_Domain) : Option (Bool) :=
  (loopM (names_all_int_judge_peers_1_L1 a1 a2 a3 a4) 0).bind fun r13 => match r13 with
  | Sum.inl () =>
    some false
  | Sum.inr () =>
    some true

def names_judge_peers (a1 : Names_judge) (a2 : Int) (a3 : Api_Domain) : Option (Bool) :=
  (names_all_int_judge_peers_1 a3.peers a1 a2 a3).bind fun r4 =>
  some r4

def names_all_Domain_judge_peers_L1 (a1 : List Api_Domain) (a2 : Names_judge) (v3 : Int) : Option ((Int) ⊕ (Unit ⊕ Unit)) :=
  if (decide (v3 < (a1.length : Int))) = true then
    (nth a1 v3).bind fun x5 =>
    (names_judge_peers a2 v3 x5).bind fun r7 =>
    if (!r7) = true then
      some (Sum.inr (Sum.inl ()))
    else
      some (Sum.inl (wr_i64 (v3 + 1)))
  else
    some (Sum.inr (Sum.inr ()))

def names_all_Domain_judge_peers (a1 : List Api_Domain) (a2 : Names_judge) : Option (Bool) :=
  (loopM (names_all_Domain_judge_peers_L1 a1 a2) 0).bind fun r11 => match r11 with
  | Sum.inl () =>
    some false
  | Sum.inr () =>
    some true

def num_Rising_L1 (a1 : List Int) (a2 : Int) (a3 : Int) (v4 : Int) : Option ((Int) ⊕ (Unit ⊕ Unit)) :=
  if (decide (v4 < (a1.length : Int))) = true then
    (nth a1 v4).bind fun x6 =>
    if (decide (x6 < a2)) = true then
      some (Sum.inr (Sum.inl ()))
    else
      if (decide (x6 > a3)) = true then
        some (Sum.inr (Sum.inl ()))
      else
        if (decide (v4 > 0)) = true then
          (nth a1 (wr_i64 (v4 - 1))).bind fun x11 =>
          if (decide (x11 ≥ x6)) = true then
            some (Sum.inr (Sum.inl ()))
          else
            some (Sum.inl (wr_i64 (v4 + 1)))
        else
          some (Sum.inl (wr_i64 (v4 + 1)))
  else
    some (Sum.inr (Sum.inr ()))

def num_Rising (a1 : List Int) (a2 : Int) (a3 : Int) : Option (Bool) :=
  (loopM (num_Rising_L1 a1 a2 a3) 0).bind fun r15 => match r15 with
  | Sum.inl () =>
    some false
  | Sum.inr () =>
    if (decide ((a1.length : Int) > 0)) = true then
      some (decide ((a1.length : Int) ≤ 16))
    else
      some false

def names_rising (a1 : List Int) (a2 : Int) : Option (Bool) :=
  if ((a1.length : Int) == 0) = true then
    some true
  else
    (num_Rising a1 1 a2).bind fun r4 =>
    some r4

def names_place_Link (a1 : List Api_Link) (a2 : Int) : Option (Bool) :=
  if (decide (a2 ≥ 0)) = true then
    some (decide (a2 < (a1.length : Int)))
  else
    some false

def names_judge_port_L1 (a1 : Names_judge) (a2 : Int) (a3 : Api_Port) (v17 : Int) : Option ((Int) ⊕ (Unit ⊕ Unit)) :=
  if (decide (v17 < (a3.tagged.length : Int))) = true then
    (nth a3.tagged v17).bind fun x19 =>
    (names_judge_domain a1 a3.dev x19).bind fun r21 =>
    if (decide (r21 < 0)) = true then
      some (Sum.inr (Sum.inl ()))
    else
      some (Sum.inl (wr_i64 (v17 + 1)))
  else
    some (Sum.inr (Sum.inr ()))

def names_judge_port_L2 (a1 : Names_judge) (a2 : Int) (a3 : Api_Port) (v48 : Int) : Option ((Int) ⊕ (Unit ⊕ Unit)) :=
  if (decide (v48 < (a3.tagged.length : Int))) = true then
    (nth a3.tagged v48).bind fun x50 =>
    (names_judge_domain a1 a3.dev x50).bind fun r52 =>
    if (decide (r52 < 0)) = true then
      some (Sum.inr (Sum.inl ()))
    else
      some (Sum.inl (wr_i64 (v48 + 1)))
  else
    some (Sum.inr (Sum.inr ()))

def names_judge_port (a1 : Names_judge) (a2 : Int) (a3 : Api_Port) : Option (Bool) :=
  (names_place_Device a1.n.devices a3.dev).bind fun r4 =>
  if (!r4) = true then
    some false
  else
    if (decide (a3.native < 0)) = true then
      some false
    else
      if (decide (a3.native > 4094)) = true then
        some false
      else
        (names_rising a3.tagged 4094).bind fun r9 =>
        if (!r9) = true then
          some false
        else
          (slices_Contains_int a3.tagged a3.native).bind fun r12 =>
          if (r12) = true then
            some false
          else
            if (a3.native == 0) = true then
              if ((a3.tagged.length : Int) == 0) = true then
                some false
              else
                (loopM (names_judge_port_L1 a1 a2 a3) 0).bind fun r25 => match r25 with
                | Sum.inl () =>
                  some false
                | Sum.inr () =>
                  if (decide (a3.native > 0)) = true then
                    (names_judge_domain a1 a3.dev a3.native).bind fun r27 =>
                    if (decide (r27 < 0)) = true then
                      some false
                    else
                      if (a3.link == (-1)) = true then
                        some true
                      else
                        (names_place_Link a1.n.links a3.link).bind fun r31 =>
                        if (r31) = true then
                          (nth a1.n.links a3.link).bind fun x34 =>
                          if (x34.a == a2) = true then
                            some true
                          else
                            (nth a1.n.links a3.link).bind fun x37 =>
                            some (x37.b == a2)
                        else
                          some false
                  else
                    if (a3.link == (-1)) = true then
                      some true
                    else
                      (names_place_Link a1.n.links a3.link).bind fun r40 =>
                      if (r40) = true then
                        (nth a1.n.links a3.link).bind fun x43 =>
                        if (x43.a == a2) = true then
                          some true
                        else
                          (nth a1.n.links a3.link).bind fun x46 =>
                          some (x46.b == a2)
                      else
                        some false
            else
              (loopM (names_judge_port_L2 a1 a2 a3) 0).bind fun r56 => match r56 with
              | Sum.inl () =>
                some false
              | Sum.inr () =>
                if (decide (a3.native > 0)) = true then
                  (names_judge_domain a1 a3.dev a3.native).bind fun r58 =>
                  if (decide (r58 < 0)) = true then
                    some false
                  else
                    if (a3.link == (-1)) = true then
                      some true
                    else
                      (names_place_Link a1.n.links a3.link).bind fun r62 =>
                      if (r62) = true then
                        (nth a1.n.links a3.link).bind fun x65 =>
                        if (x65.a == a2) = true then
                          some true
                        else
                          (nth a1.n.links a3.link).bind fun x68 =>
                          some (x68.b == a2)
                      else
                        some false
                else
                  if (a3.link == (-1)) = true then
                    some true
                  else
                    (names_place_Link a1.n.links a3.link).bind fun r71 =>
                    if (r71) = true then
                      (nth a1.n.links a3.link).bind fun x74 =>
                      if (x74.a == a2) = true then
                        some true
                      else
                        (nth a1.n.links a3.link).bind fun x77 =>
                        some (x77.b == a2)
                    else
                      some false

def names_all_Port_judge_port_L1 (a1 : List Api_Port) (a2 : Names_judge) (v3 : Int) : Option ((Int) ⊕ (Unit ⊕ Unit)) :=
  if (decide (v3 < (a1.length : Int))) = true then
    (nth a1 v3).bind fun x5 =>
    (names_judge_port a2 v3 x5).bind fun r7 =>
    if (!r7) = true then
      some (Sum.inr (Sum.inl ()))
    else
      some (Sum.inl (wr_i64 (v3 + 1)))
  else
    some (Sum.inr (Sum.inr ()))

def names_all_Port_judge_port (a1 : List Api_Port) (a2 : Names_judge) : Option (Bool) :=
  (loopM (names_all_Port_judge_port_L1 a1 a2) 0).bind fun r11 => match r11 with
  | Sum.inl () =>
    some false
  | Sum.inr () =>
    some true

def names_place_Port (a1 : List Api_Port) (a2 : Int) : Option (Bool) :=
  if (decide (a2 ≥ 0)) = true then
    some (decide (a2 < (a1.length : Int)))
  else
    some false

def names_judge_link (a1 : Names_judge) (a2 : Int) (a3 : Api_Link) : Option (Bool) :=
  (names_place_Port a1.n.ports a3.a).bind fun r4 =>
  if (!r4) = true then
    some false
  else
    (names_place_Port a1.n.ports a3.b).bind fun r7 =>
    if (!r7) = true then
      some false
    else
      (nth a1.n.ports a3.a).bind fun x10 =>
      (nth a1.n.ports a3.b).bind fun x12 =>
      if (x10.dev != x12.dev) = true then
        if (x10.link == a2) = true then
          some (x12.link == a2)
        else
          some false
      else
        some false

def names_all_Link_judge_link_L1 (a1 : List Api_Link) (a2 : Names_judge) (v3 : Int) : Option ((Int) ⊕ (Unit ⊕ Unit)) :=
  if (decide (v3 < (a1.length : Int))) = true then
    (nth a1 v3).bind fun x5 =>
    (names_judge_link a2 v3 x5).bind fun r7 =>
    if (!r7) = true then
      some (Sum.inr (Sum.inl ()))
    else
      some (Sum.inl (wr_i64 (v3 + 1)))
  else
    some (Sum.inr (Sum.inr ()))

def names_all_Link_judge_link (a1 : List Api_Link) (a2 : Names_judge) : Option (Bool) :=
  (loopM (names_all_Link_judge_link_L1 a1 a2) 0).bind fun r11 => match r11 with
  | Sum.inl () =>
    some false
  | Sum.inr () =>
    some true

def names_Member (a1 : Api_Port) (a2 : Int) : Option (Bool) :=
  if (a2 != 0) = true then
    if (a2 == a1.native) = true then
      some true
    else
      (slices_Contains_int a1.tagged a2).bind fun r5 =>
      some r5
  else
    some false

def names_judge_static (a1 : Names_judge) (a2 : Int) (a3 : Api_Static) : Option (Bool) :=
  (names_place_Domain a1.n.domains a3.domain).bind fun r4 =>
  if (!r4) = true then
    some false
  else
    (names_place_Port a1.n.ports a3.port).bind fun r7 =>
    if (!r7) = true then
      some false
    else
      (nth a1.n.ports a3.port).bind fun x10 =>
      (nth a1.n.domains a3.domain).bind fun x12 =>
      if (x10.dev == x12.dev) = true then
        (names_Member x10 x12.vlan).bind fun r15 =>
        some r15
      else
        some false

def names_all_Static_judge_static_L1 (a1 : List Api_Static) (a2 : Names_judge) (v3 : Int) : Option ((Int) ⊕ (Unit ⊕ Unit)) :=
  if (decide (v3 < (a1.length : Int))) = true then
    (nth a1 v3).bind fun x5 =>
    (names_judge_static a2 v3 x5).bind fun r7 =>
    if (!r7) = true then
      some (Sum.inr (Sum.inl ()))
    else
      some (Sum.inl (wr_i64 (v3 + 1)))
  else
    some (Sum.inr (Sum.inr ()))

def names_all_Static_judge_static (a1 : List Api_Static) (a2 : Names_judge) : Option (Bool) :=
  (loopM (names_all_Static_judge_static_L1 a1 a2) 0).bind fun r11 => match r11 with
  | Sum.inl () =>
    some false
  | Sum.inr () =>
    some true

def names_Right_1 (a1 : Int) (a2 : Api_Flood) (a3 : Api_Net) : Option (Bool) :=
  (names_place_Device a3.devices a2.dev).bind fun r4 =>
  if (r4) = true then
    some (decide ((a2.addrs.length : Int) ≤ 16))
  else
    some false

def names_all_Flood_Right_1_L1 (a1 : List Api_Flood) (a2 : Api_Net) (v3 : Int) : Option ((Int) ⊕ (Unit ⊕ Unit)) :=
  if (decide (v3 < (a1.length : Int))) = true then
    (nth a1 v3).bind fun x5 =>
    (names_Right_1 v3 x5 a2).bind fun r7 =>
    if (!r7) = true then
      some (Sum.inr (Sum.inl ()))
    else
      some (Sum.inl (wr_i64 (v3 + 1)))
  else
    some (Sum.inr (Sum.inr ()))

def names_all_Flood_Right_1 (a1 : List Api_Flood) (a2 : Api_Net) : Option (Bool) :=
  (loopM (names_all_Flood_Right_1_L1 a1 a2) 0).bind fun r11 => match r11 with
  | Sum.inl () =>
    some false
  | Sum.inr () =>
    some true

def names_Right_2 (a1 : Int) (a2 : Api_Vrf) (a3 : Api_Net) : Option (Bool) :=
  (names_place_Device a3.devices a2.dev).bind fun r4 =>
  if (r4) = true then
    (names_rising a2.imports 65535).bind fun r7 =>
    if (r7) = true then
      (names_rising a2.exports 65535).bind fun r10 =>
      some r10
    else
      some false
  else
    some false

def names_all_Vrf_Right_2_L1 (a1 : List Api_Vrf) (a2 : Api_Net) (v3 : Int) : Option ((Int) ⊕ (Unit ⊕ Unit)) :=
  if (decide (v3 < (a1.length : Int))) = true then
    (nth a1 v3).bind fun x5 =>
    (names_Right_2 v3 x5 a2).bind fun r7 =>
    if (!r7) = true then
      some (Sum.inr (Sum.inl ()))
    else
      some (Sum.inl (wr_i64 (v3 + 1)))
  else
    some (Sum.inr (Sum.inr ()))

def names_all_Vrf_Right_2 (a1 : List Api_Vrf) (a2 : Api_Net) : Option (Bool) :=
  (loopM (names_all_Vrf_Right_2_L1 a1 a2) 0).bind fun r11 => match r11 with
  | Sum.inl () =>
    some false
  | Sum.inr () =>
    some true

def names_place_Vrf (a1 : List Api_Vrf) (a2 : Int) : Option (Bool) :=
  if (decide (a2 ≥ 0)) = true then
    some (decide (a2 < (a1.length : Int)))
  else
    some false

def names_judge_irb (a1 : Names_judge) (a2 : Int) (a3 : Api_Irb) : Option (Bool) :=
  (names_place_Domain a1.n.domains a3.domain).bind fun r4 =>
  if (r4) = true then
    (names_place_Vrf a1.n.vrfs a3.vrf).bind fun r7 =>
    if (r7) = true then
      (nth a1.n.domains a3.domain).bind fun x10 =>
      (nth a1.n.vrfs a3.vrf).bind fun x12 =>
      if (x10.dev == x12.dev) = true then
        (nth a1.n.domains a3.domain).bind fun x15 =>
        if (x15.irb == a2) = true then
          if (decide (a3.net.bits ≥ 1)) = true then
            some (decide (a3.net.bits ≤ 30))
          else
            some false
        else
          some false
      else
        some false
    else
      some false
  else
    some false

def names_all_Irb_judge_irb_L1 (a1 : List Api_Irb) (a2 : Names_judge) (v3 : Int) : Option ((Int) ⊕ (Unit ⊕ Unit)) :=
  if (decide (v3 < (a1.length : Int))) = true then
    (nth a1 v3).bind fun x5 =>
    (names_judge_irb a2 v3 x5).bind fun r7 =>
    if (!r7) = true then
      some (Sum.inr (Sum.inl ()))
    else
      some (Sum.inl (wr_i64 (v3 + 1)))
  else
    some (Sum.inr (Sum.inr ()))

def names_all_Irb_judge_irb (a1 : List Api_Irb) (a2 : Names_judge) : Option (Bool) :=
  (loopM (names_all_Irb_judge_irb_L1 a1 a2) 0).bind fun r11 => match r11 with
  | Sum.inl () =>
    some false
  | Sum.inr () =>
    some true

def names_Right (a1 : Api_Net) : Option (Bool) :=
  (names_judge_few (⟨a1⟩ : Names_judge)).bind fun r2 =>
  if (r2) = true then
    (names_all_Domain_judge_bare a1.domains (⟨a1⟩ : Names_judge)).bind fun r5 =>
    if (r5) = true then
      (names_all_Domain_judge_peers a1.domains (⟨a1⟩ : Names_judge)).bind fun r8 =>
      if (r8) = true then
        (names_all_Port_judge_port a1.ports (⟨a1⟩ : Names_judge)).bind fun r11 =>
        if (r11) = true then
          (names_all_Link_judge_link a1.links (⟨a1⟩ : Names_judge)).bind fun r14 =>
          if (r14) = true then
            (names_all_Static_judge_static a1.statics (⟨a1⟩ : Names_judge)).bind fun r17 =>
            if (r17) = true then
              (names_all_Flood_Right_1 a1.floods a1).bind fun r20 =>
              if (r20) = true then
                (names_all_Vrf_Right_2 a1.vrfs a1).bind fun r23 =>
                if (r23) = true then
                  (names_all_Irb_judge_irb a1.irbs (⟨a1⟩ : Names_judge)).bind fun r26 =>
                  some r26
                else
                  some false
              else
                some false
            else
              some false
          else
            some false
        else
          some false
      else
        some false
    else
      some false
  else
    some false

def names_Members_L1 (a1 : Api_Net) (a2 : Int) (l9 : List Int) (v10 : Int) : Option (((List Int) × Int) ⊕ ((List Int))) :=
  if (decide (v10 < (a1.ports.length : Int))) = true then
    (nth a1.ports v10).bind fun x12 =>
    (nth a1.domains a2).bind fun x14 =>
    if (x12.dev == x14.dev) = true then
      (nth a1.domains a2).bind fun x17 =>
      (names_Member x12 x17.vlan).bind fun r19 =>
      if (r19) = true then
        if (roomy 8 (l9 ++ [v10])) = true then
          some (Sum.inl (l9 ++ [v10], wr_i64 (v10 + 1)))
        else
          none
      else
        some (Sum.inl (l9, wr_i64 (v10 + 1)))
    else
      some (Sum.inl (l9, wr_i64 (v10 + 1)))
  else
    some (Sum.inr l9)

def names_Members (a1 : Api_Net) (a2 : Int) : Option ((List Int)) :=
  (names_Right a1).bind fun r3 =>
  if (!r3) = true then
    some []
  else
    (names_place_Domain a1.domains a2).bind fun r6 =>
    if (!r6) = true then
      some []
    else
      (loopM (fun s : (List Int) × Int => match s with | (l9, v10) => names_Members_L1 a1 a2 l9 v10) ([], 0)).bind fun r27 => match r27 with
      | l25 =>
        some l25

def names_Device_1 (a1 : Api_Device) (a2 : ByteArray) : Option (Bool) :=
  some (seqB a1.name a2)

def slices_IndexFunc_Device_Device_1_L1 (a1 : List Api_Device) (a2 : ByteArray) (v3 : Int) : Option ((Int) ⊕ (Int ⊕ Unit)) :=
  if (decide (v3 < (a1.length : Int))) = true then
    (nth a1 v3).bind fun x5 =>
    (names_Device_1 x5 a2).bind fun r7 =>
    if (r7) = true then
      some (Sum.inr (Sum.inl v3))
    else
      some (Sum.inl (wr_i64 (v3 + 1)))
  else
    some (Sum.inr (Sum.inr ()))

def slices_IndexFunc_Device_Device_1 (a1 : List Api_Device) (a2 : ByteArray) : Option (Int) :=
  (loopM (slices_IndexFunc_Device_Device_1_L1 a1 a2) 0).bind fun r13 => match r13 with
  | Sum.inl v11 =>
    some v11
  | Sum.inr () =>
    some (-1)

def names_find_Device_Device_1 (a1 : Api_Net) (a2 : List Api_Device) (a3 : ByteArray) : Option (Int) :=
  (names_Right a1).bind fun r4 =>
  if (!r4) = true then
    some (-1)
  else
    (slices_IndexFunc_Device_Device_1 a2 a3).bind fun r7 =>
    some r7

def names_Device (a1 : Api_Net) (a2 : ByteArray) : Option (Int) :=
  (names_find_Device_Device_1 a1 a1.devices a2).bind fun r3 =>
  some r3

def names_Port_1 (a1 : Api_Port) (a2 : Int) (a3 : ByteArray) : Option (Bool) :=
  if (a1.dev == a2) = true then
    some (seqB a1.name a3)
  else
    some false

def slices_IndexFunc_Port_Port_1_L1 (a1 : List Api_Port) (a2 : Int) (a3 : ByteArray) (v4 : Int) : Option ((Int) ⊕ (Int ⊕ Unit)) :=
  if (decide (v4 < (a1.length : Int))) = true then
    (nth a1 v4).bind fun x6 =>
    (names_Port_1 x6 a2 a3).bind fun r8 =>
    if (r8) = true then
      some (Sum.inr (Sum.inl v4))
    else
      some (Sum.inl (wr_i64 (v4 + 1)))
  else
    some (Sum.inr (Sum.inr ()))

def slices_IndexFunc_Port_Port_1 (a1 : List Api_Port) (a2 : Int) (a3 : ByteArray) : Option (Int) :=
  (loopM (slices_IndexFunc_Port_Port_1_L1 a1 a2 a3) 0).bind fun r14 => match r14 with
  | Sum.inl v12 =>
    some v12
  | Sum.inr () =>
    some (-1)

def names_find_Port_Port_1 (a1 : Api_Net) (a2 : List Api_Port) (a3 : Int) (a4 : ByteArray) : Option (Int) :=
  (names_Right a1).bind fun r5 =>
  if (!r5) = true then
    some (-1)
  else
    (slices_IndexFunc_Port_Port_1 a2 a3 a4).bind fun r8 =>
    some r8

def names_Port (a1 : Api_Net) (a2 : Int) (a3 : ByteArray) : Option (Int) :=
  (names_find_Port_Port_1 a1 a1.ports a2 a3).bind fun r4 =>
  some r4

def names_Domain_1 (a1 : Api_Domain) (a2 : Int) (a3 : Int) : Option (Bool) :=
  if (a1.dev == a2) = true then
    some (a1.vlan == a3)
  else
    some false

def slices_IndexFunc_Domain_Domain_1_L1 (a1 : List Api_Domain) (a2 : Int) (a3 : Int) (v4 : Int) : Option ((Int) ⊕ (Int ⊕ Unit)) :=
  if (decide (v4 < (a1.length : Int))) = true then
    (nth a1 v4).bind fun x6 =>
    (names_Domain_1 x6 a2 a3).bind fun r8 =>
    if (r8) = true then
      some (Sum.inr (Sum.inl v4))
    else
      some (Sum.inl (wr_i64 (v4 + 1)))
  else
    some (Sum.inr (Sum.inr ()))

def slices_IndexFunc_Domain_Domain_1 (a1 : List Api_Domain) (a2 : Int) (a3 : Int) : Option (Int) :=
  (loopM (slices_IndexFunc_Domain_Domain_1_L1 a1 a2 a3) 0).bind fun r14 => match r14 with
  | Sum.inl v12 =>
    some v12
  | Sum.inr () =>
    some (-1)

def names_find_Domain_Domain_1 (a1 : Api_Net) (a2 : List Api_Domain) (a3 : Int) (a4 : Int) : Option (Int) :=
  (names_Right a1).bind fun r5 =>
  if (!r5) = true then
    some (-1)
  else
    (slices_IndexFunc_Domain_Domain_1 a2 a3 a4).bind fun r8 =>
    some r8

def names_Domain (a1 : Api_Net) (a2 : Int) (a3 : Int) : Option (Int) :=
  (names_find_Domain_Domain_1 a1 a1.domains a2 a3).bind fun r4 =>
  some r4

def palinglaw15_works : Option (Bool) :=
  (names_Members (⟨[(⟨0, 0, (⟨#[97]⟩ : ByteArray), 0, 0⟩ : Api_Device)], [(⟨0, 0, 10, 0, (-1), (⟨#[112]⟩ : ByteArray), []⟩ : Api_Port)], [], [(⟨0, 10, 0, (-1), 0, []⟩ : Api_Domain)], [], [], [], []⟩ : Api_Net) 0).bind fun r1 =>
  (names_Right (⟨[(⟨0, 0, (⟨#[97]⟩ : ByteArray), 0, 0⟩ : Api_Device)], [(⟨0, 0, 10, 0, (-1), (⟨#[112]⟩ : ByteArray), []⟩ : Api_Port)], [], [(⟨0, 10, 0, (-1), 0, []⟩ : Api_Domain)], [], [], [], []⟩ : Api_Net)).bind fun r3 =>
  if (r3) = true then
    (names_Right (⟨[], [], [], [], [], [], [], []⟩ : Api_Net)).bind fun r6 =>
    if (r6) = true then
      (names_Device (⟨[(⟨0, 0, (⟨#[97]⟩ : ByteArray), 0, 0⟩ : Api_Device)], [(⟨0, 0, 10, 0, (-1), (⟨#[112]⟩ : ByteArray), []⟩ : Api_Port)], [], [(⟨0, 10, 0, (-1), 0, []⟩ : Api_Domain)], [], [], [], []⟩ : Api_Net) (⟨#[97]⟩ : ByteArray)).bind fun r9 =>
      if (r9 == 0) = true then
        (names_Port (⟨[(⟨0, 0, (⟨#[97]⟩ : ByteArray), 0, 0⟩ : Api_Device)], [(⟨0, 0, 10, 0, (-1), (⟨#[112]⟩ : ByteArray), []⟩ : Api_Port)], [], [(⟨0, 10, 0, (-1), 0, []⟩ : Api_Domain)], [], [], [], []⟩ : Api_Net) 0 (⟨#[112]⟩ : ByteArray)).bind fun r12 =>
        if (r12 == 0) = true then
          (names_Domain (⟨[(⟨0, 0, (⟨#[97]⟩ : ByteArray), 0, 0⟩ : Api_Device)], [(⟨0, 0, 10, 0, (-1), (⟨#[112]⟩ : ByteArray), []⟩ : Api_Port)], [], [(⟨0, 10, 0, (-1), 0, []⟩ : Api_Domain)], [], [], [], []⟩ : Api_Net) 0 10).bind fun r15 =>
          if (r15 == 0) = true then
            (names_Domain (⟨[(⟨0, 0, (⟨#[97]⟩ : ByteArray), 0, 0⟩ : Api_Device)], [(⟨0, 0, 10, 0, (-1), (⟨#[112]⟩ : ByteArray), []⟩ : Api_Port)], [], [(⟨0, 10, 0, (-1), 0, []⟩ : Api_Domain)], [], [], [], []⟩ : Api_Net) 0 11).bind fun r18 =>
            if (r18 == (-1)) = true then
              if ((r1.length : Int) == 1) = true then
                (nth r1 0).bind fun x22 =>
                some (x22 == 0)
              else
                some false
            else
              some false
          else
            some false
        else
          some false
      else
        some false
    else
      some false
  else
    some false

def palinglaw15_Great_L1 (a1 : Api_Net) (v10 : Int) : Option ((Int) ⊕ (Unit ⊕ Unit)) :=
  if (decide (v10 < (a1.ports.length : Int))) = true then
    (nth a1.ports v10).bind fun x12 =>
    if (decide ((x12.tagged.length : Int) > 100)) = true then
      some (Sum.inr (Sum.inl ()))
    else
      some (Sum.inl (wr_i64 (v10 + 1)))
  else
    some (Sum.inr (Sum.inr ()))

def palinglaw15_Great_L2 (a1 : Api_Net) (v17 : Int) : Option ((Int) ⊕ (Unit ⊕ Unit)) :=
  if (decide (v17 < (a1.domains.length : Int))) = true then
    (nth a1.domains v17).bind fun x19 =>
    if (decide ((x19.peers.length : Int) > 100)) = true then
      some (Sum.inr (Sum.inl ()))
    else
      some (Sum.inl (wr_i64 (v17 + 1)))
  else
    some (Sum.inr (Sum.inr ()))

def palinglaw15_Great_L3 (a1 : Api_Net) (v24 : Int) : Option ((Int) ⊕ (Unit ⊕ Unit)) :=
  if (decide (v24 < (a1.floods.length : Int))) = true then
    (nth a1.floods v24).bind fun x26 =>
    if (decide ((x26.addrs.length : Int) > 100)) = true then
      some (Sum.inr (Sum.inl ()))
    else
      some (Sum.inl (wr_i64 (v24 + 1)))
  else
    some (Sum.inr (Sum.inr ()))

def palinglaw15_Great_L4 (a1 : Api_Net) (v31 : Int) : Option ((Int) ⊕ (Unit ⊕ Unit)) :=
  if (decide (v31 < (a1.vrfs.length : Int))) = true then
    (nth a1.vrfs v31).bind fun x33 =>
    if (decide ((x33.imports.length : Int) > 100)) = true then
      some (Sum.inr (Sum.inl ()))
    else
      (nth a1.vrfs v31).bind fun x36 =>
      if (decide ((x36.exports.length : Int) > 100)) = true then
        some (Sum.inr (Sum.inl ()))
      else
        some (Sum.inl (wr_i64 (v31 + 1)))
  else
    some (Sum.inr (Sum.inr ()))

def palinglaw15_Great (a1 : Api_Net) : Option (Bool) :=
  if (decide ((a1.devices.length : Int) > 200)) = true then
    some true
  else
    if (decide ((a1.ports.length : Int) > 200)) = true then
      some true
    else
      if (decide ((a1.links.length : Int) > 200)) = true then
        some true
      else
        if (decide ((a1.domains.length : Int) > 200)) = true then
          some true
        else
          if (decide ((a1.statics.length : Int) > 200)) = true then
            some true
          else
            if (decide ((a1.floods.length : Int) > 200)) = true then
              some true
            else
              if (decide ((a1.vrfs.length : Int) > 200)) = true then
                some true
              else
                if (decide ((a1.irbs.length : Int) > 200)) = true then
                  some true
                else
                  (loopM (palinglaw15_Great_L1 a1) 0).bind fun r16 => match r16 with
                  | Sum.inl () =>
                    some true
                  | Sum.inr () =>
                    (loopM (palinglaw15_Great_L2 a1) 0).bind fun r23 => match r23 with
                    | Sum.inl () =>
                      some true
                    | Sum.inr () =>
                      (loopM (palinglaw15_Great_L3 a1) 0).bind fun r30 => match r30 with
                      | Sum.inl () =>
                        some true
                      | Sum.inr () =>
                        (loopM (palinglaw15_Great_L4 a1) 0).bind fun r40 => match r40 with
                        | Sum.inl () =>
                          some true
                        | Sum.inr () =>
                          some false

def palinglaw15_NamesPorts_L3 (a1 : Api_Net) (v11 : Int) (x13 : Api_Port) (v18 : Int) (x21 : Int) (r25 : (List Int)) (v27 : Bool) (v28 : Int) : Option ((Bool × Int) ⊕ (Bool)) :=
  if (decide (v28 < (r25.length : Int))) = true then
    (nth r25 v28).bind fun x30 =>
    if (v27) = true then
      some (Sum.inl (true, wr_i64 (v28 + 1)))
    else
      some (Sum.inl (x30 == v11, wr_i64 (v28 + 1)))
  else
    some (Sum.inr v27)

def palinglaw15_NamesPorts_L2 (a1 : Api_Net) (v11 : Int) (x13 : Api_Port) (v18 : Int) : Option ((Int) ⊕ (Unit ⊕ Unit)) :=
  if (decide (v18 < ((List.length (([] ++ x13.tagged) ++ [x13.native])) : Int))) = true then
    if (lin (([] ++ x13.tagged) ++ [x13.native]) v18) = true then
      ((([] ++ x13.tagged) ++ [x13.native])[(Int.toNat v18)]?).bind fun x21 =>
      (names_Domain a1 x13.dev x21).bind fun r23 =>
      (names_Members a1 r23).bind fun r25 =>
      (loopM (fun s : Bool × Int => match s with | (v27, v28) => palinglaw15_NamesPorts_L3 a1 v11 x13 v18 x21 r25 v27 v28) (false, 0)).bind fun r36 => match r36 with
      | v34 =>
        if (!v34) = true then
          some (Sum.inr (Sum.inl ()))
        else
          (names_Member x13 x21).bind fun r38 =>
          if (!r38) = true then
            some (Sum.inr (Sum.inl ()))
          else
            some (Sum.inl (wr_i64 (v18 + 1)))
    else
      none
  else
    some (Sum.inr (Sum.inr ()))

def palinglaw15_NamesPorts_L5 (a1 : Api_Net) (v11 : Int) (x13 : Api_Port) (v43 : Int) (x46 : Int) (r50 : (List Int)) (v52 : Bool) (v53 : Int) : Option ((Bool × Int) ⊕ (Bool)) :=
  if (decide (v53 < (r50.length : Int))) = true then
    (nth r50 v53).bind fun x55 =>
    if (v52) = true then
      some (Sum.inl (true, wr_i64 (v53 + 1)))
    else
      some (Sum.inl (x55 == v11, wr_i64 (v53 + 1)))
  else
    some (Sum.inr v52)

def palinglaw15_NamesPorts_L4 (a1 : Api_Net) (v11 : Int) (x13 : Api_Port) (v43 : Int) : Option ((Int) ⊕ (Unit ⊕ Unit)) :=
  if (decide (v43 < ((List.length ([] ++ x13.tagged)) : Int))) = true then
    if (lin ([] ++ x13.tagged) v43) = true then
      (([] ++ x13.tagged)[(Int.toNat v43)]?).bind fun x46 =>
      (names_Domain a1 x13.dev x46).bind fun r48 =>
      (names_Members a1 r48).bind fun r50 =>
      (loopM (fun s : Bool × Int => match s with | (v52, v53) => palinglaw15_NamesPorts_L5 a1 v11 x13 v43 x46 r50 v52 v53) (false, 0)).bind fun r61 => match r61 with
      | v59 =>
        if (!v59) = true then
          some (Sum.inr (Sum.inl ()))
        else
          (names_Member x13 x46).bind fun r63 =>
          if (!r63) = true then
            some (Sum.inr (Sum.inl ()))
          else
            some (Sum.inl (wr_i64 (v43 + 1)))
    else
      none
  else
    some (Sum.inr (Sum.inr ()))

def palinglaw15_NamesPorts_L1 (a1 : Api_Net) (v11 : Int) : Option ((Int) ⊕ (Unit ⊕ Unit)) :=
  if (decide (v11 < (a1.ports.length : Int))) = true then
    (nth a1.ports v11).bind fun x13 =>
    if (roomy 8 ([] ++ x13.tagged)) = true then
      if (x13.native != 0) = true then
        if (roomy 8 (([] ++ x13.tagged) ++ [x13.native])) = true then
          (loopM (palinglaw15_NamesPorts_L2 a1 v11 x13) 0).bind fun r42 => match r42 with
          | Sum.inl () =>
            some (Sum.inr (Sum.inl ()))
          | Sum.inr () =>
            some (Sum.inl (wr_i64 (v11 + 1)))
        else
          none
      else
        (loopM (palinglaw15_NamesPorts_L4 a1 v11 x13) 0).bind fun r67 => match r67 with
        | Sum.inl () =>
          some (Sum.inr (Sum.inl ()))
        | Sum.inr () =>
          some (Sum.inl (wr_i64 (v11 + 1)))
    else
      none
  else
    some (Sum.inr (Sum.inr ()))

def palinglaw15_NamesPorts_L6 (a1 : Api_Net) (v70 : Int) : Option ((Int) ⊕ (Unit ⊕ Unit)) :=
  if (decide (v70 < (a1.links.length : Int))) = true then
    (nth a1.links v70).bind fun x72 =>
    if (decide (x72.a < 0)) = true then
      some (Sum.inr (Sum.inl ()))
    else
      if (decide (x72.b < 0)) = true then
        some (Sum.inr (Sum.inl ()))
      else
        if (decide (x72.a ≥ (a1.ports.length : Int))) = true then
          some (Sum.inr (Sum.inl ()))
        else
          if (decide (x72.b ≥ (a1.ports.length : Int))) = true then
            some (Sum.inr (Sum.inl ()))
          else
            (nth a1.ports x72.a).bind fun x78 =>
            if (x78.link != v70) = true then
              some (Sum.inr (Sum.inl ()))
            else
              (nth a1.ports x72.b).bind fun x81 =>
              if (x81.link != v70) = true then
                some (Sum.inr (Sum.inl ()))
              else
                (nth a1.ports x72.a).bind fun x84 =>
                (nth a1.ports x72.b).bind fun x86 =>
                if (x84.dev == x86.dev) = true then
                  some (Sum.inr (Sum.inl ()))
                else
                  some (Sum.inl (wr_i64 (v70 + 1)))
  else
    some (Sum.inr (Sum.inr ()))

def palinglaw15_NamesPorts (a1 : Api_Net) : Option (Bool) :=
  (palinglaw15_works).bind fun r2 =>
  if (!r2) = true then
    some false
  else
    (palinglaw15_Great a1).bind fun r5 =>
    if (r5) = true then
      some true
    else
      (names_Right a1).bind fun r8 =>
      if (!r8) = true then
        some true
      else
        (loopM (palinglaw15_NamesPorts_L1 a1) 0).bind fun r69 => match r69 with
        | Sum.inl () =>
          some false
        | Sum.inr () =>
          (loopM (palinglaw15_NamesPorts_L6 a1) 0).bind fun r90 => match r90 with
          | Sum.inl () =>
            some false
          | Sum.inr () =>
            some true

def links_Other (a1 : Api_Net) (a2 : Int) : Option (Int) :=
  if (decide (a2 < 0)) = true then
    some (-1)
  else
    if (decide (a2 ≥ (a1.ports.length : Int))) = true then
      some (-1)
    else
      (nth a1.ports a2).bind fun x5 =>
      if (decide (x5.link < 0)) = true then
        some (-1)
      else
        (names_Right a1).bind fun r8 =>
        if (!r8) = true then
          some (-1)
        else
          (nth a1.ports a2).bind fun x11 =>
          (nth a1.links x11.link).bind fun x13 =>
          if (x13.a == a2) = true then
            some x13.b
          else
            some x13.a

def links_Cross (a1 : Api_Net) (a2 : Int) (a3 : Int) : Option (Int × Int × Bool) :=
  (links_Other a1 a2).bind fun r4 =>
  if (decide (r4 < 0)) = true then
    some (0, 0, false)
  else
    (nth a1.ports a2).bind fun x7 =>
    (names_Member x7 a3).bind fun r9 =>
    if (!r9) = true then
      some (0, 0, false)
    else
      (nth a1.ports r4).bind fun x12 =>
      (nth a1.ports a2).bind fun x14 =>
      if (a3 == x14.native) = true then
        if (x12.native == 0) = true then
          some (0, 0, false)
        else
          some (r4, x12.native, true)
      else
        (slices_Contains_int x12.tagged a3).bind fun r18 =>
        if (r18) = true then
          if (a3 == 0) = true then
            some (0, 0, false)
          else
            some (r4, a3, true)
        else
          if (0 == 0) = true then
            some (0, 0, false)
          else
            some (r4, 0, true)

def links_Domain (a1 : Api_Net) (a2 : Int) (a3 : Int) : Option (Int × Bool) :=
  (links_Cross a1 a2 a3).bind fun r4 =>
  if (!r4.2.2) = true then
    some (0, false)
  else
    (nth a1.ports r4.1).bind fun x7 =>
    (names_Domain a1 x7.dev r4.2.1).bind fun r9 =>
    some (r9, true)

def palinglaw17_works : Option (Bool) :=
  (links_Cross (⟨[(⟨0, 0, (⟨#[97]⟩ : ByteArray), 0, 0⟩ : Api_Device), (⟨0, 0, (⟨#[98]⟩ : ByteArray), 0, 0⟩ : Api_Device)], [(⟨0, 0, 10, 0, 0, (⟨#[112]⟩ : ByteArray), [(20 : Int)]⟩ : Api_Port), (⟨0, 1, 30, 0, 0, (⟨#[112]⟩ : ByteArray), [(20 : Int)]⟩ : Api_Port)], [(⟨0, 0, 1⟩ : Api_Link)], [(⟨0, 10, 0, (-1), 0, []⟩ : Api_Domain), (⟨0, 20, 0, (-1), 0, []⟩ : Api_Domain), (⟨1, 30, 0, (-1), 0, []⟩ : Api_Domain), (⟨1, 20, 0, (-1), 0, []⟩ : Api_Domain)], [], [], [], []⟩ : Api_Net) 0 10).bind fun r1 =>
  (links_Cross (⟨[(⟨0, 0, (⟨#[97]⟩ : ByteArray), 0, 0⟩ : Api_Device), (⟨0, 0, (⟨#[98]⟩ : ByteArray), 0, 0⟩ : Api_Device)], [(⟨0, 0, 10, 0, 0, (⟨#[112]⟩ : ByteArray), [(20 : Int)]⟩ : Api_Port), (⟨0, 1, 30, 0, 0, (⟨#[112]⟩ : ByteArray), [(20 : Int)]⟩ : Api_Port)], [(⟨0, 0, 1⟩ : Api_Link)], [(⟨0, 10, 0, (-1), 0, []⟩ : Api_Domain), (⟨0, 20, 0, (-1), 0, []⟩ : Api_Domain), (⟨1, 30, 0, (-1), 0, []⟩ : Api_Domain), (⟨1, 20, 0, (-1), 0, []⟩ : Api_Domain)], [], [], [], []⟩ : Api_Net) 1 20).bind fun r3 =>
  (links_Domain (⟨[(⟨0, 0, (⟨#[97]⟩ : ByteArray), 0, 0⟩ : Api_Device), (⟨0, 0, (⟨#[98]⟩ : ByteArray), 0, 0⟩ : Api_Device)], [(⟨0, 0, 10, 0, 0, (⟨#[112]⟩ : ByteArray), [(20 : Int)]⟩ : Api_Port), (⟨0, 1, 30, 0, 0, (⟨#[112]⟩ : ByteArray), [(20 : Int)]⟩ : Api_Port)], [(⟨0, 0, 1⟩ : Api_Link)], [(⟨0, 10, 0, (-1), 0, []⟩ : Api_Domain), (⟨0, 20, 0, (-1), 0, []⟩ : Api_Domain), (⟨1, 30, 0, (-1), 0, []⟩ : Api_Domain), (⟨1, 20, 0, (-1), 0, []⟩ : Api_Domain)], [], [], [], []⟩ : Api_Net) 0 10).bind fun r5 =>
  (links_Cross (⟨[(⟨0, 0, (⟨#[97]⟩ : ByteArray), 0, 0⟩ : Api_Device), (⟨0, 0, (⟨#[98]⟩ : ByteArray), 0, 0⟩ : Api_Device)], [(⟨0, 0, 10, 0, 0, (⟨#[112]⟩ : ByteArray), [(20 : Int)]⟩ : Api_Port), (⟨0, 1, 30, 0, 0, (⟨#[112]⟩ : ByteArray), [(20 : Int)]⟩ : Api_Port)], [(⟨0, 0, 1⟩ : Api_Link)], [(⟨0, 10, 0, (-1), 0, []⟩ : Api_Domain), (⟨0, 20, 0, (-1), 0, []⟩ : Api_Domain), (⟨1, 30, 0, (-1), 0, []⟩ : Api_Domain), (⟨1, 20, 0, (-1), 0, []⟩ : Api_Domain)], [], [], [], []⟩ : Api_Net) 0 30).bind fun r7 =>
  if (r1.2.2) = true then
    if (r1.1 == 1) = true then
      if (r1.2.1 == 30) = true then
        if (r3.2.2) = true then
          if (r3.2.1 == 20) = true then
            if (r5.2) = true then
              if (r5.1 == 2) = true then
                if (!r7.2.2) = true then
                  (links_Other (⟨[(⟨0, 0, (⟨#[97]⟩ : ByteArray), 0, 0⟩ : Api_Device), (⟨0, 0, (⟨#[98]⟩ : ByteArray), 0, 0⟩ : Api_Device)], [(⟨0, 0, 10, 0, 0, (⟨#[112]⟩ : ByteArray), [(20 : Int)]⟩ : Api_Port), (⟨0, 1, 30, 0, 0, (⟨#[112]⟩ : ByteArray), [(20 : Int)]⟩ : Api_Port)], [(⟨0, 0, 1⟩ : Api_Link)], [(⟨0, 10, 0, (-1), 0, []⟩ : Api_Domain), (⟨0, 20, 0, (-1), 0, []⟩ : Api_Domain), (⟨1, 30, 0, (-1), 0, []⟩ : Api_Domain), (⟨1, 20, 0, (-1), 0, []⟩ : Api_Domain)], [], [], [], []⟩ : Api_Net) 1).bind fun r17 =>
                  some (r17 == 0)
                else
                  some false
              else
                some false
            else
              some false
          else
            some false
        else
          some false
      else
        some false
    else
      some false
  else
    some false

def palinglaw17_LinksBack (a1 : Api_Net) (a2 : Int) (a3 : Int) (a4 : Int) : Option (Bool) :=
  (palinglaw17_works).bind fun r5 =>
  if (!r5) = true then
    some false
  else
    (palinglaw15_Great a1).bind fun r8 =>
    if (r8) = true then
      some true
    else
      (links_Cross a1 a2 a3).bind fun r11 =>
      if (!r11.2.2) = true then
        if (r11.1 == 0) = true then
          some (r11.2.1 == 0)
        else
          some false
      else
        if (decide (a2 < 0)) = true then
          some false
        else
          if (decide (a2 ≥ (a1.ports.length : Int))) = true then
            some false
          else
            if (decide (r11.1 < 0)) = true then
              some false
            else
              if (decide (r11.1 ≥ (a1.ports.length : Int))) = true then
                some false
              else
                (links_Cross a1 r11.1 r11.2.1).bind fun r19 =>
                (links_Cross a1 a2 a4).bind fun r21 =>
                if (r19.2.2) = true then
                  if (r19.1 == a2) = true then
                    if (r19.2.1 == a3) = true then
                      if (!r21.2.2) = true then
                        (nth a1.ports r11.1).bind fun x27 =>
                        (names_Member x27 r11.2.1).bind fun r29 =>
                        if (r29) = true then
                          (nth a1.ports r11.1).bind fun x32 =>
                          (nth a1.ports a2).bind fun x34 =>
                          some (x32.dev != x34.dev)
                        else
                          some false
                      else
                        if ((r21.2.1 == r11.2.1) == (a3 == a4)) = true then
                          (nth a1.ports r11.1).bind fun x37 =>
                          (names_Member x37 r11.2.1).bind fun r39 =>
                          if (r39) = true then
                            (nth a1.ports r11.1).bind fun x42 =>
                            (nth a1.ports a2).bind fun x44 =>
                            some (x42.dev != x44.dev)
                          else
                            some false
                        else
                          some false
                    else
                      some false
                  else
                    some false
                else
                  some false

end Go.Eng
