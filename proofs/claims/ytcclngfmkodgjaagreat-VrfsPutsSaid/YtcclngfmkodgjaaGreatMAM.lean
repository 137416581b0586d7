/- Part of the proof of VrfsPuts: printed mirrors of the functions, or their contracts. No conditions. -/
import Derived.Test.YtcclngfmkodgjaaGreatEng14
set_option linter.unusedVariables false
set_option maxRecDepth 100000
namespace Go.Eng
open Go
structure Api_Device where
 row : Int
 priority : Int
 name : ByteArray
 mac : Int
 vtep : Int
 deriving DecidableEq, Inhabited

def Api_Device.Ok (x : Api_Device) : Prop := (okI .i64) x.row ∧ (okI .i64) x.priority ∧ okS x.name ∧ (okI .u64) x.mac ∧ (okI .u32) x.vtep ∧ True

structure Api_Port where
 row : Int
 dev : Int
 native : Int
 cost : Int
 link : Int
 name : ByteArray
 tagged : List Int
 deriving DecidableEq, Inhabited

def Api_Port.Ok (x : Api_Port) : Prop := (okI .i64) x.row ∧ (okI .i64) x.dev ∧ (okI .i64) x.native ∧ (okI .i64) x.cost ∧ (okI .i64) x.link ∧ okS x.name ∧ (okL (okI .i64)) x.tagged ∧ True

structure Api_Link where
 row : Int
 a : Int
 b : Int
 deriving DecidableEq, Inhabited

def Api_Link.Ok (x : Api_Link) : Prop := (okI .i64) x.row ∧ (okI .i64) x.a ∧ (okI .i64) x.b ∧ True

structure Api_Domain where
 dev : Int
 vlan : Int
 vni : Int
 irb : Int
 row : Int
 peers : List Int
 deriving DecidableEq, Inhabited

def Api_Domain.Ok (x : Api_Domain) : Prop := (okI .i64) x.dev ∧ (okI .i64) x.vlan ∧ (okI .i64) x.vni ∧ (okI .i64) x.irb ∧ (okI .i64) x.row ∧ (okL (okI .i64)) x.peers ∧ True

structure Api_Static where
 row : Int
 domain : Int
 port : Int
 mac : Int
 deriving DecidableEq, Inhabited

def Api_Static.Ok (x : Api_Static) : Prop := (okI .i64) x.row ∧ (okI .i64) x.domain ∧ (okI .i64) x.port ∧ (okI .u64) x.mac ∧ True

structure Api_Flood where
 row : Int
 dev : Int
 vni : Int
 addrs : List Int
 deriving DecidableEq, Inhabited

def Api_Flood.Ok (x : Api_Flood) : Prop := (okI .i64) x.row ∧ (okI .i64) x.dev ∧ (okI .i64) x.vni ∧ (okL (okI .u32)) x.addrs ∧ True

structure Api_Vrf where
 row : Int
 dev : Int
 name : ByteArray
 imports : List Int
 exports : List Int
 deriving DecidableEq, Inhabited

def Api_Vrf.Ok (x : Api_Vrf) : Prop := (okI .i64) x.row ∧ (okI .i64) x.dev ∧ okS x.name ∧ (okL (okI .i64)) x.imports ∧ (okL (okI .i64)) x.exports ∧ True

structure Api_Prefix where
 addr : Int
 bits : Int
 deriving DecidableEq, Inhabited

def Api_Prefix.Ok (x : Api_Prefix) : Prop := (okI .u32) x.addr ∧ (okI .i64) x.bits ∧ True

structure Api_Irb where
 row : Int
 domain : Int
 vrf : Int
 net : Api_Prefix
 deriving DecidableEq, Inhabited

def Api_Irb.Ok (x : Api_Irb) : Prop := (okI .i64) x.row ∧ (okI .i64) x.domain ∧ (okI .i64) x.vrf ∧ Api_Prefix.Ok x.net ∧ True

structure Api_Net where
 devices : List Api_Device
 ports : List Api_Port
 links : List Api_Link
 domains : List Api_Domain
 statics : List Api_Static
 floods : List Api_Flood
 vrfs : List Api_Vrf
 irbs : List Api_Irb
 deriving DecidableEq, Inhabited

def Api_Net.Ok (x : Api_Net) : Prop := (okL Api_Device.Ok) x.devices ∧ (okL Api_Port.Ok) x.ports ∧ (okL Api_Link.Ok) x.links ∧ (okL Api_Domain.Ok) x.domains ∧ (okL Api_Static.Ok) x.statics ∧ (okL Api_Flood.Ok) x.floods ∧ (okL Api_Vrf.Ok) x.vrfs ∧ (okL Api_Irb.Ok) x.irbs ∧ True

structure Api_Line where
 row : Int
 kind : Int
 dev : ByteArray
 port : ByteArray
 peer : ByteArray
 far : ByteArray
 name : ByteArray
 mac : Int
 addr : Int
 bits : Int
 vlan : Int
 num : Int
 cost : Int
 tagged : List Int
 imports : List Int
 exports : List Int
 addrs : List Int
 deriving DecidableEq, Inhabited

def Api_Line.Ok (x : Api_Line) : Prop := (okI .i64) x.row ∧ (okI .i64) x.kind ∧ okS x.dev ∧ okS x.port ∧ okS x.peer ∧ okS x.far ∧ okS x.name ∧ (okI .u64) x.mac ∧ (okI .u32) x.addr ∧ (okI .i64) x.bits ∧ (okI .i64) x.vlan ∧ (okI .i64) x.num ∧ (okI .i64) x.cost ∧ (okL (okI .i64)) x.tagged ∧ (okL (okI .i64)) x.imports ∧ (okL (okI .i64)) x.exports ∧ (okL (okI .u32)) x.addrs ∧ True

structure Names_judge where
 n : Api_Net
 deriving DecidableEq, Inhabited

def Names_judge.Ok (x : Names_judge) : Prop := Api_Net.Ok x.n ∧ True

def eq_Api_Device (x y : Api_Device) : Bool := (x.row == y.row && (x.priority == y.priority && (seqB x.name y.name && (x.mac == y.mac && (x.vtep == y.vtep && true)))))

def eq_Api_Link (x y : Api_Link) : Bool := (x.row == y.row && (x.a == y.a && (x.b == y.b && true)))

def eq_Api_Static (x y : Api_Static) : Bool := (x.row == y.row && (x.domain == y.domain && (x.port == y.port && (x.mac == y.mac && true))))

def eq_Api_Prefix (x y : Api_Prefix) : Bool := (x.addr == y.addr && (x.bits == y.bits && true))

def eq_Api_Irb (x y : Api_Irb) : Bool := (x.row == y.row && (x.domain == y.domain && (x.vrf == y.vrf && (eq_Api_Prefix x.net y.net && true))))

def palinglaw15_Great_L1 (a1 : Api_Net) (v10 : Int) : Option ((Int) ⊕ (Unit ⊕ Unit)) :=
 if (decide (v10 < (a1.ports.length : Int))) = true then
  (nth a1.ports v10).bind fun x12 =>
  if (decide ((x12.tagged.length : Int) > 100)) = true then
   some (Sum.inr (Sum.inl ()))
  else
   some (Sum.inl (wr_i64 (v10 + 1)))
 else
  some (Sum.inr (Sum.inr ()))

def palinglaw15_Great_L2 (a1 : Api_Net) (v17 : Int) : Option ((Int) ⊕ (Unit ⊕ Unit)) :=
 if (decide (v17 < (a1.domains.length : Int))) = true then
  (nth a1.domains v17).bind fun x19 =>
  if (decide ((x19.peers.length : Int) > 100)) = true then
   some (Sum.inr (Sum.inl ()))
  else
   some (Sum.inl (wr_i64 (v17 + 1)))
 else
  some (Sum.inr (Sum.inr ()))

def palinglaw15_Great_L3 (a1 : Api_Net) (v24 : Int) : Option ((Int) ⊕ (Unit ⊕ Unit)) :=
 if (decide (v24 < (a1.floods.length : Int))) = true then
  (nth a1.floods v24).bind fun x26 =>
  if (decide ((x26.addrs.length : Int) > 100)) = true then
   some (Sum.inr (Sum.inl ()))
  else
   some (Sum.inl (wr_i64 (v24 + 1)))
 else
  some (Sum.inr (Sum.inr ()))

def palinglaw15_Great_L4 (a1 : Api_Net) (v31 : Int) : Option ((Int) ⊕ (Unit ⊕ Unit)) :=
 if (decide (v31 < (a1.vrfs.length : Int))) = true then
  (nth a1.vrfs v31).bind fun x33 =>
  if (decide ((x33.imports.length : Int) > 100)) = true then
   some (Sum.inr (Sum.inl ()))
  else
   (nth a1.vrfs v31).bind fun x36 =>
   if (decide ((x36.exports.length : Int) > 100)) = true then
    some (Sum.inr (Sum.inl ()))
   else
    some (Sum.inl (wr_i64 (v31 + 1)))
 else
  some (Sum.inr (Sum.inr ()))

def palinglaw15_Great (a1 : Api_Net) : Option (Bool) :=
 if (decide ((a1.devices.length : Int) > 200)) = true then
  some true
 else
  if (decide ((a1.ports.length : Int) > 200)) = true then
   some true
  else
   if (decide ((a1.links.length : Int) > 200)) = true then
    some true
   else
    if (decide ((a1.domains.length : Int) > 200)) = true then
     some true
    else
     if (decide ((a1.statics.length : Int) > 200)) = true then
      some true
     else
      if (decide ((a1.floods.length : Int) > 200)) = true then
       some true
      else
       if (decide ((a1.vrfs.length : Int) > 200)) = true then
        some true
       else
        if (decide ((a1.irbs.length : Int) > 200)) = true then
         some true
        else
         (loopM (palinglaw15_Great_L1 a1) 0).bind fun r16 => match r16 with
         | Sum.inl () =>
          some true
         | Sum.inr () =>
          (loopM (palinglaw15_Great_L2 a1) 0).bind fun r23 => match r23 with
          | Sum.inl () =>
           some true
          | Sum.inr () =>
           (loopM (palinglaw15_Great_L3 a1) 0).bind fun r30 => match r30 with
           | Sum.inl () =>
            some true
           | Sum.inr () =>
            (loopM (palinglaw15_Great_L4 a1) 0).bind fun r40 => match r40 with
            | Sum.inl () =>
             some true
            | Sum.inr () =>
             some false

def palinglaw12_Great_L2 (a1 : List Api_Line) (v4 : Int) (x6 : Api_Line) (x8 : Api_Line) (x10 : Api_Line) (x12 : Api_Line) (x14 : Api_Line) (x16 : Api_Line) (x18 : Api_Line) (x20 : Api_Line) (x22 : Api_Line) (v24 : Int) (v25 : Int) : Option ((Int × Int) ⊕ (Unit ⊕ Int)) :=
 if (decide (v25 < ([((x6.dev.size : Int) : Int), ((x8.port.size : Int) : Int), ((x10.peer.size : Int) : Int), ((x12.far.size : Int) : Int), ((x14.name.size : Int) : Int), ((x16.tagged.length : Int) : Int), ((x18.imports.length : Int) : Int), ((x20.exports.length : Int) : Int), ((x22.addrs.length : Int) : Int)].length : Int))) = true then
  (nth [((x6.dev.size : Int) : Int), ((x8.port.size : Int) : Int), ((x10.peer.size : Int) : Int), ((x12.far.size : Int) : Int), ((x14.name.size : Int) : Int), ((x16.tagged.length : Int) : Int), ((x18.imports.length : Int) : Int), ((x20.exports.length : Int) : Int), ((x22.addrs.length : Int) : Int)] v25).bind fun x27 =>
  if (decide (x27 > 300)) = true then
   some (Sum.inr (Sum.inl ()))
  else
   some (Sum.inl (wr_i64 (v24 + x27), wr_i64 (v25 + 1)))
 else
  some (Sum.inr (Sum.inr v24))

def palinglaw12_Great_L1 (a1 : List Api_Line) (v3 : Int) (v4 : Int) : Option ((Int × Int) ⊕ (Unit ⊕ Int)) :=
 if (decide (v4 < (a1.length : Int))) = true then
  (nth a1 v4).bind fun x6 =>
  (nth a1 v4).bind fun x8 =>
  (nth a1 v4).bind fun x10 =>
  (nth a1 v4).bind fun x12 =>
  (nth a1 v4).bind fun x14 =>
  (nth a1 v4).bind fun x16 =>
  (nth a1 v4).bind fun x18 =>
  (nth a1 v4).bind fun x20 =>
  (nth a1 v4).bind fun x22 =>
  (loopM (fun s : Int × Int => match s with | (v24, v25) => palinglaw12_Great_L2 a1 v4 x6 x8 x10 x12 x14 x16 x18 x20 x22 v24 v25) (v3, 0)).bind fun r33 => match r33 with
  | Sum.inl () =>
   some (Sum.inr (Sum.inl ()))
  | Sum.inr v31 =>
   some (Sum.inl (v31, wr_i64 (v4 + 1)))
 else
  some (Sum.inr (Sum.inr v3))

def palinglaw12_Great (a1 : List Api_Line) : Option (Bool) :=
 if (decide ((a1.length : Int) > 400)) = true then
  some true
 else
  (loopM (fun s : Int × Int => match s with | (v3, v4) => palinglaw12_Great_L1 a1 v3 v4) (0, 0)).bind fun r37 => match r37 with
  | Sum.inl () =>
   some true
  | Sum.inr v35 =>
   some (decide (v35 > 10000))

def palinglaw16_Great (a1 : Api_Net) (a2 : Api_Line) : Option (Bool) :=
 (palinglaw15_Great a1).bind fun r3 =>
 if (r3) = true then
  some true
 else
  (palinglaw12_Great [a2]).bind fun r6 =>
  some r6

def stmt_within (a1 : Int) (a2 : Int) (a3 : Int) : Option (Bool) :=
 if (decide (a1 ≥ a2)) = true then
  some (decide (a1 ≤ a3))
 else
  some false

def mac_IsHost (a1 : Int) : Option (Int × Bool) :=
 if ((Int.fdiv (bits_and .u64 a1 281474976710655) (2 ^ 32)) != 512) = true then
  some (0, false)
 else
  some (wr_u32 (bits_and .u64 a1 281474976710655), true)

def mac_Group (a1 : Int) : Option (Bool) :=
 some ((bits_and .u64 a1 1099511627776) != 0)

def stmt_station (a1 : Int) : Option (Bool) :=
 (mac_IsHost a1).bind fun r2 =>
 if (decide (a1 ≤ 281474976710655)) = true then
  if (!r2.2) = true then
   (mac_Group a1).bind fun r6 =>
   some (!r6)
  else
   some false
 else
  some false

def num_Name_L1 (a1 : ByteArray) (v2 : Int) : Option ((Int) ⊕ (Unit ⊕ Unit)) :=
 if (decide (v2 < (a1.size : Int))) = true then
  if (decide (0 ≤ (v2 : Int) ∧ (v2 : Int) < (a1.size : Int))) = true then
   if (decide ((byteAt a1 v2) ≥ 97)) = true then
    if (decide ((byteAt a1 v2) ≥ 48)) = true then
     if (!(decide ((byteAt a1 v2) ≤ 122))) = true then
      if (!(decide ((byteAt a1 v2) ≤ 57))) = true then
       some (Sum.inr (Sum.inl ()))
      else
       if (v2 == 0) = true then
        some (Sum.inr (Sum.inl ()))
       else
        some (Sum.inl (wr_i64 (v2 + 1)))
     else
      some (Sum.inl (wr_i64 (v2 + 1)))
    else
     if (!(decide ((byteAt a1 v2) ≤ 122))) = true then
      some (Sum.inr (Sum.inl ()))
     else
      some (Sum.inl (wr_i64 (v2 + 1)))
   else
    if (decide ((byteAt a1 v2) ≥ 48)) = true then
     if (!(decide ((byteAt a1 v2) ≤ 57))) = true then
      some (Sum.inr (Sum.inl ()))
     else
      if (v2 == 0) = true then
       some (Sum.inr (Sum.inl ()))
      else
       some (Sum.inl (wr_i64 (v2 + 1)))
    else
     some (Sum.inr (Sum.inl ()))
  else
   none
 else
  some (Sum.inr (Sum.inr ()))

def num_Name (a1 : ByteArray) : Option (Bool) :=
 (loopM (num_Name_L1 a1) 0).bind fun r15 => match r15 with
 | Sum.inl () =>
  some false
 | Sum.inr () =>
  if (decide ((a1.size : Int) > 0)) = true then
   some (decide ((a1.size : Int) ≤ 12))
  else
   some false

def num_Rising_L1 (a1 : List Int) (a2 : Int) (a3 : Int) (v4 : Int) : Option ((Int) ⊕ (Unit ⊕ Unit)) :=
 if (decide (v4 < (a1.length : Int))) = true then
  (nth a1 v4).bind fun x6 =>
  if (decide (x6 < a2)) = true then
   some (Sum.inr (Sum.inl ()))
  else
   if (decide (x6 > a3)) = true then
    some (Sum.inr (Sum.inl ()))
   else
    if (decide (v4 > 0)) = true then
     (nth a1 (wr_i64 (v4 - 1))).bind fun x11 =>
     if (decide (x11 ≥ x6)) = true then
      some (Sum.inr (Sum.inl ()))
     else
      some (Sum.inl (wr_i64 (v4 + 1)))
    else
     some (Sum.inl (wr_i64 (v4 + 1)))
 else
  some (Sum.inr (Sum.inr ()))

def num_Rising (a1 : List Int) (a2 : Int) (a3 : Int) : Option (Bool) :=
 (loopM (num_Rising_L1 a1 a2 a3) 0).bind fun r15 => match r15 with
 | Sum.inl () =>
  some false
 | Sum.inr () =>
  if (decide ((a1.length : Int) > 0)) = true then
   some (decide ((a1.length : Int) ≤ 16))
  else
   some false

def stmt_list (a1 : List Int) (a2 : Int) : Option (Bool) :=
 if ((a1.length : Int) == 0) = true then
  some true
 else
  (num_Rising a1 1 a2).bind fun r4 =>
  some r4

def slices_Index_int_L1 (a1 : List Int) (a2 : Int) (v3 : Int) : Option ((Int) ⊕ (Int ⊕ Unit)) :=
 if (decide (v3 < (a1.length : Int))) = true then
  (nth a1 v3).bind fun x5 =>
  if (a2 == x5) = true then
   some (Sum.inr (Sum.inl v3))
  else
   some (Sum.inl (wr_i64 (v3 + 1)))
 else
  some (Sum.inr (Sum.inr ()))

def slices_Index_int (a1 : List Int) (a2 : Int) : Option (Int) :=
 (loopM (slices_Index_int_L1 a1 a2) 0).bind fun r11 => match r11 with
 | Sum.inl v9 =>
  some v9
 | Sum.inr () =>
  some (-1)

def slices_Contains_int (a1 : List Int) (a2 : Int) : Option (Bool) :=
 (slices_Index_int a1 a2).bind fun r3 =>
 some (decide (r3 ≥ 0))

def stmt_members (a1 : Api_Line) : Option (Bool) :=
 if (decide (a1.vlan > 0)) = true then
  (slices_Contains_int a1.tagged a1.vlan).bind fun r3 =>
  some (!r3)
 else
  if (decide ((a1.tagged.length : Int) > 0)) = true then
   (slices_Contains_int a1.tagged a1.vlan).bind fun r6 =>
   some (!r6)
  else
   some false

def stmt_addrs_L1 (a1 : List Int) (v2 : Int) : Option ((Int) ⊕ (Unit ⊕ Unit)) :=
 if (decide (v2 < (a1.length : Int))) = true then
  (nth a1 v2).bind fun x4 =>
  if (x4 == 0) = true then
   some (Sum.inr (Sum.inl ()))
  else
   if (decide (v2 > 0)) = true then
    (nth a1 (wr_i64 (v2 - 1))).bind fun x8 =>
    if (decide (x8 ≥ x4)) = true then
     some (Sum.inr (Sum.inl ()))
    else
     some (Sum.inl (wr_i64 (v2 + 1)))
   else
    some (Sum.inl (wr_i64 (v2 + 1)))
 else
  some (Sum.inr (Sum.inr ()))

def stmt_addrs (a1 : List Int) : Option (Bool) :=
 (loopM (stmt_addrs_L1 a1) 0).bind fun r12 => match r12 with
 | Sum.inl () =>
  some false
 | Sum.inr () =>
  if (decide ((a1.length : Int) > 0)) = true then
   some (decide ((a1.length : Int) ≤ 16))
  else
   some false

def addr_Right (a1 : Api_Prefix) : Option (Bool) :=
 if (decide (a1.bits ≥ 0)) = true then
  some (decide (a1.bits ≤ 32))
 else
  some false

def addr_rest (a1 : Api_Prefix) : Option (Int) :=
 if (decide (0 ≤ (wr_i64 (32 - a1.bits)))) = true then
  some (wr_u32 ((wr_u32 (1 * 2 ^ (min (Int.toNat (wr_i64 (32 - a1.bits))) 32))) - 1))
 else
  none

def addr_First (a1 : Api_Prefix) : Option (Int) :=
 (addr_Right a1).bind fun r2 =>
 if (!r2) = true then
  some 0
 else
  (addr_rest a1).bind fun r5 =>
  some (bits_andNot .u32 a1.addr r5)

def addr_Last (a1 : Api_Prefix) : Option (Int) :=
 (addr_Right a1).bind fun r2 =>
 if (!r2) = true then
  some 0
 else
  (addr_rest a1).bind fun r5 =>
  some (bits_or .u32 a1.addr r5)

def stmt_subnet (a1 : Api_Prefix) : Option (Bool) :=
 if (decide (a1.bits ≥ 1)) = true then
  if (decide (a1.bits ≤ 30)) = true then
   (addr_First a1).bind fun r4 =>
   if (a1.addr != r4) = true then
    (addr_Last a1).bind fun r7 =>
    some (a1.addr != r7)
   else
    some false
  else
   some false
 else
  some false

def stmt_used (a1 : Api_Line) : Option ((Api_Line × Bool)) :=
 if (a1.kind == 1) = true then
  (stmt_within a1.num 0 65535).bind fun r3 =>
  if (r3) = true then
   (stmt_station a1.mac).bind fun r6 =>
   some ((⟨a1.row, a1.kind, a1.dev, (⟨#[]⟩ : ByteArray), (⟨#[]⟩ : ByteArray), (⟨#[]⟩ : ByteArray), (⟨#[]⟩ : ByteArray), a1.mac, 0, 0, 0, a1.num, 0, [], [], [], []⟩ : Api_Line), r6)
  else
   some ((⟨a1.row, a1.kind, a1.dev, (⟨#[]⟩ : ByteArray), (⟨#[]⟩ : ByteArray), (⟨#[]⟩ : ByteArray), (⟨#[]⟩ : ByteArray), a1.mac, 0, 0, 0, a1.num, 0, [], [], [], []⟩ : Api_Line), false)
 else
  if (a1.kind == 2) = true then
   (num_Name a1.port).bind fun r9 =>
   if (r9) = true then
    (stmt_within a1.cost 1 65535).bind fun r12 =>
    if (r12) = true then
     (stmt_within a1.vlan 0 4094).bind fun r15 =>
     if (r15) = true then
      (stmt_list a1.tagged 4094).bind fun r18 =>
      if (r18) = true then
       (stmt_members a1).bind fun r21 =>
       some ((⟨a1.row, a1.kind, a1.dev, a1.port, (⟨#[]⟩ : ByteArray), (⟨#[]⟩ : ByteArray), (⟨#[]⟩ : ByteArray), 0, 0, 0, a1.vlan, 0, a1.cost, a1.tagged, [], [], []⟩ : Api_Line), r21)
      else
       some ((⟨a1.row, a1.kind, a1.dev, a1.port, (⟨#[]⟩ : ByteArray), (⟨#[]⟩ : ByteArray), (⟨#[]⟩ : ByteArray), 0, 0, 0, a1.vlan, 0, a1.cost, a1.tagged, [], [], []⟩ : Api_Line), false)
     else
      some ((⟨a1.row, a1.kind, a1.dev, a1.port, (⟨#[]⟩ : ByteArray), (⟨#[]⟩ : ByteArray), (⟨#[]⟩ : ByteArray), 0, 0, 0, a1.vlan, 0, a1.cost, a1.tagged, [], [], []⟩ : Api_Line), false)
    else
     some ((⟨a1.row, a1.kind, a1.dev, a1.port, (⟨#[]⟩ : ByteArray), (⟨#[]⟩ : ByteArray), (⟨#[]⟩ : ByteArray), 0, 0, 0, a1.vlan, 0, a1.cost, a1.tagged, [], [], []⟩ : Api_Line), false)
   else
    some ((⟨a1.row, a1.kind, a1.dev, a1.port, (⟨#[]⟩ : ByteArray), (⟨#[]⟩ : ByteArray), (⟨#[]⟩ : ByteArray), 0, 0, 0, a1.vlan, 0, a1.cost, a1.tagged, [], [], []⟩ : Api_Line), false)
  else
   if (a1.kind == 3) = true then
    (num_Name a1.port).bind fun r24 =>
    if (r24) = true then
     (num_Name a1.peer).bind fun r27 =>
     if (r27) = true then
      (num_Name a1.far).bind fun r30 =>
      some ((⟨a1.row, a1.kind, a1.dev, a1.port, a1.peer, a1.far, (⟨#[]⟩ : ByteArray), 0, 0, 0, 0, 0, 0, [], [], [], []⟩ : Api_Line), r30)
     else
      some ((⟨a1.row, a1.kind, a1.dev, a1.port, a1.peer, a1.far, (⟨#[]⟩ : ByteArray), 0, 0, 0, 0, 0, 0, [], [], [], []⟩ : Api_Line), false)
    else
     some ((⟨a1.row, a1.kind, a1.dev, a1.port, a1.peer, a1.far, (⟨#[]⟩ : ByteArray), 0, 0, 0, 0, 0, 0, [], [], [], []⟩ : Api_Line), false)
   else
    if (a1.kind == 4) = true then
     (stmt_within a1.vlan 1 4094).bind fun r33 =>
     if (r33) = true then
      (stmt_station a1.mac).bind fun r36 =>
      if (r36) = true then
       (num_Name a1.port).bind fun r39 =>
       some ((⟨a1.row, a1.kind, a1.dev, a1.port, (⟨#[]⟩ : ByteArray), (⟨#[]⟩ : ByteArray), (⟨#[]⟩ : ByteArray), a1.mac, 0, 0, a1.vlan, 0, 0, [], [], [], []⟩ : Api_Line), r39)
      else
       some ((⟨a1.row, a1.kind, a1.dev, a1.port, (⟨#[]⟩ : ByteArray), (⟨#[]⟩ : ByteArray), (⟨#[]⟩ : ByteArray), a1.mac, 0, 0, a1.vlan, 0, 0, [], [], [], []⟩ : Api_Line), false)
     else
      some ((⟨a1.row, a1.kind, a1.dev, a1.port, (⟨#[]⟩ : ByteArray), (⟨#[]⟩ : ByteArray), (⟨#[]⟩ : ByteArray), a1.mac, 0, 0, a1.vlan, 0, 0, [], [], [], []⟩ : Api_Line), false)
    else
     if (a1.kind == 5) = true then
      some ((⟨a1.row, a1.kind, a1.dev, (⟨#[]⟩ : ByteArray), (⟨#[]⟩ : ByteArray), (⟨#[]⟩ : ByteArray), (⟨#[]⟩ : ByteArray), 0, a1.addr, 0, 0, 0, 0, [], [], [], []⟩ : Api_Line), a1.addr != 0)
     else
      if (a1.kind == 6) = true then
       (stmt_within a1.vlan 1 4094).bind fun r43 =>
       if (r43) = true then
        (stmt_within a1.num 1 16777215).bind fun r46 =>
        some ((⟨a1.row, a1.kind, a1.dev, (⟨#[]⟩ : ByteArray), (⟨#[]⟩ : ByteArray), (⟨#[]⟩ : ByteArray), (⟨#[]⟩ : ByteArray), 0, 0, 0, a1.vlan, a1.num, 0, [], [], [], []⟩ : Api_Line), r46)
       else
        some ((⟨a1.row, a1.kind, a1.dev, (⟨#[]⟩ : ByteArray), (⟨#[]⟩ : ByteArray), (⟨#[]⟩ : ByteArray), (⟨#[]⟩ : ByteArray), 0, 0, 0, a1.vlan, a1.num, 0, [], [], [], []⟩ : Api_Line), false)
      else
       if (a1.kind == 7) = true then
        (stmt_within a1.num 1 16777215).bind fun r49 =>
        if (r49) = true then
         (stmt_addrs a1.addrs).bind fun r52 =>
         some ((⟨a1.row, a1.kind, a1.dev, (⟨#[]⟩ : ByteArray), (⟨#[]⟩ : ByteArray), (⟨#[]⟩ : ByteArray), (⟨#[]⟩ : ByteArray), 0, 0, 0, 0, a1.num, 0, [], [], [], a1.addrs⟩ : Api_Line), r52)
        else
         some ((⟨a1.row, a1.kind, a1.dev, (⟨#[]⟩ : ByteArray), (⟨#[]⟩ : ByteArray), (⟨#[]⟩ : ByteArray), (⟨#[]⟩ : ByteArray), 0, 0, 0, 0, a1.num, 0, [], [], [], a1.addrs⟩ : Api_Line), false)
       else
        if (a1.kind == 8) = true then
         (num_Name a1.name).bind fun r55 =>
         if (r55) = true then
          (stmt_list a1.imports 65535).bind fun r58 =>
          if (r58) = true then
           (stmt_list a1.exports 65535).bind fun r61 =>
           some ((⟨a1.row, a1.kind, a1.dev, (⟨#[]⟩ : ByteArray), (⟨#[]⟩ : ByteArray), (⟨#[]⟩ : ByteArray), a1.name, 0, 0, 0, 0, 0, 0, [], a1.imports, a1.exports, []⟩ : Api_Line), r61)
          else
           some ((⟨a1.row, a1.kind, a1.dev, (⟨#[]⟩ : ByteArray), (⟨#[]⟩ : ByteArray), (⟨#[]⟩ : ByteArray), a1.name, 0, 0, 0, 0, 0, 0, [], a1.imports, a1.exports, []⟩ : Api_Line), false)
         else
          some ((⟨a1.row, a1.kind, a1.dev, (⟨#[]⟩ : ByteArray), (⟨#[]⟩ : ByteArray), (⟨#[]⟩ : ByteArray), a1.name, 0, 0, 0, 0, 0, 0, [], a1.imports, a1.exports, []⟩ : Api_Line), false)
        else
         if (a1.kind == 9) = true then
          (stmt_within a1.vlan 1 4094).bind fun r64 =>
          if (r64) = true then
           (num_Name a1.name).bind fun r67 =>
           if (r67) = true then
            (stmt_subnet (⟨a1.addr, a1.bits⟩ : Api_Prefix)).bind fun r70 =>
            some ((⟨a1.row, a1.kind, a1.dev, (⟨#[]⟩ : ByteArray), (⟨#[]⟩ : ByteArray), (⟨#[]⟩ : ByteArray), a1.name, 0, a1.addr, a1.bits, a1.vlan, 0, 0, [], [], [], []⟩ : Api_Line), r70)
           else
            some ((⟨a1.row, a1.kind, a1.dev, (⟨#[]⟩ : ByteArray), (⟨#[]⟩ : ByteArray), (⟨#[]⟩ : ByteArray), a1.name, 0, a1.addr, a1.bits, a1.vlan, 0, 0, [], [], [], []⟩ : Api_Line), false)
          else
           some ((⟨a1.row, a1.kind, a1.dev, (⟨#[]⟩ : ByteArray), (⟨#[]⟩ : ByteArray), (⟨#[]⟩ : ByteArray), a1.name, 0, a1.addr, a1.bits, a1.vlan, 0, 0, [], [], [], []⟩ : Api_Line), false)
         else
          some ((⟨a1.row, a1.kind, a1.dev, (⟨#[]⟩ : ByteArray), (⟨#[]⟩ : ByteArray), (⟨#[]⟩ : ByteArray), (⟨#[]⟩ : ByteArray), 0, 0, 0, 0, 0, 0, [], [], [], []⟩ : Api_Line), false)

def slices_Equal_int_L1 (a1 : List Int) (a2 : List Int) (v4 : Int) : Option ((Int) ⊕ (Unit ⊕ Unit)) :=
 if (decide (v4 < (a1.length : Int))) = true then
  (nth a1 v4).bind fun x6 =>
  (nth a2 v4).bind fun x8 =>
  if (x6 != x8) = true then
   some (Sum.inr (Sum.inl ()))
  else
   some (Sum.inl (wr_i64 (v4 + 1)))
 else
  some (Sum.inr (Sum.inr ()))

def slices_Equal_int (a1 : List Int) (a2 : List Int) : Option (Bool) :=
 if ((a1.length : Int) != (a2.length : Int)) = true then
  some false
 else
  (loopM (slices_Equal_int_L1 a1 a2) 0).bind fun r12 => match r12 with
  | Sum.inl () =>
   some false
  | Sum.inr () =>
   some true

def slices_Equal_uint32_L1 (a1 : List Int) (a2 : List Int) (v4 : Int) : Option ((Int) ⊕ (Unit ⊕ Unit)) :=
 if (decide (v4 < (a1.length : Int))) = true then
  (nth a1 v4).bind fun x6 =>
  (nth a2 v4).bind fun x8 =>
  if (x6 != x8) = true then
   some (Sum.inr (Sum.inl ()))
  else
   some (Sum.inl (wr_i64 (v4 + 1)))
 else
  some (Sum.inr (Sum.inr ()))

def slices_Equal_uint32 (a1 : List Int) (a2 : List Int) : Option (Bool) :=
 if ((a1.length : Int) != (a2.length : Int)) = true then
  some false
 else
  (loopM (slices_Equal_uint32_L1 a1 a2) 0).bind fun r12 => match r12 with
  | Sum.inl () =>
   some false
  | Sum.inr () =>
   some true

def stmt_Same (a1 : Api_Line) (a2 : Api_Line) : Option (Bool) :=
 if (a1.row == a2.row) = true then
  if (a1.kind == a2.kind) = true then
   if (seqB a1.dev a2.dev) = true then
    if (seqB a1.port a2.port) = true then
     if (seqB a1.peer a2.peer) = true then
      if (seqB a1.far a2.far) = true then
       if (seqB a1.name a2.name) = true then
        if (a1.mac == a2.mac) = true then
         if (a1.addr == a2.addr) = true then
          if (a1.bits == a2.bits) = true then
           if (a1.vlan == a2.vlan) = true then
            if (a1.num == a2.num) = true then
             if (a1.cost == a2.cost) = true then
              (slices_Equal_int a1.tagged a2.tagged).bind fun r16 =>
              if (r16) = true then
               (slices_Equal_int a1.imports a2.imports).bind fun r19 =>
               if (r19) = true then
                (slices_Equal_int a1.exports a2.exports).bind fun r22 =>
                if (r22) = true then
                 (slices_Equal_uint32 a1.addrs a2.addrs).bind fun r25 =>
                 some r25
                else
                 some false
               else
                some false
              else
               some false
             else
              some false
            else
             some false
           else
            some false
          else
           some false
         else
          some false
        else
         some false
       else
        some false
      else
       some false
     else
      some false
    else
     some false
   else
    some false
  else
   some false
 else
  some false

def stmt_Right (a1 : Api_Line) : Option (Bool) :=
 (stmt_used a1).bind fun r2 => match r2 with
 | (r4, r5) =>
  if (r5) = true then
   (num_Name a1.dev).bind fun r7 =>
   if (r7) = true then
    (stmt_Same r4 a1).bind fun r10 =>
    some r10
   else
    some false
  else
   some false

def names_judge_few (a1 : Names_judge) : Option (Bool) :=
 if (decide ((a1.n.devices.length : Int) ≤ 8)) = true then
  if (decide ((a1.n.ports.length : Int) ≤ 40)) = true then
   if (decide ((a1.n.links.length : Int) ≤ 20)) = true then
    if (decide ((a1.n.domains.length : Int) ≤ 48)) = true then
     if (decide ((a1.n.statics.length : Int) ≤ 64)) = true then
      if (decide ((a1.n.floods.length : Int) ≤ 48)) = true then
       if (decide ((a1.n.vrfs.length : Int) ≤ 16)) = true then
        some (decide ((a1.n.irbs.length : Int) ≤ 48))
       else
        some false
      else
       some false
     else
      some false
    else
     some false
   else
    some false
  else
   some false
 else
  some false

def names_place_Device (a1 : List Api_Device) (a2 : Int) : Option (Bool) :=
 if (decide (a2 ≥ 0)) = true then
  some (decide (a2 < (a1.length : Int)))
 else
  some false

def names_judge_domain_1 (a1 : Api_Domain) (a2 : Int) (a3 : Int) : Option (Bool) :=
 if (a1.dev == a2) = true then
  some (a1.vlan == a3)
 else
  some false

def slices_IndexFunc_Domain_judge_domain_1_L1 (a1 : List Api_Domain) (a2 : Int) (a3 : Int) (v4 : Int) : Option ((Int) ⊕ (Int ⊕ Unit)) :=
 if (decide (v4 < (a1.length : Int))) = true then
  (nth a1 v4).bind fun x6 =>
  (names_judge_domain_1 x6 a2 a3).bind fun r8 =>
  if (r8) = true then
   some (Sum.inr (Sum.inl v4))
  else
   some (Sum.inl (wr_i64 (v4 + 1)))
 else
  some (Sum.inr (Sum.inr ()))

def slices_IndexFunc_Domain_judge_domain_1 (a1 : List Api_Domain) (a2 : Int) (a3 : Int) : Option (Int) :=
 (loopM (slices_IndexFunc_Domain_judge_domain_1_L1 a1 a2 a3) 0).bind fun r14 => match r14 with
 | Sum.inl v12 =>
  some v12
 | Sum.inr () =>
  some (-1)

def names_judge_domain (a1 : Names_judge) (a2 : Int) (a3 : Int) : Option (Int) :=
 (slices_IndexFunc_Domain_judge_domain_1 a1.n.domains a2 a3).bind fun r4 =>
 some r4

def names_place_Irb (a1 : List Api_Irb) (a2 : Int) : Option (Bool) :=
 if (decide (a2 ≥ 0)) = true then
  some (decide (a2 < (a1.length : Int)))
 else
  some false

def names_judge_bare (a1 : Names_judge) (a2 : Int) (a3 : Api_Domain) : Option (Bool) :=
 (names_place_Device a1.n.devices a3.dev).bind fun r4 =>
 if (r4) = true then
  if (decide (a3.vlan ≥ 1)) = true then
   if (decide (a3.vlan ≤ 4094)) = true then
    if (decide (a3.vni ≥ 0)) = true then
     if (decide (a3.vni ≤ 16777215)) = true then
      if (a3.irb == (-1)) = true then
       (names_judge_domain a1 a3.dev a3.vlan).bind fun r12 =>
       some (r12 == a2)
      else
       (names_place_Irb a1.n.irbs a3.irb).bind fun r14 =>
       if (r14) = true then
        (nth a1.n.irbs a3.irb).bind fun x17 =>
        if (x17.domain == a2) = true then
         (names_judge_domain a1 a3.dev a3.vlan).bind fun r20 =>
         some (r20 == a2)
        else
         some false
       else
        some false
     else
      some false
    else
     some false
   else
    some false
  else
   some false
 else
  some false

def names_all_Domain_judge_bare_L1 (a1 : List Api_Domain) (a2 : Names_judge) (v3 : Int) : Option ((Int) ⊕ (Unit ⊕ Unit)) :=
 if (decide (v3 < (a1.length : Int))) = true then
  (nth a1 v3).bind fun x5 =>
  (names_judge_bare a2 v3 x5).bind fun r7 =>
  if (!r7) = true then
   some (Sum.inr (Sum.inl ()))
  else
   some (Sum.inl (wr_i64 (v3 + 1)))
 else
  some (Sum.inr (Sum.inr ()))

def names_all_Domain_judge_bare (a1 : List Api_Domain) (a2 : Names_judge) : Option (Bool) :=
 (loopM (names_all_Domain_judge_bare_L1 a1 a2) 0).bind fun r11 => match r11 with
 | Sum.inl () =>
  some false
 | Sum.inr () =>
  some true

def names_place_Domain (a1 : List Api_Domain) (a2 : Int) : Option (Bool) :=
 if (decide (a2 ≥ 0)) = true then
  some (decide (a2 < (a1.length : Int)))
 else
  some false

def names_judge_vtep (a1 : Names_judge) (a2 : Api_Domain) : Option (Bool) :=
 (nth a1.n.devices a2.dev).bind fun x3 =>
 some (x3.vtep != 0)

def names_judge_peer (a1 : Names_judge) (a2 : Int) (a3 : Api_Domain) (a4 : Int) : Option (Bool) :=
 (names_place_Domain a1.n.domains a4).bind fun r5 =>
 if (!r5) = true then
  some false
 else
  if (a4 == a2) = true then
   some false
  else
   (nth a1.n.domains a4).bind fun x9 =>
   (names_place_Device a1.n.devices x9.dev).bind fun r11 =>
   if (r11) = true then
    if (x9.dev != a3.dev) = true then
     if (x9.vni == a3.vni) = true then
      if (a3.vni != 0) = true then
       (names_judge_vtep a1 x9).bind fun r17 =>
       if (r17) = true then
        (names_judge_vtep a1 a3).bind fun r20 =>
        if (r20) = true then
         (slices_Contains_int x9.peers a2).bind fun r23 =>
         some r23
        else
         some false
       else
        some false
      else
       some false
     else
      some false
    else
     some false
   else
    some false

def names_judge_peers_1 (a1 : Int) (a2 : Int) (a3 : Names_judge) (a4 : Int) (a5 : Api_Domain) : Option (Bool) :=
 (names_judge_peer a3 a4 a5 a2).bind fun r6 =>
 if (r6) = true then
  (slices_Index_int a5.peers a2).bind fun r9 =>
  some (r9 == a1)
 else
  some false

def names_all_int_judge_peers_1_L1 (a1 : List Int) (a2 : Names_judge) (a3 : Int) (a4 : Api_Domain) (v5 : Int) : Option ((Int) ⊕ (Unit ⊕ Unit)) :=
 if (decide (v5 < (a1.length : Int))) = true then
  (nth a1 v5).bind fun x7 =>
  (names_judge_peers_1 v5 x7 a2 a3 a4).bind fun r9 =>
  if (!r9) = true then
   some (Sum.inr (Sum.inl ()))
  else
   some (Sum.inl (wr_i64 (v5 + 1)))
 else
  some (Sum.inr (Sum.inr ()))

def names_all_int_judge_peers_1 (a1 : List Int) (a2 : Names_judge) (a3 : Int) (a4 : Api_Domain) : Option (Bool) :=
 (loopM (names_all_int_judge_peers_1_L1 a1 a2 a3 a4) 0).bind fun r13 => match r13 with
 | Sum.inl () =>
  some false
 | Sum.inr () =>
  some true

def names_judge_peers (a1 : Names_judge) (a2 : Int) (a3 : Api_Domain) : Option (Bool) :=
 (names_all_int_judge_peers_1 a3.peers a1 a2 a3).bind fun r4 =>
 some r4

def names_all_Domain_judge_peers_L1 (a1 : List Api_Domain) (a2 : Names_judge) (v3 : Int) : Option ((Int) ⊕ (Unit ⊕ Unit)) :=
 if (decide (v3 < (a1.length : Int))) = true then
  (nth a1 v3).bind fun x5 =>
  (names_judge_peers a2 v3 x5).bind fun r7 =>
  if (!r7) = true then
   some (Sum.inr (Sum.inl ()))
  else
   some (Sum.inl (wr_i64 (v3 + 1)))
 else
  some (Sum.inr (Sum.inr ()))

def names_all_Domain_judge_peers (a1 : List Api_Domain) (a2 : Names_judge) : Option (Bool) :=
 (loopM (names_all_Domain_judge_peers_L1 a1 a2) 0).bind fun r11 => match r11 with
 | Sum.inl () =>
  some false
 | Sum.inr () =>
  some true

def names_rising (a1 : List Int) (a2 : Int) : Option (Bool) :=
 if ((a1.length : Int) == 0) = true then
  some true
 else
  (num_Rising a1 1 a2).bind fun r4 =>
  some r4

def names_place_Link (a1 : List Api_Link) (a2 : Int) : Option (Bool) :=
 if (decide (a2 ≥ 0)) = true then
  some (decide (a2 < (a1.length : Int)))
 else
  some false

def names_judge_port_J1 (a1 : Names_judge) (a2 : Int) (a3 : Api_Port) : Option (Unit ⊕ Unit) :=
 (names_place_Device a1.n.devices a3.dev).bind fun r4 =>
 if (!r4) = true then
  some (Sum.inl ())
 else
  if (decide (a3.native < 0)) = true then
   some (Sum.inl ())
  else
   if (decide (a3.native > 4094)) = true then
    some (Sum.inl ())
   else
    (names_rising a3.tagged 4094).bind fun r9 =>
    if (!r9) = true then
     some (Sum.inl ())
    else
     (slices_Contains_int a3.tagged a3.native).bind fun r12 =>
     if (r12) = true then
      some (Sum.inl ())
     else
      if (a3.native == 0) = true then
       if ((a3.tagged.length : Int) == 0) = true then
        some (Sum.inl ())
       else
        some (Sum.inr ())
      else
       some (Sum.inr ())

def names_judge_port_L2 (a1 : Names_judge) (a2 : Int) (a3 : Api_Port) (v19 : Int) : Option ((Int) ⊕ (Unit ⊕ Unit)) :=
 if (decide (v19 < (a3.tagged.length : Int))) = true then
  (nth a3.tagged v19).bind fun x21 =>
  (names_judge_domain a1 a3.dev x21).bind fun r23 =>
  if (decide (r23 < 0)) = true then
   some (Sum.inr (Sum.inl ()))
  else
   some (Sum.inl (wr_i64 (v19 + 1)))
 else
  some (Sum.inr (Sum.inr ()))

def names_judge_port_J3 (a1 : Names_judge) (a2 : Int) (a3 : Api_Port) : Option (Unit ⊕ Unit) :=
 if (decide (a3.native > 0)) = true then
  (names_judge_domain a1 a3.dev a3.native).bind fun r29 =>
  if (decide (r29 < 0)) = true then
   some (Sum.inl ())
  else
   some (Sum.inr ())
 else
  some (Sum.inr ())

def names_judge_port (a1 : Names_judge) (a2 : Int) (a3 : Api_Port) : Option (Bool) :=
 (names_judge_port_J1 a1 a2 a3).bind fun r18 => match r18 with
 | Sum.inl () =>
  some false
 | Sum.inr () =>
  (loopM (names_judge_port_L2 a1 a2 a3) 0).bind fun r27 => match r27 with
  | Sum.inl () =>
   some false
  | Sum.inr () =>
   (names_judge_port_J3 a1 a2 a3).bind fun r33 => match r33 with
   | Sum.inl () =>
    some false
   | Sum.inr () =>
    if (a3.link == (-1)) = true then
     some true
    else
     (names_place_Link a1.n.links a3.link).bind fun r35 =>
     if (r35) = true then
      (nth a1.n.links a3.link).bind fun x38 =>
      if (x38.a == a2) = true then
       some true
      else
       (nth a1.n.links a3.link).bind fun x41 =>
       some (x41.b == a2)
     else
      some false

def names_all_Port_judge_port_L1 (a1 : List Api_Port) (a2 : Names_judge) (v3 : Int) : Option ((Int) ⊕ (Unit ⊕ Unit)) :=
 if (decide (v3 < (a1.length : Int))) = true then
  (nth a1 v3).bind fun x5 =>
  (names_judge_port a2 v3 x5).bind fun r7 =>
  if (!r7) = true then
   some (Sum.inr (Sum.inl ()))
  else
   some (Sum.inl (wr_i64 (v3 + 1)))
 else
  some (Sum.inr (Sum.inr ()))

def names_all_Port_judge_port (a1 : List Api_Port) (a2 : Names_judge) : Option (Bool) :=
 (loopM (names_all_Port_judge_port_L1 a1 a2) 0).bind fun r11 => match r11 with
 | Sum.inl () =>
  some false
 | Sum.inr () =>
  some true

def names_place_Port (a1 : List Api_Port) (a2 : Int) : Option (Bool) :=
 if (decide (a2 ≥ 0)) = true then
  some (decide (a2 < (a1.length : Int)))
 else
  some false

def names_judge_link (a1 : Names_judge) (a2 : Int) (a3 : Api_Link) : Option (Bool) :=
 (names_place_Port a1.n.ports a3.a).bind fun r4 =>
 if (!r4) = true then
  some false
 else
  (names_place_Port a1.n.ports a3.b).bind fun r7 =>
  if (!r7) = true then
   some false
  else
   (nth a1.n.ports a3.a).bind fun x10 =>
   (nth a1.n.ports a3.b).bind fun x12 =>
   if (x10.dev != x12.dev) = true then
    if (x10.link == a2) = true then
     some (x12.link == a2)
    else
     some false
   else
    some false

def names_all_Link_judge_link_L1 (a1 : List Api_Link) (a2 : Names_judge) (v3 : Int) : Option ((Int) ⊕ (Unit ⊕ Unit)) :=
 if (decide (v3 < (a1.length : Int))) = true then
  (nth a1 v3).bind fun x5 =>
  (names_judge_link a2 v3 x5).bind fun r7 =>
  if (!r7) = true then
   some (Sum.inr (Sum.inl ()))
  else
   some (Sum.inl (wr_i64 (v3 + 1)))
 else
  some (Sum.inr (Sum.inr ()))

def names_all_Link_judge_link (a1 : List Api_Link) (a2 : Names_judge) : Option (Bool) :=
 (loopM (names_all_Link_judge_link_L1 a1 a2) 0).bind fun r11 => match r11 with
 | Sum.inl () =>
  some false
 | Sum.inr () =>
  some true

def names_Member (a1 : Api_Port) (a2 : Int) : Option (Bool) :=
 if (a2 != 0) = true then
  if (a2 == a1.native) = true then
   some true
  else
   (slices_Contains_int a1.tagged a2).bind fun r5 =>
   some r5
 else
  some false

def names_judge_static (a1 : Names_judge) (a2 : Int) (a3 : Api_Static) : Option (Bool) :=
 (names_place_Domain a1.n.domains a3.domain).bind fun r4 =>
 if (!r4) = true then
  some false
 else
  (names_place_Port a1.n.ports a3.port).bind fun r7 =>
  if (!r7) = true then
   some false
  else
   (nth a1.n.ports a3.port).bind fun x10 =>
   (nth a1.n.domains a3.domain).bind fun x12 =>
   if (x10.dev == x12.dev) = true then
    (names_Member x10 x12.vlan).bind fun r15 =>
    some r15
   else
    some false

def names_all_Static_judge_static_L1 (a1 : List Api_Static) (a2 : Names_judge) (v3 : Int) : Option ((Int) ⊕ (Unit ⊕ Unit)) :=
 if (decide (v3 < (a1.length : Int))) = true then
  (nth a1 v3).bind fun x5 =>
  (names_judge_static a2 v3 x5).bind fun r7 =>
  if (!r7) = true then
   some (Sum.inr (Sum.inl ()))
  else
   some (Sum.inl (wr_i64 (v3 + 1)))
 else
  some (Sum.inr (Sum.inr ()))

def names_all_Static_judge_static (a1 : List Api_Static) (a2 : Names_judge) : Option (Bool) :=
 (loopM (names_all_Static_judge_static_L1 a1 a2) 0).bind fun r11 => match r11 with
 | Sum.inl () =>
  some false
 | Sum.inr () =>
  some true

def names_Right_1 (a1 : Int) (a2 : Api_Flood) (a3 : Api_Net) : Option (Bool) :=
 (names_place_Device a3.devices a2.dev).bind fun r4 =>
 if (r4) = true then
  some (decide ((a2.addrs.length : Int) ≤ 16))
 else
  some false

def names_all_Flood_Right_1_L1 (a1 : List Api_Flood) (a2 : Api_Net) (v3 : Int) : Option ((Int) ⊕ (Unit ⊕ Unit)) :=
 if (decide (v3 < (a1.length : Int))) = true then
  (nth a1 v3).bind fun x5 =>
  (names_Right_1 v3 x5 a2).bind fun r7 =>
  if (!r7) = true then
   some (Sum.inr (Sum.inl ()))
  else
   some (Sum.inl (wr_i64 (v3 + 1)))
 else
  some (Sum.inr (Sum.inr ()))

def names_all_Flood_Right_1 (a1 : List Api_Flood) (a2 : Api_Net) : Option (Bool) :=
 (loopM (names_all_Flood_Right_1_L1 a1 a2) 0).bind fun r11 => match r11 with
 | Sum.inl () =>
  some false
 | Sum.inr () =>
  some true

def names_Right_2 (a1 : Int) (a2 : Api_Vrf) (a3 : Api_Net) : Option (Bool) :=
 (names_place_Device a3.devices a2.dev).bind fun r4 =>
 if (r4) = true then
  (names_rising a2.imports 65535).bind fun r7 =>
  if (r7) = true then
   (names_rising a2.exports 65535).bind fun r10 =>
   some r10
  else
   some false
 else
  some false

def names_all_Vrf_Right_2_L1 (a1 : List Api_Vrf) (a2 : Api_Net) (v3 : Int) : Option ((Int) ⊕ (Unit ⊕ Unit)) :=
 if (decide (v3 < (a1.length : Int))) = true then
  (nth a1 v3).bind fun x5 =>
  (names_Right_2 v3 x5 a2).bind fun r7 =>
  if (!r7) = true then
   some (Sum.inr (Sum.inl ()))
  else
   some (Sum.inl (wr_i64 (v3 + 1)))
 else
  some (Sum.inr (Sum.inr ()))

def names_all_Vrf_Right_2 (a1 : List Api_Vrf) (a2 : Api_Net) : Option (Bool) :=
 (loopM (names_all_Vrf_Right_2_L1 a1 a2) 0).bind fun r11 => match r11 with
 | Sum.inl () =>
  some false
 | Sum.inr () =>
  some true

def names_place_Vrf (a1 : List Api_Vrf) (a2 : Int) : Option (Bool) :=
 if (decide (a2 ≥ 0)) = true then
  some (decide (a2 < (a1.length : Int)))
 else
  some false

def names_judge_irb (a1 : Names_judge) (a2 : Int) (a3 : Api_Irb) : Option (Bool) :=
 (names_place_Domain a1.n.domains a3.domain).bind fun r4 =>
 if (r4) = true then
  (names_place_Vrf a1.n.vrfs a3.vrf).bind fun r7 =>
  if (r7) = true then
   (nth a1.n.domains a3.domain).bind fun x10 =>
   (nth a1.n.vrfs a3.vrf).bind fun x12 =>
   if (x10.dev == x12.dev) = true then
    (nth a1.n.domains a3.domain).bind fun x15 =>
    if (x15.irb == a2) = true then
     if (decide (a3.net.bits ≥ 1)) = true then
      some (decide (a3.net.bits ≤ 30))
     else
      some false
    else
     some false
   else
    some false
  else
   some false
 else
  some false

def names_all_Irb_judge_irb_L1 (a1 : List Api_Irb) (a2 : Names_judge) (v3 : Int) : Option ((Int) ⊕ (Unit ⊕ Unit)) :=
 if (decide (v3 < (a1.length : Int))) = true then
  (nth a1 v3).bind fun x5 =>
  (names_judge_irb a2 v3 x5).bind fun r7 =>
  if (!r7) = true then
   some (Sum.inr (Sum.inl ()))
  else
   some (Sum.inl (wr_i64 (v3 + 1)))
 else
  some (Sum.inr (Sum.inr ()))

def names_all_Irb_judge_irb (a1 : List Api_Irb) (a2 : Names_judge) : Option (Bool) :=
 (loopM (names_all_Irb_judge_irb_L1 a1 a2) 0).bind fun r11 => match r11 with
 | Sum.inl () =>
  some false
 | Sum.inr () =>
  some true

def names_Right (a1 : Api_Net) : Option (Bool) :=
 (names_judge_few (⟨a1⟩ : Names_judge)).bind fun r2 =>
 if (r2) = true then
  (names_all_Domain_judge_bare a1.domains (⟨a1⟩ : Names_judge)).bind fun r5 =>
  if (r5) = true then
   (names_all_Domain_judge_peers a1.domains (⟨a1⟩ : Names_judge)).bind fun r8 =>
   if (r8) = true then
    (names_all_Port_judge_port a1.ports (⟨a1⟩ : Names_judge)).bind fun r11 =>
    if (r11) = true then
     (names_all_Link_judge_link a1.links (⟨a1⟩ : Names_judge)).bind fun r14 =>
     if (r14) = true then
      (names_all_Static_judge_static a1.statics (⟨a1⟩ : Names_judge)).bind fun r17 =>
      if (r17) = true then
       (names_all_Flood_Right_1 a1.floods a1).bind fun r20 =>
       if (r20) = true then
        (names_all_Vrf_Right_2 a1.vrfs a1).bind fun r23 =>
        if (r23) = true then
         (names_all_Irb_judge_irb a1.irbs (⟨a1⟩ : Names_judge)).bind fun r26 =>
         some r26
        else
         some false
       else
        some false
      else
       some false
     else
      some false
    else
     some false
   else
    some false
  else
   some false
 else
  some false

def names_Device_1 (a1 : Api_Device) (a2 : ByteArray) : Option (Bool) :=
 some (seqB a1.name a2)

def slices_IndexFunc_Device_Device_1_L1 (a1 : List Api_Device) (a2 : ByteArray) (v3 : Int) : Option ((Int) ⊕ (Int ⊕ Unit)) :=
 if (decide (v3 < (a1.length : Int))) = true then
  (nth a1 v3).bind fun x5 =>
  (names_Device_1 x5 a2).bind fun r7 =>
  if (r7) = true then
   some (Sum.inr (Sum.inl v3))
  else
   some (Sum.inl (wr_i64 (v3 + 1)))
 else
  some (Sum.inr (Sum.inr ()))

def slices_IndexFunc_Device_Device_1 (a1 : List Api_Device) (a2 : ByteArray) : Option (Int) :=
 (loopM (slices_IndexFunc_Device_Device_1_L1 a1 a2) 0).bind fun r13 => match r13 with
 | Sum.inl v11 =>
  some v11
 | Sum.inr () =>
  some (-1)

def names_find_Device_Device_1 (a1 : Api_Net) (a2 : List Api_Device) (a3 : ByteArray) : Option (Int) :=
 (names_Right a1).bind fun r4 =>
 if (!r4) = true then
  some (-1)
 else
  (slices_IndexFunc_Device_Device_1 a2 a3).bind fun r7 =>
  some r7

def names_Device (a1 : Api_Net) (a2 : ByteArray) : Option (Int) :=
 (names_find_Device_Device_1 a1 a1.devices a2).bind fun r3 =>
 some r3

def vrfs_begin (a1 : Api_Net) (a2 : Api_Line) (a3 : Int) : Option (Int × Int) :=
 if (a2.kind != a3) = true then
  some (0, 2)
 else
  (stmt_Right a2).bind fun r5 =>
  if (!r5) = true then
   some (0, 2)
  else
   (names_Right a1).bind fun r8 =>
   if (!r8) = true then
    some (0, 2)
   else
    (names_Device a1 a2.dev).bind fun r11 =>
    if (decide (r11 < 0)) = true then
     some (0, 31)
    else
     some (r11, 0)

def names_Vrf_1 (a1 : Api_Vrf) (a2 : Int) (a3 : ByteArray) : Option (Bool) :=
 if (a1.dev == a2) = true then
  some (seqB a1.name a3)
 else
  some false

def slices_IndexFunc_Vrf_Vrf_1_L1 (a1 : List Api_Vrf) (a2 : Int) (a3 : ByteArray) (v4 : Int) : Option ((Int) ⊕ (Int ⊕ Unit)) :=
 if (decide (v4 < (a1.length : Int))) = true then
  (nth a1 v4).bind fun x6 =>
  (names_Vrf_1 x6 a2 a3).bind fun r8 =>
  if (r8) = true then
   some (Sum.inr (Sum.inl v4))
  else
   some (Sum.inl (wr_i64 (v4 + 1)))
 else
  some (Sum.inr (Sum.inr ()))

def slices_IndexFunc_Vrf_Vrf_1 (a1 : List Api_Vrf) (a2 : Int) (a3 : ByteArray) : Option (Int) :=
 (loopM (slices_IndexFunc_Vrf_Vrf_1_L1 a1 a2 a3) 0).bind fun r14 => match r14 with
 | Sum.inl v12 =>
  some v12
 | Sum.inr () =>
  some (-1)

def names_find_Vrf_Vrf_1 (a1 : Api_Net) (a2 : List Api_Vrf) (a3 : Int) (a4 : ByteArray) : Option (Int) :=
 (names_Right a1).bind fun r5 =>
 if (!r5) = true then
  some (-1)
 else
  (slices_IndexFunc_Vrf_Vrf_1 a2 a3 a4).bind fun r8 =>
  some r8

def names_Vrf (a1 : Api_Net) (a2 : Int) (a3 : ByteArray) : Option (Int) :=
 (names_find_Vrf_Vrf_1 a1 a1.vrfs a2 a3).bind fun r4 =>
 some r4

def slices_Clone_Device (a1 : List Api_Device) : Option (List Api_Device) :=
 if roomy 48 a1 = true then some a1 else none

def slices_Clone_Port (a1 : List Api_Port) : Option (List Api_Port) :=
 if roomy 80 a1 = true then some a1 else none

def slices_Clone_Link (a1 : List Api_Link) : Option (List Api_Link) :=
 if roomy 24 a1 = true then some a1 else none

def slices_Clone_Domain (a1 : List Api_Domain) : Option (List Api_Domain) :=
 if roomy 64 a1 = true then some a1 else none

def slices_Clone_Static (a1 : List Api_Static) : Option (List Api_Static) :=
 if roomy 32 a1 = true then some a1 else none

def slices_Clone_Flood (a1 : List Api_Flood) : Option (List Api_Flood) :=
 if roomy 48 a1 = true then some a1 else none

def slices_Clone_Vrf (a1 : List Api_Vrf) : Option (List Api_Vrf) :=
 if roomy 80 a1 = true then some a1 else none

def slices_Clone_Irb (a1 : List Api_Irb) : Option (List Api_Irb) :=
 if roomy 40 a1 = true then some a1 else none

def slices_Clone_int (a1 : List Int) : Option (List Int) :=
 if roomy 8 a1 = true then some a1 else none

def slices_Clone_uint32 (a1 : List Int) : Option (List Int) :=
 if roomy 4 a1 = true then some a1 else none

def names_Copy_L1 (l4 : List Api_Device) (l7 : List Api_Port) (l10 : List Api_Link) (l13 : List Api_Domain) (l16 : List Api_Static) (l19 : List Api_Flood) (l22 : List Api_Vrf) (l25 : List Api_Irb) (l26 : List Api_Port) (v27 : Int) : Option (((List Api_Port) × Int) ⊕ ((List Api_Port))) :=
 if (decide (v27 < ((List.length l7) : Int))) = true then
  if (lin l26 v27) = true then
   (l26[(Int.toNat v27)]?).bind fun x30 =>
   (slices_Clone_int x30.tagged).bind fun r32 => match r32 with
   | l34 =>
    (l26[(Int.toNat v27)]?).bind fun x35 =>
    some (Sum.inl (List.set l26 (Int.toNat v27) (⟨x35.row, x35.dev, x35.native, x35.cost, x35.link, x35.name, l34⟩ : Api_Port), wr_i64 (v27 + 1)))
  else
   none
 else
  some (Sum.inr l26)

def names_Copy_L2 (l4 : List Api_Device) (l7 : List Api_Port) (l10 : List Api_Link) (l13 : List Api_Domain) (l16 : List Api_Static) (l19 : List Api_Flood) (l22 : List Api_Vrf) (l25 : List Api_Irb) (l39 : List Api_Port) (l42 : List Api_Domain) (v43 : Int) : Option (((List Api_Domain) × Int) ⊕ ((List Api_Domain))) :=
 if (decide (v43 < ((List.length l13) : Int))) = true then
  if (lin l42 v43) = true then
   (l42[(Int.toNat v43)]?).bind fun x46 =>
   (slices_Clone_int x46.peers).bind fun r48 => match r48 with
   | l50 =>
    (l42[(Int.toNat v43)]?).bind fun x51 =>
    some (Sum.inl (List.set l42 (Int.toNat v43) (⟨x51.dev, x51.vlan, x51.vni, x51.irb, x51.row, l50⟩ : Api_Domain), wr_i64 (v43 + 1)))
  else
   none
 else
  some (Sum.inr l42)

def names_Copy_L3 (l4 : List Api_Device) (l7 : List Api_Port) (l10 : List Api_Link) (l13 : List Api_Domain) (l16 : List Api_Static) (l19 : List Api_Flood) (l22 : List Api_Vrf) (l25 : List Api_Irb) (l39 : List Api_Port) (l55 : List Api_Domain) (l58 : List Api_Flood) (v59 : Int) : Option (((List Api_Flood) × Int) ⊕ ((List Api_Flood))) :=
 if (decide (v59 < ((List.length l19) : Int))) = true then
  if (lin l58 v59) = true then
   (l58[(Int.toNat v59)]?).bind fun x62 =>
   (slices_Clone_uint32 x62.addrs).bind fun r64 => match r64 with
   | l66 =>
    (l58[(Int.toNat v59)]?).bind fun x67 =>
    some (Sum.inl (List.set l58 (Int.toNat v59) (⟨x67.row, x67.dev, x67.vni, l66⟩ : Api_Flood), wr_i64 (v59 + 1)))
  else
   none
 else
  some (Sum.inr l58)

def names_Copy_L4 (l4 : List Api_Device) (l7 : List Api_Port) (l10 : List Api_Link) (l13 : List Api_Domain) (l16 : List Api_Static) (l19 : List Api_Flood) (l22 : List Api_Vrf) (l25 : List Api_Irb) (l39 : List Api_Port) (l55 : List Api_Domain) (l71 : List Api_Flood) (l74 : List Api_Vrf) (v75 : Int) : Option (((List Api_Vrf) × Int) ⊕ ((List Api_Vrf))) :=
 if (decide (v75 < ((List.length l22) : Int))) = true then
  if (lin l74 v75) = true then
   (l74[(Int.toNat v75)]?).bind fun x78 =>
   (slices_Clone_int x78.imports).bind fun r80 => match r80 with
   | l82 =>
    (l74[(Int.toNat v75)]?).bind fun x83 =>
    (slices_Clone_int x83.exports).bind fun r85 => match r85 with
    | l87 =>
     (l74[(Int.toNat v75)]?).bind fun x88 =>
     ((List.set l74 (Int.toNat v75) (⟨x88.row, x88.dev, x88.name, l82, x88.exports⟩ : Api_Vrf))[(Int.toNat v75)]?).bind fun x90 =>
     some (Sum.inl (List.set (List.set l74 (Int.toNat v75) (⟨x88.row, x88.dev, x88.name, l82, x88.exports⟩ : Api_Vrf)) (Int.toNat v75) (⟨x90.row, x90.dev, x90.name, x90.imports, l87⟩ : Api_Vrf), wr_i64 (v75 + 1)))
  else
   none
 else
  some (Sum.inr l74)

def names_Copy (a1 : Api_Net) : Option (((List Api_Device) × (List Api_Port) × (List Api_Link) × (List Api_Domain) × (List Api_Static) × (List Api_Flood) × (List Api_Vrf) × (List Api_Irb) × Nat × Nat × Nat × Nat)) :=
 (slices_Clone_Device a1.devices).bind fun r2 => match r2 with
 | l4 =>
  (slices_Clone_Port a1.ports).bind fun r5 => match r5 with
  | l7 =>
   (slices_Clone_Link a1.links).bind fun r8 => match r8 with
   | l10 =>
    (slices_Clone_Domain a1.domains).bind fun r11 => match r11 with
    | l13 =>
     (slices_Clone_Static a1.statics).bind fun r14 => match r14 with
     | l16 =>
      (slices_Clone_Flood a1.floods).bind fun r17 => match r17 with
      | l19 =>
       (slices_Clone_Vrf a1.vrfs).bind fun r20 => match r20 with
       | l22 =>
        (slices_Clone_Irb a1.irbs).bind fun r23 => match r23 with
        | l25 =>
         (loopM (fun s : (List Api_Port) × Int => match s with | (l26, v27) => names_Copy_L1 l4 l7 l10 l13 l16 l19 l22 l25 l26 v27) (l7, 0)).bind fun r41 => match r41 with
         | l39 =>
          (loopM (fun s : (List Api_Domain) × Int => match s with | (l42, v43) => names_Copy_L2 l4 l7 l10 l13 l16 l19 l22 l25 l39 l42 v43) (l13, 0)).bind fun r57 => match r57 with
          | l55 =>
           (loopM (fun s : (List Api_Flood) × Int => match s with | (l58, v59) => names_Copy_L3 l4 l7 l10 l13 l16 l19 l22 l25 l39 l55 l58 v59) (l19, 0)).bind fun r73 => match r73 with
           | l71 =>
            (loopM (fun s : (List Api_Vrf) × Int => match s with | (l74, v75) => names_Copy_L4 l4 l7 l10 l13 l16 l19 l22 l25 l39 l55 l71 l74 v75) (l22, 0)).bind fun r96 => match r96 with
            | l94 =>
             some (l4, l39, l10, l55, l16, l71, l94, l25, (List.length l7), (List.length l13), (List.length l19), (List.length l22))

def vrfs_Vrf (a1 : Api_Net) (a2 : Api_Line) : Option (((List Api_Device) × (List Api_Port) × (List Api_Link) × (List Api_Domain) × (List Api_Static) × (List Api_Flood) × (List Api_Vrf) × (List Api_Irb) × Nat × Nat × Nat × Int)) :=
 (vrfs_begin a1 a2 8).bind fun r3 =>
 if (r3.2 != 0) = true then
  some ([], [], [], [], [], [], [], [], 0, 0, 0, r3.2)
 else
  (names_Vrf a1 r3.1 a2.name).bind fun r6 =>
  if (decide (r6 ≥ 0)) = true then
   some ([], [], [], [], [], [], [], [], 0, 0, 0, 30)
  else
   if ((a1.vrfs.length : Int) == 16) = true then
    some ([], [], [], [], [], [], [], [], 0, 0, 0, 3)
   else
    (names_Copy a1).bind fun r10 => match r10 with
    | (l12, l13, l14, l15, l16, l17, l18, l19, n20, n21, n22, n23) =>
     (slices_Clone_int a2.imports).bind fun r24 => match r24 with
     | l26 =>
      (slices_Clone_int a2.exports).bind fun r27 => match r27 with
      | l29 =>
       if (roomy 80 (l18 ++ [(⟨a2.row, r3.1, a2.name, l26, l29⟩ : Api_Vrf)])) = true then
        some (l12, l13, l14, l15, l16, l17, l18 ++ [(⟨a2.row, r3.1, a2.name, l26, l29⟩ : Api_Vrf)], l19, n20, n21, n22, 0)
       else
        none

def names_Domain_1 (a1 : Api_Domain) (a2 : Int) (a3 : Int) : Option (Bool) :=
 if (a1.dev == a2) = true then
  some (a1.vlan == a3)
 else
  some false

def slices_IndexFunc_Domain_Domain_1_L1 (a1 : List Api_Domain) (a2 : Int) (a3 : Int) (v4 : Int) : Option ((Int) ⊕ (Int ⊕ Unit)) :=
 if (decide (v4 < (a1.length : Int))) = true then
  (nth a1 v4).bind fun x6 =>
  (names_Domain_1 x6 a2 a3).bind fun r8 =>
  if (r8) = true then
   some (Sum.inr (Sum.inl v4))
  else
   some (Sum.inl (wr_i64 (v4 + 1)))
 else
  some (Sum.inr (Sum.inr ()))

def slices_IndexFunc_Domain_Domain_1 (a1 : List Api_Domain) (a2 : Int) (a3 : Int) : Option (Int) :=
 (loopM (slices_IndexFunc_Domain_Domain_1_L1 a1 a2 a3) 0).bind fun r14 => match r14 with
 | Sum.inl v12 =>
  some v12
 | Sum.inr () =>
  some (-1)

def names_find_Domain_Domain_1 (a1 : Api_Net) (a2 : List Api_Domain) (a3 : Int) (a4 : Int) : Option (Int) :=
 (names_Right a1).bind fun r5 =>
 if (!r5) = true then
  some (-1)
 else
  (slices_IndexFunc_Domain_Domain_1 a2 a3 a4).bind fun r8 =>
  some r8

def names_Domain (a1 : Api_Net) (a2 : Int) (a3 : Int) : Option (Int) :=
 (names_find_Domain_Domain_1 a1 a1.domains a2 a3).bind fun r4 =>
 some r4

def addr_Has (a1 : Api_Prefix) (a2 : Int) : Option (Bool) :=
 (addr_Right a1).bind fun r3 =>
 if (r3) = true then
  (addr_rest a1).bind fun r6 =>
  some ((bits_andNot .u32 (bits_xor .u32 a1.addr a2) r6) == 0)
 else
  some false

def vrfs_clash (a1 : Api_Net) (a2 : Api_Irb) (a3 : Int) (a4 : Api_Prefix) : Option (Bool) :=
 (nth a1.vrfs a2.vrf).bind fun x5 =>
 if (a2.net.addr == a4.addr) = true then
  some true
 else
  if (x5.dev != a3) = true then
   (addr_Has a2.net a4.addr).bind fun r9 =>
   if (r9) = true then
    some true
   else
    (addr_Has a4 a2.net.addr).bind fun r12 =>
    some r12
  else
   some false

def vrfs_Irb_1 (a1 : Api_Irb) (a2 : Api_Net) (a3 : Int) (a4 : Api_Line) : Option (Bool) :=
 (vrfs_clash a2 a1 a3 (⟨a4.addr, a4.bits⟩ : Api_Prefix)).bind fun r5 =>
 some r5

def slices_IndexFunc_Irb_Irb_1_L1 (a1 : List Api_Irb) (a2 : Api_Net) (a3 : Int) (a4 : Api_Line) (v5 : Int) : Option ((Int) ⊕ (Int ⊕ Unit)) :=
 if (decide (v5 < (a1.length : Int))) = true then
  (nth a1 v5).bind fun x7 =>
  (vrfs_Irb_1 x7 a2 a3 a4).bind fun r9 =>
  if (r9) = true then
   some (Sum.inr (Sum.inl v5))
  else
   some (Sum.inl (wr_i64 (v5 + 1)))
 else
  some (Sum.inr (Sum.inr ()))

def slices_IndexFunc_Irb_Irb_1 (a1 : List Api_Irb) (a2 : Api_Net) (a3 : Int) (a4 : Api_Line) : Option (Int) :=
 (loopM (slices_IndexFunc_Irb_Irb_1_L1 a1 a2 a3 a4) 0).bind fun r15 => match r15 with
 | Sum.inl v13 =>
  some v13
 | Sum.inr () =>
  some (-1)

def slices_ContainsFunc_Irb_Irb_1 (a1 : List Api_Irb) (a2 : Api_Net) (a3 : Int) (a4 : Api_Line) : Option (Bool) :=
 (slices_IndexFunc_Irb_Irb_1 a1 a2 a3 a4).bind fun r5 =>
 some (decide (r5 ≥ 0))

def vrfs_Irb (a1 : Api_Net) (a2 : Api_Line) : Option (((List Api_Device) × (List Api_Port) × (List Api_Link) × (List Api_Domain) × (List Api_Static) × (List Api_Flood) × (List Api_Vrf) × (List Api_Irb) × Nat × Nat × Nat × Nat × Int)) :=
 (vrfs_begin a1 a2 9).bind fun r3 =>
 if (r3.2 != 0) = true then
  some ([], [], [], [], [], [], [], [], 0, 0, 0, 0, r3.2)
 else
  (names_Vrf a1 r3.1 a2.name).bind fun r6 =>
  (names_Domain a1 r3.1 a2.vlan).bind fun r8 =>
  if (decide (r6 < 0)) = true then
   some ([], [], [], [], [], [], [], [], 0, 0, 0, 0, 31)
  else
   if (decide (r8 < 0)) = true then
    some ([], [], [], [], [], [], [], [], 0, 0, 0, 0, 32)
   else
    (nth a1.domains r8).bind fun x12 =>
    if (decide (x12.irb ≥ 0)) = true then
     some ([], [], [], [], [], [], [], [], 0, 0, 0, 0, 37)
    else
     (slices_ContainsFunc_Irb_Irb_1 a1.irbs a1 r3.1 a2).bind fun r15 =>
     if (r15) = true then
      some ([], [], [], [], [], [], [], [], 0, 0, 0, 0, 37)
     else
      (names_Copy a1).bind fun r18 => match r18 with
      | (l20, l21, l22, l23, l24, l25, l26, l27, n28, n29, n30, n31) =>
       if (lin l23 r8) = true then
        (l23[(Int.toNat r8)]?).bind fun x33 =>
        if (roomy 40 (l27 ++ [(⟨a2.row, r8, r6, (⟨a2.addr, a2.bits⟩ : Api_Prefix)⟩ : Api_Irb)])) = true then
         some (l20, l21, l22, List.set l23 (Int.toNat r8) (⟨x33.dev, x33.vlan, x33.vni, ((List.length l27) : Int), x33.row, x33.peers⟩ : Api_Domain), l24, l25, l26, l27 ++ [(⟨a2.row, r8, r6, (⟨a2.addr, a2.bits⟩ : Api_Prefix)⟩ : Api_Irb)], n28, n29, n30, n31, 0)
        else
         none
       else
        none

def mac_Host (a1 : Int) : Option (Int) :=
 some (bits_or .u64 2199023255552 (wr_u64 a1))

def vrfs_Router (a1 : Api_Net) (a2 : Int) (a3 : Int) : Option (Int × Bool) :=
 if (decide (a2 < 0)) = true then
  some (0, false)
 else
  if (decide (a2 ≥ (a1.domains.length : Int))) = true then
   some (0, false)
  else
   (names_Right a1).bind fun r6 =>
   if (!r6) = true then
    some (0, false)
   else
    (nth a1.domains a2).bind fun x9 =>
    if (decide (x9.irb < 0)) = true then
     some (0, false)
    else
     (nth a1.irbs x9.irb).bind fun x12 =>
     (mac_Host x12.net.addr).bind fun r14 =>
     if (r14 != a3) = true then
      some (0, false)
     else
      some (x9.irb, true)

def vrfs_Leaks_1 (a1 : Int) (a2 : Api_Vrf) : Option (Bool) :=
 (slices_Contains_int a2.imports a1).bind fun r3 =>
 some r3

def slices_IndexFunc_int_Leaks_1_L1 (a1 : List Int) (a2 : Api_Vrf) (v3 : Int) : Option ((Int) ⊕ (Int ⊕ Unit)) :=
 if (decide (v3 < (a1.length : Int))) = true then
  (nth a1 v3).bind fun x5 =>
  (vrfs_Leaks_1 x5 a2).bind fun r7 =>
  if (r7) = true then
   some (Sum.inr (Sum.inl v3))
  else
   some (Sum.inl (wr_i64 (v3 + 1)))
 else
  some (Sum.inr (Sum.inr ()))

def slices_IndexFunc_int_Leaks_1 (a1 : List Int) (a2 : Api_Vrf) : Option (Int) :=
 (loopM (slices_IndexFunc_int_Leaks_1_L1 a1 a2) 0).bind fun r13 => match r13 with
 | Sum.inl v11 =>
  some v11
 | Sum.inr () =>
  some (-1)

def slices_ContainsFunc_int_Leaks_1 (a1 : List Int) (a2 : Api_Vrf) : Option (Bool) :=
 (slices_IndexFunc_int_Leaks_1 a1 a2).bind fun r3 =>
 some (decide (r3 ≥ 0))

def vrfs_Leaks (a1 : Api_Net) (a2 : Int) (a3 : Int) : Option (Bool) :=
 if (decide (a2 < 0)) = true then
  some false
 else
  if (decide (a3 < 0)) = true then
   some false
  else
   if (decide (a2 ≥ (a1.vrfs.length : Int))) = true then
    some false
   else
    if (decide (a3 ≥ (a1.vrfs.length : Int))) = true then
     some false
    else
     (names_Right a1).bind fun r8 =>
     if (!r8) = true then
      some false
     else
      (nth a1.vrfs a2).bind fun x11 =>
      (nth a1.vrfs a3).bind fun x13 =>
      if (a2 == a3) = true then
       some true
      else
       if (x11.dev == x13.dev) = true then
        (slices_ContainsFunc_int_Leaks_1 x11.exports x13).bind fun r17 =>
        some r17
       else
        some false

def palinglaw20_works : Option (Bool) :=
 (vrfs_Vrf (⟨[(⟨0, 0, (⟨#[97]⟩ : ByteArray), 0, 0⟩ : Api_Device)], [], [], [(⟨0, 10, 0, (-1), 0, []⟩ : Api_Domain)], [], [], [(⟨0, 0, (⟨#[114, 101, 100]⟩ : ByteArray), [], [(1 : Int)]⟩ : Api_Vrf)], []⟩ : Api_Net) (⟨0, 8, (⟨#[97]⟩ : ByteArray), (⟨#[]⟩ : ByteArray), (⟨#[]⟩ : ByteArray), (⟨#[]⟩ : ByteArray), (⟨#[98, 108, 117, 101]⟩ : ByteArray), 0, 0, 0, 0, 0, 0, [], [(1 : Int)], [], []⟩ : Api_Line)).bind fun r1 => match r1 with
 | (l3, l4, l5, l6, l7, l8, l9, l10, n11, n12, n13, v14) =>
  (vrfs_Irb (⟨l3, l4, l5, l6, l7, l8, l9, l10⟩ : Api_Net) (⟨0, 9, (⟨#[97]⟩ : ByteArray), (⟨#[]⟩ : ByteArray), (⟨#[]⟩ : ByteArray), (⟨#[]⟩ : ByteArray), (⟨#[114, 101, 100]⟩ : ByteArray), 0, 167772161, 24, 10, 0, 0, [], [], [], []⟩ : Api_Line)).bind fun r15 => match r15 with
  | (l17, l18, l19, l20, l21, l22, l23, l24, n25, n26, n27, n28, v29) =>
   (mac_Host 167772161).bind fun r30 =>
   (vrfs_Router (⟨l17, l18, l19, l20, l21, l22, l23, l24⟩ : Api_Net) 0 r30).bind fun r32 =>
   (vrfs_Vrf (⟨l3, l4, l5, l6, l7, l8, l9, l10⟩ : Api_Net) (⟨0, 8, (⟨#[97]⟩ : ByteArray), (⟨#[]⟩ : ByteArray), (⟨#[]⟩ : ByteArray), (⟨#[]⟩ : ByteArray), (⟨#[98, 108, 117, 101]⟩ : ByteArray), 0, 0, 0, 0, 0, 0, [], [], [], []⟩ : Api_Line)).bind fun r34 => match r34 with
   | (l36, l37, l38, l39, l40, l41, l42, l43, n44, n45, n46, v47) =>
    if (v14 == 0) = true then
     (vrfs_Leaks (⟨l3, l4, l5, l6, l7, l8, l9, l10⟩ : Api_Net) 0 1).bind fun r49 =>
     if (r49) = true then
      (vrfs_Leaks (⟨l3, l4, l5, l6, l7, l8, l9, l10⟩ : Api_Net) 1 0).bind fun r52 =>
      if (!r52) = true then
       if (v29 == 0) = true then
        if (r32.2) = true then
         if (r32.1 == 0) = true then
          some (v47 == 30)
         else
          some false
        else
         some false
       else
        some false
      else
       some false
     else
      some false
    else
     some false

def palingref03_digits_L1 (v2 : Int) (v3 : ByteArray) : Option ((Int × ByteArray) ⊕ ((Int × ByteArray))) :=
 if (decide (v2 ≥ 10)) = true then
  if (sadok (bstr [(wr_u8 (wr_u64 (48 + (Int.tmod v2 10))) : Int)]) v3) = true then
   some (Sum.inl (wr_u64 (Int.tdiv v2 10), (bstr [(wr_u8 (wr_u64 (48 + (Int.tmod v2 10))) : Int)]) ++ v3))
  else
   none
 else
  some (Sum.inr (v2, v3))

def palingref03_digits (a1 : Int) : Option (ByteArray) :=
 (loopM (fun s : Int × ByteArray => match s with | (v2, v3) => palingref03_digits_L1 v2 v3) (a1, (⟨#[]⟩ : ByteArray))).bind fun r11 => match r11 with
 | (v8, v9) =>
  if (sadok (bstr [(wr_u8 (wr_u64 (48 + v8)) : Int)]) v9) = true then
   some ((bstr [(wr_u8 (wr_u64 (48 + v8)) : Int)]) ++ v9)
  else
   none

def palingref03_Text (a1 : Int) : Option (ByteArray) :=
 if (decide (a1 < 0)) = true then
  (palingref03_digits (wr_u64 ((wr_u64 (wr_i64 (0 - (wr_i64 (a1 + 1))))) + 1))).bind fun r3 =>
  if (sadok (⟨#[45]⟩ : ByteArray) r3) = true then
   some ((⟨#[45]⟩ : ByteArray) ++ r3)
  else
   none
 else
  (palingref03_digits (wr_u64 a1)).bind fun r6 =>
  some r6

def palingref01_Bytes_L2 (a1 : Int) (l2 : List Int) (v3 : Int) (v5 : Int) (v6 : Int) : Option ((Int × Int) ⊕ (Int)) :=
 if (decide (v6 < v3)) = true then
  some (Sum.inl (wr_u64 (Int.tdiv v5 256), wr_i64 (v6 + 1)))
 else
  some (Sum.inr v5)

def palingref01_Bytes_L1 (a1 : Int) (l2 : List Int) (v3 : Int) : Option (((List Int) × Int) ⊕ ((List Int))) :=
 if (decide (v3 ≥ 0)) = true then
  (loopM (fun s : Int × Int => match s with | (v5, v6) => palingref01_Bytes_L2 a1 l2 v3 v5 v6) (a1, 0)).bind fun r11 => match r11 with
  | v9 =>
   if (roomy 1 (l2 ++ [(wr_u8 (Int.tmod v9 256) : Int)])) = true then
    some (Sum.inl (l2 ++ [(wr_u8 (Int.tmod v9 256) : Int)], wr_i64 (v3 - 1)))
   else
    none
 else
  some (Sum.inr l2)

def palingref01_Bytes (a1 : Int) : Option (((List Int))) :=
 (loopM (fun s : (List Int) × Int => match s with | (l2, v3) => palingref01_Bytes_L1 a1 l2 v3) ([], 5)).bind fun r17 => match r17 with
 | l15 =>
  some l15

def palingref01_Text_J2 (l4 : List Int) (v5 : ByteArray) (v6 : Int) : Option (ByteArray) :=
 if (decide (v6 > 0)) = true then
  if (sadok v5 (⟨#[58]⟩ : ByteArray)) = true then
   some (v5 ++ (⟨#[58]⟩ : ByteArray))
  else
   none
 else
  some v5

def palingref01_Text_L1 (l4 : List Int) (v5 : ByteArray) (v6 : Int) : Option ((ByteArray × Int) ⊕ (ByteArray)) :=
 if (decide (v6 < 6)) = true then
  (palingref01_Text_J2 l4 v5 v6).bind fun r13 => match r13 with
  | v11 =>
   if (lin l4 v6) = true then
    (l4[(Int.toNat v6)]?).bind fun x15 =>
    (l4[(Int.toNat v6)]?).bind fun x17 =>
    if (slok ((⟨#[48, 49, 50, 51, 52, 53, 54, 55, 56, 57, 97, 98, 99, 100, 101, 102]⟩ : ByteArray).size) (wr_u8 (Int.tdiv x15 16)) (wr_u8 ((wr_u8 (Int.tdiv x17 16)) + 1))) = true then
     if (sadok v11 (ByteArray.extract (⟨#[48, 49, 50, 51, 52, 53, 54, 55, 56, 57, 97, 98, 99, 100, 101, 102]⟩ : ByteArray) (Int.toNat (wr_u8 (Int.tdiv x15 16))) (Int.toNat (wr_u8 ((wr_u8 (Int.tdiv x17 16)) + 1))))) = true then
      (l4[(Int.toNat v6)]?).bind fun x21 =>
      (l4[(Int.toNat v6)]?).bind fun x23 =>
      if (slok ((⟨#[48, 49, 50, 51, 52, 53, 54, 55, 56, 57, 97, 98, 99, 100, 101, 102]⟩ : ByteArray).size) (Int.tmod x21 16) (wr_u8 ((Int.tmod x23 16) + 1))) = true then
       if (sadok (v11 ++ (ByteArray.extract (⟨#[48, 49, 50, 51, 52, 53, 54, 55, 56, 57, 97, 98, 99, 100, 101, 102]⟩ : ByteArray) (Int.toNat (wr_u8 (Int.tdiv x15 16))) (Int.toNat (wr_u8 ((wr_u8 (Int.tdiv x17 16)) + 1))))) (ByteArray.extract (⟨#[48, 49, 50, 51, 52, 53, 54, 55, 56, 57, 97, 98, 99, 100, 101, 102]⟩ : ByteArray) (Int.toNat (Int.tmod x21 16)) (Int.toNat (wr_u8 ((Int.tmod x23 16) + 1))))) = true then
        some (Sum.inl ((v11 ++ (ByteArray.extract (⟨#[48, 49, 50, 51, 52, 53, 54, 55, 56, 57, 97, 98, 99, 100, 101, 102]⟩ : ByteArray) (Int.toNat (wr_u8 (Int.tdiv x15 16))) (Int.toNat (wr_u8 ((wr_u8 (Int.tdiv x17 16)) + 1))))) ++ (ByteArray.extract (⟨#[48, 49, 50, 51, 52, 53, 54, 55, 56, 57, 97, 98, 99, 100, 101, 102]⟩ : ByteArray) (Int.toNat (Int.tmod x21 16)) (Int.toNat (wr_u8 ((Int.tmod x23 16) + 1)))), wr_i64 (v6 + 1)))
       else
        none
      else
       none
     else
      none
    else
     none
   else
    none
 else
  some (Sum.inr v5)

def palingref01_Text (a1 : Int) : Option (ByteArray) :=
 (palingref01_Bytes a1).bind fun r2 => match r2 with
 | l4 =>
  (loopM (fun s : ByteArray × Int => match s with | (v5, v6) => palingref01_Text_L1 l4 v5 v6) ((⟨#[]⟩ : ByteArray), 0)).bind fun r30 => match r30 with
  | v28 =>
   some v28

def palingref03_ListText_L1 (a1 : List Int) (v2 : ByteArray) (v3 : Int) : Option ((ByteArray × Int) ⊕ (ByteArray)) :=
 if (decide (v3 < (a1.length : Int))) = true then
  if (decide (v3 > 0)) = true then
   if (sadok v2 (⟨#[44]⟩ : ByteArray)) = true then
    (nth a1 v3).bind fun x7 =>
    (palingref03_Text x7).bind fun r9 =>
    if (sadok (v2 ++ (⟨#[44]⟩ : ByteArray)) r9) = true then
     some (Sum.inl ((v2 ++ (⟨#[44]⟩ : ByteArray)) ++ r9, wr_i64 (v3 + 1)))
    else
     none
   else
    none
  else
   (nth a1 v3).bind fun x12 =>
   (palingref03_Text x12).bind fun r14 =>
   if (sadok v2 r14) = true then
    some (Sum.inl (v2 ++ r14, wr_i64 (v3 + 1)))
   else
    none
 else
  some (Sum.inr v2)

def palingref03_ListText (a1 : List Int) : Option (ByteArray) :=
 (loopM (fun s : ByteArray × Int => match s with | (v2, v3) => palingref03_ListText_L1 a1 v2 v3) ((⟨#[]⟩ : ByteArray), 0)).bind fun r20 => match r20 with
 | v18 =>
  some v18

def palingref11_spell (a1 : List Int) : Option (ByteArray) :=
 if ((a1.length : Int) == 0) = true then
  some (⟨#[45]⟩ : ByteArray)
 else
  (palingref03_ListText a1).bind fun r3 =>
  some r3

def palingref02_number_L1 (v2 : Int) (v3 : ByteArray) : Option ((Int × ByteArray) ⊕ ((Int × ByteArray))) :=
 if (decide (v2 ≥ 10)) = true then
  if (sadok (bstr [(wr_u8 (wr_i64 (48 + (Int.tmod v2 10))) : Int)]) v3) = true then
   some (Sum.inl (wr_i64 (Int.tdiv v2 10), (bstr [(wr_u8 (wr_i64 (48 + (Int.tmod v2 10))) : Int)]) ++ v3))
  else
   none
 else
  some (Sum.inr (v2, v3))

def palingref02_number (a1 : Int) : Option (ByteArray) :=
 (loopM (fun s : Int × ByteArray => match s with | (v2, v3) => palingref02_number_L1 v2 v3) (a1, (⟨#[]⟩ : ByteArray))).bind fun r11 => match r11 with
 | (v8, v9) =>
  if (sadok (bstr [(wr_u8 (wr_i64 (48 + v8)) : Int)]) v9) = true then
   some ((bstr [(wr_u8 (wr_i64 (48 + v8)) : Int)]) ++ v9)
  else
   none

def palingref02_Text (a1 : Int) : Option (ByteArray) :=
 (palingref02_number (wr_i64 (Int.tdiv (wr_i64 a1) 16777216))).bind fun r2 =>
 if (sadok r2 (⟨#[46]⟩ : ByteArray)) = true then
  (palingref02_number (Int.tmod (wr_i64 (Int.tdiv (wr_i64 a1) 65536)) 256)).bind fun r5 =>
  if (sadok (r2 ++ (⟨#[46]⟩ : ByteArray)) r5) = true then
   if (sadok ((r2 ++ (⟨#[46]⟩ : ByteArray)) ++ r5) (⟨#[46]⟩ : ByteArray)) = true then
    (palingref02_number (Int.tmod (wr_i64 (Int.tdiv (wr_i64 a1) 256)) 256)).bind fun r9 =>
    if (sadok (((r2 ++ (⟨#[46]⟩ : ByteArray)) ++ r5) ++ (⟨#[46]⟩ : ByteArray)) r9) = true then
     if (sadok ((((r2 ++ (⟨#[46]⟩ : ByteArray)) ++ r5) ++ (⟨#[46]⟩ : ByteArray)) ++ r9) (⟨#[46]⟩ : ByteArray)) = true then
      (palingref02_number (Int.tmod (wr_i64 a1) 256)).bind fun r13 =>
      if (sadok (((((r2 ++ (⟨#[46]⟩ : ByteArray)) ++ r5) ++ (⟨#[46]⟩ : ByteArray)) ++ r9) ++ (⟨#[46]⟩ : ByteArray)) r13) = true then
       some ((((((r2 ++ (⟨#[46]⟩ : ByteArray)) ++ r5) ++ (⟨#[46]⟩ : ByteArray)) ++ r9) ++ (⟨#[46]⟩ : ByteArray)) ++ r13)
      else
       none
     else
      none
    else
     none
   else
    none
  else
   none
 else
  none

def palingref03_AddrsText_L1 (a1 : List Int) (v2 : ByteArray) (v3 : Int) : Option ((ByteArray × Int) ⊕ (ByteArray)) :=
 if (decide (v3 < (a1.length : Int))) = true then
  if (decide (v3 > 0)) = true then
   if (sadok v2 (⟨#[44]⟩ : ByteArray)) = true then
    (nth a1 v3).bind fun x7 =>
    (palingref02_Text x7).bind fun r9 =>
    if (sadok (v2 ++ (⟨#[44]⟩ : ByteArray)) r9) = true then
     some (Sum.inl ((v2 ++ (⟨#[44]⟩ : ByteArray)) ++ r9, wr_i64 (v3 + 1)))
    else
     none
   else
    none
  else
   (nth a1 v3).bind fun x12 =>
   (palingref02_Text x12).bind fun r14 =>
   if (sadok v2 r14) = true then
    some (Sum.inl (v2 ++ r14, wr_i64 (v3 + 1)))
   else
    none
 else
  some (Sum.inr v2)

def palingref03_AddrsText (a1 : List Int) : Option (ByteArray) :=
 (loopM (fun s : ByteArray × Int => match s with | (v2, v3) => palingref03_AddrsText_L1 a1 v2 v3) ((⟨#[]⟩ : ByteArray), 0)).bind fun r20 => match r20 with
 | v18 =>
  some v18

def palingref02_Right (a1 : Api_Prefix) : Option (Bool) :=
 if (decide (a1.bits ≥ 0)) = true then
  some (decide (a1.bits ≤ 32))
 else
  some false

def palingref02_PrefixText (a1 : Api_Prefix) : Option (ByteArray) :=
 (palingref02_Right a1).bind fun r2 =>
 if (!r2) = true then
  some (⟨#[]⟩ : ByteArray)
 else
  (palingref02_Text a1.addr).bind fun r5 =>
  if (sadok r5 (⟨#[47]⟩ : ByteArray)) = true then
   (palingref02_number a1.bits).bind fun r8 =>
   if (sadok (r5 ++ (⟨#[47]⟩ : ByteArray)) r8) = true then
    some ((r5 ++ (⟨#[47]⟩ : ByteArray)) ++ r8)
   else
    none
  else
   none

def palingref11_Words (a1 : Api_Line) : Option (((List ByteArray))) :=
 (palingref03_Text a1.vlan).bind fun r2 =>
 (palingref03_Text a1.num).bind fun r4 =>
 (palingref01_Text a1.mac).bind fun r6 =>
 if (a1.kind == 1) = true then
  some [(⟨#[100, 101, 118, 105, 99, 101]⟩ : ByteArray), a1.dev, r4, r6]
 else
  if (a1.kind == 2) = true then
   (palingref03_Text a1.cost).bind fun r10 =>
   if ((a1.tagged.length : Int) == 0) = true then
    some [(⟨#[112, 111, 114, 116]⟩ : ByteArray), a1.dev, a1.port, r10, (⟨#[97, 99, 99, 101, 115, 115]⟩ : ByteArray), r2]
   else
    if (a1.vlan == 0) = true then
     (palingref11_spell a1.tagged).bind fun r14 =>
     some [(⟨#[112, 111, 114, 116]⟩ : ByteArray), a1.dev, a1.port, r10, (⟨#[116, 114, 117, 110, 107]⟩ : ByteArray), (⟨#[45]⟩ : ByteArray), r14]
    else
     (palingref11_spell a1.tagged).bind fun r16 =>
     some [(⟨#[112, 111, 114, 116]⟩ : ByteArray), a1.dev, a1.port, r10, (⟨#[116, 114, 117, 110, 107]⟩ : ByteArray), r2, r16]
  else
   if (a1.kind == 3) = true then
    some [(⟨#[108, 105, 110, 107]⟩ : ByteArray), a1.dev, a1.port, a1.peer, a1.far]
   else
    if (a1.kind == 4) = true then
     some [(⟨#[115, 116, 97, 116, 105, 99]⟩ : ByteArray), a1.dev, r2, r6, a1.port]
    else
     if (a1.kind == 5) = true then
      (palingref02_Text a1.addr).bind fun r21 =>
      some [(⟨#[118, 116, 101, 112]⟩ : ByteArray), a1.dev, r21]
     else
      if (a1.kind == 6) = true then
       some [(⟨#[118, 110, 105]⟩ : ByteArray), a1.dev, r2, r4]
      else
       if (a1.kind == 7) = true then
        (palingref03_AddrsText a1.addrs).bind fun r25 =>
        some [(⟨#[102, 108, 111, 111, 100]⟩ : ByteArray), a1.dev, r4, r25]
       else
        if (a1.kind == 8) = true then
         (palingref11_spell a1.imports).bind fun r28 =>
         (palingref11_spell a1.exports).bind fun r30 =>
         some [(⟨#[118, 114, 102]⟩ : ByteArray), a1.dev, a1.name, r28, r30]
        else
         if (a1.kind == 9) = true then
          (palingref02_PrefixText (⟨a1.addr, a1.bits⟩ : Api_Prefix)).bind fun r33 =>
          some [(⟨#[105, 114, 98]⟩ : ByteArray), a1.dev, r2, a1.name, r33]
         else
          some []

def palingref11_form (a1 : List ByteArray) : Option (ByteArray) :=
 if ((a1.length : Int) == 0) = true then
  some (⟨#[]⟩ : ByteArray)
 else
  (nth a1 0).bind fun x3 =>
  if (seqB x3 (⟨#[100, 101, 118, 105, 99, 101]⟩ : ByteArray)) = true then
   some (⟨#[78, 80, 77]⟩ : ByteArray)
  else
   if (seqB x3 (⟨#[108, 105, 110, 107]⟩ : ByteArray)) = true then
    some (⟨#[78, 78, 78, 78]⟩ : ByteArray)
   else
    if (seqB x3 (⟨#[115, 116, 97, 116, 105, 99]⟩ : ByteArray)) = true then
     some (⟨#[78, 86, 77, 78]⟩ : ByteArray)
    else
     if (seqB x3 (⟨#[118, 116, 101, 112]⟩ : ByteArray)) = true then
      some (⟨#[78, 65]⟩ : ByteArray)
     else
      if (seqB x3 (⟨#[118, 110, 105]⟩ : ByteArray)) = true then
       some (⟨#[78, 86, 73]⟩ : ByteArray)
      else
       if (seqB x3 (⟨#[102, 108, 111, 111, 100]⟩ : ByteArray)) = true then
        some (⟨#[78, 73, 76]⟩ : ByteArray)
       else
        if (seqB x3 (⟨#[118, 114, 102]⟩ : ByteArray)) = true then
         some (⟨#[78, 78, 82, 82]⟩ : ByteArray)
        else
         if (seqB x3 (⟨#[105, 114, 98]⟩ : ByteArray)) = true then
          some (⟨#[78, 86, 78, 83]⟩ : ByteArray)
         else
          if (seqB x3 (⟨#[112, 111, 114, 116]⟩ : ByteArray)) = true then
           if ((a1.length : Int) == 7) = true then
            (nth a1 4).bind fun x15 =>
            if (!(seqB x15 (⟨#[97, 99, 99, 101, 115, 115]⟩ : ByteArray))) = true then
             some (⟨#[78, 78, 67, 75, 87, 84]⟩ : ByteArray)
            else
             if ((a1.length : Int) == 6) = true then
              (nth a1 4).bind fun x19 =>
              if (!(seqB x19 (⟨#[116, 114, 117, 110, 107]⟩ : ByteArray))) = true then
               some (⟨#[78, 78, 67, 75, 86]⟩ : ByteArray)
              else
               some (⟨#[]⟩ : ByteArray)
             else
              some (⟨#[]⟩ : ByteArray)
           else
            if ((a1.length : Int) == 6) = true then
             (nth a1 4).bind fun x23 =>
             if (!(seqB x23 (⟨#[116, 114, 117, 110, 107]⟩ : ByteArray))) = true then
              some (⟨#[78, 78, 67, 75, 86]⟩ : ByteArray)
             else
              some (⟨#[]⟩ : ByteArray)
            else
             some (⟨#[]⟩ : ByteArray)
          else
           some (⟨#[]⟩ : ByteArray)

def palingref11_kind_L1 (a1 : ByteArray) (v2 : Int) : Option ((Int) ⊕ (Int ⊕ Unit)) :=
 if (decide (v2 < ((List.length [(⟨#[]⟩ : ByteArray), (⟨#[100, 101, 118, 105, 99, 101]⟩ : ByteArray), (⟨#[112, 111, 114, 116]⟩ : ByteArray), (⟨#[108, 105, 110, 107]⟩ : ByteArray), (⟨#[115, 116, 97, 116, 105, 99]⟩ : ByteArray), (⟨#[118, 116, 101, 112]⟩ : ByteArray), (⟨#[118, 110, 105]⟩ : ByteArray), (⟨#[102, 108, 111, 111, 100]⟩ : ByteArray), (⟨#[118, 114, 102]⟩ : ByteArray), (⟨#[105, 114, 98]⟩ : ByteArray)]) : Int))) = true then
  if (lin [(⟨#[]⟩ : ByteArray), (⟨#[100, 101, 118, 105, 99, 101]⟩ : ByteArray), (⟨#[112, 111, 114, 116]⟩ : ByteArray), (⟨#[108, 105, 110, 107]⟩ : ByteArray), (⟨#[115, 116, 97, 116, 105, 99]⟩ : ByteArray), (⟨#[118, 116, 101, 112]⟩ : ByteArray), (⟨#[118, 110, 105]⟩ : ByteArray), (⟨#[102, 108, 111, 111, 100]⟩ : ByteArray), (⟨#[118, 114, 102]⟩ : ByteArray), (⟨#[105, 114, 98]⟩ : ByteArray)] v2) = true then
   ([(⟨#[]⟩ : ByteArray), (⟨#[100, 101, 118, 105, 99, 101]⟩ : ByteArray), (⟨#[112, 111, 114, 116]⟩ : ByteArray), (⟨#[108, 105, 110, 107]⟩ : ByteArray), (⟨#[115, 116, 97, 116, 105, 99]⟩ : ByteArray), (⟨#[118, 116, 101, 112]⟩ : ByteArray), (⟨#[118, 110, 105]⟩ : ByteArray), (⟨#[102, 108, 111, 111, 100]⟩ : ByteArray), (⟨#[118, 114, 102]⟩ : ByteArray), (⟨#[105, 114, 98]⟩ : ByteArray)][(Int.toNat v2)]?).bind fun x5 =>
   if (seqB x5 a1) = true then
    some (Sum.inr (Sum.inl v2))
   else
    some (Sum.inl (wr_i64 (v2 + 1)))
  else
   none
 else
  some (Sum.inr (Sum.inr ()))

def palingref11_kind (a1 : ByteArray) : Option (Int) :=
 (loopM (palingref11_kind_L1 a1) 1).bind fun r11 => match r11 with
 | Sum.inl v9 =>
  some v9
 | Sum.inr () =>
  some 0

def palingref03_Name_L1 (a1 : ByteArray) (v7 : Int) : Option ((Int) ⊕ (Unit ⊕ Unit)) :=
 if (decide (v7 < (a1.size : Int))) = true then
  if (decide (0 ≤ (v7 : Int) ∧ (v7 : Int) < (a1.size : Int))) = true then
   if (decide ((byteAt a1 v7) < 97)) = true then
    if (decide ((byteAt a1 v7) < 48)) = true then
     some (Sum.inr (Sum.inl ()))
    else
     if (decide ((byteAt a1 v7) > 57)) = true then
      some (Sum.inr (Sum.inl ()))
     else
      some (Sum.inl (wr_i64 (v7 + 1)))
   else
    if (decide ((byteAt a1 v7) > 122)) = true then
     if (decide ((byteAt a1 v7) < 48)) = true then
      some (Sum.inr (Sum.inl ()))
     else
      if (decide ((byteAt a1 v7) > 57)) = true then
       some (Sum.inr (Sum.inl ()))
      else
       some (Sum.inl (wr_i64 (v7 + 1)))
    else
     some (Sum.inl (wr_i64 (v7 + 1)))
  else
   none
 else
  some (Sum.inr (Sum.inr ()))

def palingref03_Name (a1 : ByteArray) : Option (Bool) :=
 if (decide ((a1.size : Int) < 1)) = true then
  some false
 else
  if (decide ((a1.size : Int) > 12)) = true then
   some false
  else
   if (decide (0 ≤ (0 : Int) ∧ (0 : Int) < (a1.size : Int))) = true then
    if (decide ((byteAt a1 0) < 97)) = true then
     some false
    else
     if (decide ((byteAt a1 0) > 122)) = true then
      some false
     else
      (loopM (palingref03_Name_L1 a1) 0).bind fun r17 => match r17 with
      | Sum.inl () =>
       some false
      | Sum.inr () =>
       some true
   else
    none

def palingref11_name_own_J1 (a1 : ByteArray) (a2 : Int) (a3 : Int) (a4 : Int) (a5 : ByteArray) (a6 : ByteArray) (a7 : ByteArray) (a8 : ByteArray) (a9 : ByteArray) (a10 : Int) (a11 : Int) (a12 : Int) (a13 : Int) (a14 : Int) (a15 : Int) (a16 : List Int) (a17 : List Int) (a18 : List Int) (a19 : List Int) : Option (ByteArray) :=
 if (a2 == 1) = true then
  some a1
 else
  some a6

def palingref11_name_own (a1 : ByteArray) (a2 : Int) (a3 : Int) (a4 : Int) (a5 : ByteArray) (a6 : ByteArray) (a7 : ByteArray) (a8 : ByteArray) (a9 : ByteArray) (a10 : Int) (a11 : Int) (a12 : Int) (a13 : Int) (a14 : Int) (a15 : Int) (a16 : List Int) (a17 : List Int) (a18 : List Int) (a19 : List Int) : Option ((ByteArray × ByteArray × ByteArray × ByteArray × ByteArray)) :=
 if (a2 == 0) = true then
  some (a1, a6, a7, a8, a9)
 else
  if (a4 == 8) = true then
   some (a5, a6, a7, a8, a1)
  else
   if (a4 == 9) = true then
    some (a5, a6, a7, a8, a1)
   else
    (palingref11_name_own_J1 a1 a2 a3 a4 a5 a6 a7 a8 a9 a10 a11 a12 a13 a14 a15 a16 a17 a18 a19).bind fun r29 => match r29 with
    | v27 =>
     if (a2 == 2) = true then
      if (a2 == 3) = true then
       some (a5, v27, a1, a1, a9)
      else
       some (a5, v27, a1, a8, a9)
     else
      if (a2 == 3) = true then
       some (a5, v27, a7, a1, a9)
      else
       some (a5, v27, a7, a8, a9)

def palingref03_Read_J1 (a1 : ByteArray) (a2 : Int) (a3 : Int) : Option (Int) :=
 if (decide ((a1.size : Int) > 0)) = true then
  if (decide (0 ≤ (0 : Int) ∧ (0 : Int) < (a1.size : Int))) = true then
   if ((byteAt a1 0) == 45) = true then
    some 1
   else
    some 0
  else
   none
 else
  some 0

def palingref03_Read_L2 (a1 : ByteArray) (a2 : Int) (a3 : Int) (v8 : Int) (v13 : Int) (v14 : Int) : Option ((Int × Int) ⊕ (Unit ⊕ Int)) :=
 if (decide (v14 < (a1.size : Int))) = true then
  if (decide (0 ≤ (v14 : Int) ∧ (v14 : Int) < (a1.size : Int))) = true then
   if (decide ((byteAt a1 v14) < 48)) = true then
    some (Sum.inr (Sum.inl ()))
   else
    if (decide ((byteAt a1 v14) > 57)) = true then
     some (Sum.inr (Sum.inl ()))
    else
     some (Sum.inl (wr_i64 ((wr_i64 ((wr_i64 (v13 * 10)) + (wr_i64 (byteAt a1 v14)))) - 48), wr_i64 (v14 + 1)))
  else
   none
 else
  some (Sum.inr (Sum.inr v13))

def palingref03_Read_J3 (a1 : ByteArray) (a2 : Int) (a3 : Int) (v8 : Int) (v20 : Int) : Option (Int) :=
 if (v8 == 1) = true then
  some (wr_i64 (0 - v20))
 else
  some v20

def palingref03_Read (a1 : ByteArray) (a2 : Int) (a3 : Int) : Option (Int × Bool) :=
 (palingref03_Read_J1 a1 a2 a3).bind fun r10 => match r10 with
 | v8 =>
  if (decide ((wr_i64 ((a1.size : Int) - v8)) < 1)) = true then
   some (0, false)
  else
   if (decide ((wr_i64 ((a1.size : Int) - v8)) > 10)) = true then
    some (0, false)
   else
    (loopM (fun s : Int × Int => match s with | (v13, v14) => palingref03_Read_L2 a1 a2 a3 v8 v13 v14) (0, v8)).bind fun r22 => match r22 with
    | Sum.inl () =>
     some (0, false)
    | Sum.inr v20 =>
     (palingref03_Read_J3 a1 a2 a3 v8 v20).bind fun r27 => match r27 with
     | v25 =>
      if (decide (v25 < a2)) = true then
       some (0, false)
      else
       if (decide (v25 > a3)) = true then
        some (0, false)
       else
        (palingref03_Text v25).bind fun r30 =>
        if (!(seqB r30 a1)) = true then
         some (0, false)
        else
         some (v25, true)

def palingref01_Read_J2 (a1 : ByteArray) (v3 : Int) (v4 : Int) : Option (Int) :=
 if (decide (0 ≤ (v4 : Int) ∧ (v4 : Int) < (a1.size : Int))) = true then
  if (decide ((byteAt a1 v4) ≥ 48)) = true then
   if (decide ((byteAt a1 v4) ≤ 57)) = true then
    some (wr_u64 ((wr_u64 (byteAt a1 v4)) - 48))
   else
    some 0
  else
   some 0
 else
  none

def palingref01_Read_L1 (a1 : ByteArray) (v3 : Int) (v4 : Int) : Option ((Int × Int) ⊕ (Int)) :=
 if (decide (v4 < 17)) = true then
  (palingref01_Read_J2 a1 v3 v4).bind fun r12 => match r12 with
  | v10 =>
   if (decide (0 ≤ (v4 : Int) ∧ (v4 : Int) < (a1.size : Int))) = true then
    if (decide ((byteAt a1 v4) ≥ 97)) = true then
     if (decide ((byteAt a1 v4) ≤ 102)) = true then
      if ((Int.tmod v4 3) != 2) = true then
       some (Sum.inl (wr_u64 ((wr_u64 (v3 * 16)) + (wr_u64 ((wr_u64 (byteAt a1 v4)) - 87))), wr_i64 (v4 + 1)))
      else
       some (Sum.inl (v3, wr_i64 (v4 + 1)))
     else
      if ((Int.tmod v4 3) != 2) = true then
       some (Sum.inl (wr_u64 ((wr_u64 (v3 * 16)) + v10), wr_i64 (v4 + 1)))
      else
       some (Sum.inl (v3, wr_i64 (v4 + 1)))
    else
     if ((Int.tmod v4 3) != 2) = true then
      some (Sum.inl (wr_u64 ((wr_u64 (v3 * 16)) + v10), wr_i64 (v4 + 1)))
     else
      some (Sum.inl (v3, wr_i64 (v4 + 1)))
   else
    none
 else
  some (Sum.inr v3)

def palingref01_Read (a1 : ByteArray) : Option (Int × Bool) :=
 if ((a1.size : Int) != 17) = true then
  some (0, false)
 else
  (loopM (fun s : Int × Int => match s with | (v3, v4) => palingref01_Read_L1 a1 v3 v4) (0, 0)).bind fun r22 => match r22 with
  | v20 =>
   (palingref01_Text v20).bind fun r23 =>
   if (!(seqB r23 a1)) = true then
    some (0, false)
   else
    some (v20, true)

def palingref01_number_L1 (a1 : List Int) (v2 : Int) (v3 : Int) : Option ((Int × Int) ⊕ (Int)) :=
 if (decide (v3 < (a1.length : Int))) = true then
  (nth a1 v3).bind fun x5 =>
  some (Sum.inl (wr_u64 ((wr_u64 (v2 * 256)) + (wr_u64 x5)), wr_i64 (v3 + 1)))
 else
  some (Sum.inr v2)

def palingref01_number (a1 : List Int) : Option (Int) :=
 (loopM (fun s : Int × Int => match s with | (v2, v3) => palingref01_number_L1 a1 v2 v3) (0, 0)).bind fun r10 => match r10 with
 | v8 =>
  some v8

def palingref01_IsHost (a1 : Int) : Option (Int × Bool) :=
 (palingref01_Bytes a1).bind fun r2 => match r2 with
 | l4 =>
  if (lin l4 0) = true then
   (l4[(Int.toNat 0)]?).bind fun x6 =>
   if (x6 != 2) = true then
    some (0, false)
   else
    if (lin l4 1) = true then
     (l4[(Int.toNat 1)]?).bind fun x10 =>
     if (x10 != 0) = true then
      some (0, false)
     else
      if (slok (List.length l4) 2 ((List.length l4) : Int)) = true then
       (palingref01_number (List.drop (Int.toNat 2) (List.take (Int.toNat ((List.length l4) : Int)) l4))).bind fun r14 =>
       some (wr_u32 r14, true)
      else
       none
    else
     none
  else
   none

def palingref01_Group (a1 : Int) : Option (Bool) :=
 (palingref01_Bytes a1).bind fun r2 => match r2 with
 | l4 =>
  if (lin l4 0) = true then
   (l4[(Int.toNat 0)]?).bind fun x6 =>
   some ((Int.tmod x6 2) == 1)
  else
   none

def palingref11_Station (a1 : Int) : Option (Bool) :=
 (palingref01_IsHost a1).bind fun r2 =>
 if (decide (a1 < 281474976710656)) = true then
  if (!r2.2) = true then
   (palingref01_Group a1).bind fun r6 =>
   some (!r6)
  else
   some false
 else
  some false

def palingref03_Split_L1 (a1 : ByteArray) (l2 : List ByteArray) (n3 : Nat) (v4 : Int) : Option (((List ByteArray) × Nat × Int) ⊕ (((List ByteArray) × Nat))) :=
 if (decide (v4 < (a1.size : Int))) = true then
  if (decide (0 ≤ (v4 : Int) ∧ (v4 : Int) < (a1.size : Int))) = true then
   if ((byteAt a1 v4) == 44) = true then
    if (roomy 16 (l2 ++ [(⟨#[]⟩ : ByteArray)])) = true then
     some (Sum.inl (l2 ++ [(⟨#[]⟩ : ByteArray)], (List.length (l2 ++ [(⟨#[]⟩ : ByteArray)])), wr_i64 (v4 + 1)))
    else
     none
   else
    if (lin l2 (wr_i64 ((n3 : Int) - 1))) = true then
     (l2[(Int.toNat (wr_i64 ((n3 : Int) - 1)))]?).bind fun x10 =>
     if (slok (a1.size) v4 (wr_i64 (v4 + 1))) = true then
      if (sadok x10 (ByteArray.extract a1 (Int.toNat v4) (Int.toNat (wr_i64 (v4 + 1))))) = true then
       (l2[(Int.toNat (wr_i64 ((n3 : Int) - 1)))]?).bind fun x14 =>
       some (Sum.inl (List.set l2 (Int.toNat (wr_i64 ((n3 : Int) - 1))) (x10 ++ (ByteArray.extract a1 (Int.toNat v4) (Int.toNat (wr_i64 (v4 + 1))))), n3, wr_i64 (v4 + 1)))
      else
       none
     else
      none
    else
     none
  else
   none
 else
  some (Sum.inr (l2, n3))

def palingref03_Split (a1 : ByteArray) : Option (((List ByteArray) × Nat)) :=
 (loopM (fun s : (List ByteArray) × Nat × Int => match s with | (l2, n3, v4) => palingref03_Split_L1 a1 l2 n3 v4) ([(⟨#[]⟩ : ByteArray)], (List.length [(⟨#[]⟩ : ByteArray)]), 0)).bind fun r23 => match r23 with
 | (l20, n21) =>
  some (l20, n21)

def palingref03_Rising_L1 (a1 : List Int) (a2 : Int) (a3 : Int) (v6 : Int) : Option ((Int) ⊕ (Unit ⊕ Unit)) :=
 if (decide (v6 < (a1.length : Int))) = true then
  (nth a1 v6).bind fun x8 =>
  if (decide (x8 < a2)) = true then
   some (Sum.inr (Sum.inl ()))
  else
   (nth a1 v6).bind fun x11 =>
   if (decide (x11 > a3)) = true then
    some (Sum.inr (Sum.inl ()))
   else
    if (decide (v6 > 0)) = true then
     (nth a1 v6).bind fun x15 =>
     (nth a1 (wr_i64 (v6 - 1))).bind fun x17 =>
     if (decide (x15 ≤ x17)) = true then
      some (Sum.inr (Sum.inl ()))
     else
      some (Sum.inl (wr_i64 (v6 + 1)))
    else
     some (Sum.inl (wr_i64 (v6 + 1)))
 else
  some (Sum.inr (Sum.inr ()))

def palingref03_Rising (a1 : List Int) (a2 : Int) (a3 : Int) : Option (Bool) :=
 if (decide ((a1.length : Int) < 1)) = true then
  some false
 else
  if (decide ((a1.length : Int) > 16)) = true then
   some false
  else
   (loopM (palingref03_Rising_L1 a1 a2 a3) 0).bind fun r21 => match r21 with
   | Sum.inl () =>
    some false
   | Sum.inr () =>
    some true

def palingref03_ReadList_L1 (a2 : Int) (a3 : Int) (l6 : List ByteArray) (n7 : Nat) (l8 : List Int) (v9 : Int) : Option (((List Int) × Int) ⊕ (Unit ⊕ (List Int))) :=
 if (decide (v9 < (n7 : Int))) = true then
  if (lin l6 v9) = true then
   (l6[(Int.toNat v9)]?).bind fun x12 =>
   (palingref03_Read x12 a2 a3).bind fun r14 =>
   if (!r14.2) = true then
    some (Sum.inr (Sum.inl ()))
   else
    if (roomy 8 (l8 ++ [r14.1])) = true then
     some (Sum.inl (l8 ++ [r14.1], wr_i64 (v9 + 1)))
    else
     none
  else
   none
 else
  some (Sum.inr (Sum.inr l8))

def palingref03_ReadList (a1 : ByteArray) (a2 : Int) (a3 : Int) : Option (((List Int) × Bool)) :=
 (palingref03_Split a1).bind fun r4 => match r4 with
 | (l6, n7) =>
  (loopM (fun s : (List Int) × Int => match s with | (l8, v9) => palingref03_ReadList_L1 a2 a3 l6 n7 l8 v9) ([], 0)).bind fun r25 => match r25 with
  | Sum.inl () =>
   some ([], false)
  | Sum.inr l23 =>
   (palingref03_Rising l23 a2 a3).bind fun r26 =>
   if (!r26) = true then
    some ([], false)
   else
    some (l23, true)

def palingref11_list (a1 : ByteArray) (a2 : Int) : Option (((List Int) × Bool)) :=
 if (seqB a1 (⟨#[45]⟩ : ByteArray)) = true then
  some ([], true)
 else
  (palingref03_ReadList a1 1 a2).bind fun r4 => match r4 with
  | (l6, v7) =>
   some (l6, v7)

def palingref02_digits_L1 (a1 : ByteArray) (v4 : Int) (v5 : Int) : Option ((Int × Int) ⊕ (Unit ⊕ Int)) :=
 if (decide (v5 < (a1.size : Int))) = true then
  if (decide (0 ≤ (v5 : Int) ∧ (v5 : Int) < (a1.size : Int))) = true then
   if (decide ((byteAt a1 v5) < 48)) = true then
    some (Sum.inr (Sum.inl ()))
   else
    if (decide ((byteAt a1 v5) > 57)) = true then
     some (Sum.inr (Sum.inl ()))
    else
     some (Sum.inl (wr_i64 ((wr_i64 ((wr_i64 (v4 * 10)) + (wr_i64 (byteAt a1 v5)))) - 48), wr_i64 (v5 + 1)))
  else
   none
 else
  some (Sum.inr (Sum.inr v4))

def palingref02_digits (a1 : ByteArray) : Option (Int) :=
 if ((a1.size : Int) == 0) = true then
  some 1000
 else
  if (decide ((a1.size : Int) > 3)) = true then
   some 1000
  else
   (loopM (fun s : Int × Int => match s with | (v4, v5) => palingref02_digits_L1 a1 v4 v5) (0, 0)).bind fun r13 => match r13 with
   | Sum.inl () =>
    some 1000
   | Sum.inr v11 =>
    (palingref02_number v11).bind fun r14 =>
    if (!(seqB r14 a1)) = true then
     some 1000
    else
     some v11

def palingref02_Read_J2 (a1 : ByteArray) (v2 : Int) (v3 : Int) (v4 : ByteArray) (v5 : Int) : Option (Bool) :=
 if (decide (v5 < (a1.size : Int))) = true then
  if (decide (0 ≤ (v5 : Int) ∧ (v5 : Int) < (a1.size : Int))) = true then
   some ((byteAt a1 v5) != 46)
  else
   none
 else
  some false

def palingref02_Read_L1 (a1 : ByteArray) (v2 : Int) (v3 : Int) (v4 : ByteArray) (v5 : Int) : Option ((Int × Int × ByteArray × Int) ⊕ (Unit ⊕ (Int × Int))) :=
 if (decide (v5 ≤ (a1.size : Int))) = true then
  (palingref02_Read_J2 a1 v2 v3 v4 v5).bind fun r12 => match r12 with
  | v10 =>
   if (v10) = true then
    if (slok (a1.size) v5 (wr_i64 (v5 + 1))) = true then
     if (sadok v4 (ByteArray.extract a1 (Int.toNat v5) (Int.toNat (wr_i64 (v5 + 1))))) = true then
      if (decide (((v4 ++ (ByteArray.extract a1 (Int.toNat v5) (Int.toNat (wr_i64 (v5 + 1))))).size : Int) > 3)) = true then
       some (Sum.inr (Sum.inl ()))
      else
       some (Sum.inl (v2, v3, v4 ++ (ByteArray.extract a1 (Int.toNat v5) (Int.toNat (wr_i64 (v5 + 1)))), wr_i64 (v5 + 1)))
     else
      none
    else
     none
   else
    (palingref02_digits v4).bind fun r17 =>
    if (decide (r17 > 255)) = true then
     some (Sum.inr (Sum.inl ()))
    else
     if (decide (v3 > 3)) = true then
      some (Sum.inr (Sum.inl ()))
     else
      (palingref02_digits v4).bind fun r21 =>
      some (Sum.inl (wr_i64 ((wr_i64 (v2 * 256)) + r21), wr_i64 (v3 + 1), (⟨#[]⟩ : ByteArray), wr_i64 (v5 + 1)))
 else
  some (Sum.inr (Sum.inr (v2, v3)))

def palingref02_Read (a1 : ByteArray) : Option (Int × Bool) :=
 (loopM (fun s : Int × Int × ByteArray × Int => match s with | (v2, v3, v4, v5) => palingref02_Read_L1 a1 v2 v3 v4 v5) (0, 0, (⟨#[]⟩ : ByteArray), 0)).bind fun r28 => match r28 with
 | Sum.inl () =>
  some (0, false)
 | Sum.inr (v25, v26) =>
  if (v26 != 4) = true then
   some (0, false)
  else
   some (wr_u32 v25, true)

def palingref03_ReadAddrs_L1 (l4 : List ByteArray) (n5 : Nat) (l6 : List Int) (v7 : Int) : Option (((List Int) × Int) ⊕ (Unit ⊕ (List Int))) :=
 if (decide (v7 < (n5 : Int))) = true then
  if (lin l4 v7) = true then
   (l4[(Int.toNat v7)]?).bind fun x10 =>
   (palingref02_Read x10).bind fun r12 =>
   if (!r12.2) = true then
    some (Sum.inr (Sum.inl ()))
   else
    if (decide (v7 ≥ 16)) = true then
     some (Sum.inr (Sum.inl ()))
    else
     if (decide (v7 > 0)) = true then
      if (lin l6 (wr_i64 (v7 - 1))) = true then
       (l6[(Int.toNat (wr_i64 (v7 - 1)))]?).bind fun x18 =>
       if (decide (x18 ≥ r12.1)) = true then
        some (Sum.inr (Sum.inl ()))
       else
        if (roomy 4 (l6 ++ [r12.1])) = true then
         some (Sum.inl (l6 ++ [r12.1], wr_i64 (v7 + 1)))
        else
         none
      else
       none
     else
      if (roomy 4 (l6 ++ [r12.1])) = true then
       some (Sum.inl (l6 ++ [r12.1], wr_i64 (v7 + 1)))
      else
       none
  else
   none
 else
  some (Sum.inr (Sum.inr l6))

def palingref03_ReadAddrs (a1 : ByteArray) : Option (((List Int) × Bool)) :=
 (palingref03_Split a1).bind fun r2 => match r2 with
 | (l4, n5) =>
  (loopM (fun s : (List Int) × Int => match s with | (l6, v7) => palingref03_ReadAddrs_L1 l4 n5 l6 v7) ([], 0)).bind fun r28 => match r28 with
  | Sum.inl () =>
   some ([], false)
  | Sum.inr l26 =>
   some (l26, true)

def palingref02_ReadPrefix_L1 (a1 : ByteArray) (v2 : Int) : Option ((Int) ⊕ (Int)) :=
 if (decide (v2 < (a1.size : Int))) = true then
  if (decide (0 ≤ (v2 : Int) ∧ (v2 : Int) < (a1.size : Int))) = true then
   if ((byteAt a1 v2) != 47) = true then
    some (Sum.inl (wr_i64 (v2 + 1)))
   else
    some (Sum.inr v2)
  else
   none
 else
  some (Sum.inr v2)

def palingref02_ReadPrefix (a1 : ByteArray) : Option (Api_Prefix × Bool) :=
 (loopM (palingref02_ReadPrefix_L1 a1) 0).bind fun r9 => match r9 with
 | v7 =>
  if (v7 == (a1.size : Int)) = true then
   some ((⟨0, 0⟩ : Api_Prefix), false)
  else
   if (slok (a1.size) 0 v7) = true then
    (palingref02_Read (ByteArray.extract a1 (Int.toNat 0) (Int.toNat v7))).bind fun r12 =>
    if (slok (a1.size) (wr_i64 (v7 + 1)) (a1.size : Int)) = true then
     (palingref02_digits (ByteArray.extract a1 (Int.toNat (wr_i64 (v7 + 1))) (Int.toNat (a1.size : Int)))).bind fun r15 =>
     if (!r12.2) = true then
      some ((⟨0, 0⟩ : Api_Prefix), false)
     else
      if (decide (r15 > 32)) = true then
       some ((⟨0, 0⟩ : Api_Prefix), false)
      else
       some ((⟨r12.1, r15⟩ : Api_Prefix), true)
    else
     none
   else
    none

def palingref02_size_L1 (v2 : Int) (v3 : Int) : Option ((Int × Int) ⊕ (Int)) :=
 if (decide (v3 < 32)) = true then
  some (Sum.inl (wr_i64 (v2 * 2), wr_i64 (v3 + 1)))
 else
  some (Sum.inr v2)

def palingref02_size (a1 : Api_Prefix) : Option (Int) :=
 (loopM (fun s : Int × Int => match s with | (v2, v3) => palingref02_size_L1 v2 v3) (1, a1.bits)).bind fun r8 => match r8 with
 | v6 =>
  some v6

def palingref02_First (a1 : Api_Prefix) : Option (Int) :=
 (palingref02_Right a1).bind fun r2 =>
 if (!r2) = true then
  some 0
 else
  (palingref02_size a1).bind fun r5 =>
  if (r5 != 0) = true then
   (palingref02_size a1).bind fun r8 =>
   some (wr_u32 (wr_i64 ((wr_i64 (Int.tdiv (wr_i64 a1.addr) r5)) * r8)))
  else
   none

def palingref02_Last (a1 : Api_Prefix) : Option (Int) :=
 (palingref02_Right a1).bind fun r2 =>
 if (!r2) = true then
  some 0
 else
  (palingref02_First a1).bind fun r5 =>
  (palingref02_size a1).bind fun r7 =>
  some (wr_u32 (wr_i64 ((wr_i64 ((wr_i64 r5) + r7)) - 1)))

def palingref11_Subnet (a1 : Api_Prefix) : Option (Bool) :=
 if (decide (a1.bits ≥ 1)) = true then
  if (decide (a1.bits ≤ 30)) = true then
   (palingref02_First a1).bind fun r4 =>
   if (a1.addr != r4) = true then
    (palingref02_Last a1).bind fun r7 =>
    some (a1.addr != r7)
   else
    some false
  else
   some false
 else
  some false

def palingref11_word_own (a1 : Int) (a2 : ByteArray) (a3 : Int) (a4 : Int) (a5 : Int) (a6 : ByteArray) (a7 : ByteArray) (a8 : ByteArray) (a9 : ByteArray) (a10 : ByteArray) (a11 : Int) (a12 : Int) (a13 : Int) (a14 : Int) (a15 : Int) (a16 : Int) (a17 : List Int) (a18 : List Int) (a19 : List Int) (a20 : List Int) : Option ((ByteArray × ByteArray × ByteArray × ByteArray × ByteArray × Int × Int × Int × Int × Int × Int × Int) ⊕ ((List Int) × Int) ⊕ ((List Int) × Int) ⊕ ((List Int) × Int)) :=
 if (a1 == 78) = true then
  (palingref03_Name a2).bind fun r22 =>
  if (!r22) = true then
   some (Sum.inl (a6, a7, a8, a9, a10, a11, a12, a13, a14, a15, a16, 20))
  else
   (palingref11_name_own a2 a3 a4 a5 a6 a7 a8 a9 a10 a11 a12 a13 a14 a15 a16 a17 a18 a19 a20).bind fun r25 => match r25 with
   | (v27, v28, v29, v30, v31) =>
    some (Sum.inl (v27, v28, v29, v30, v31, a11, a12, a13, a14, a15, a16, 0))
 else
  if (a1 == 75) = true then
   if (!(seqB a2 (⟨#[97, 99, 99, 101, 115, 115]⟩ : ByteArray))) = true then
    if (!(seqB a2 (⟨#[116, 114, 117, 110, 107]⟩ : ByteArray))) = true then
     some (Sum.inl (a6, a7, a8, a9, a10, a11, a12, a13, a14, a15, a16, 20))
    else
     some (Sum.inl (a6, a7, a8, a9, a10, a11, a12, a13, a14, a15, a16, 0))
   else
    some (Sum.inl (a6, a7, a8, a9, a10, a11, a12, a13, a14, a15, a16, 0))
  else
   if (a1 == 80) = true then
    (palingref03_Read a2 0 65535).bind fun r36 =>
    if (!r36.2) = true then
     some (Sum.inl (a6, a7, a8, a9, a10, a11, a12, a13, a14, r36.1, a16, 21))
    else
     some (Sum.inl (a6, a7, a8, a9, a10, a11, a12, a13, a14, r36.1, a16, 0))
   else
    if (a1 == 67) = true then
     (palingref03_Read a2 1 65535).bind fun r40 =>
     if (!r40.2) = true then
      some (Sum.inl (a6, a7, a8, a9, a10, a11, a12, a13, a14, a15, r40.1, 21))
     else
      some (Sum.inl (a6, a7, a8, a9, a10, a11, a12, a13, a14, a15, r40.1, 0))
    else
     if (a1 == 77) = true then
      (palingref01_Read a2).bind fun r44 =>
      if (r44.2) = true then
       (palingref11_Station r44.1).bind fun r47 =>
       if (!r47) = true then
        some (Sum.inl (a6, a7, a8, a9, a10, r44.1, a12, a13, a14, a15, a16, 21))
       else
        some (Sum.inl (a6, a7, a8, a9, a10, r44.1, a12, a13, a14, a15, a16, 0))
      else
       some (Sum.inl (a6, a7, a8, a9, a10, r44.1, a12, a13, a14, a15, a16, 21))
     else
      if (a1 == 86) = true then
       (palingref03_Read a2 1 4094).bind fun r51 =>
       if (!r51.2) = true then
        some (Sum.inl (a6, a7, a8, a9, a10, a11, a12, a13, r51.1, a15, a16, 21))
       else
        some (Sum.inl (a6, a7, a8, a9, a10, a11, a12, a13, r51.1, a15, a16, 0))
      else
       if (a1 == 87) = true then
        (palingref03_Read a2 1 4094).bind fun r55 =>
        if (r55.2) = true then
         some (Sum.inl (a6, a7, a8, a9, a10, a11, a12, a13, r55.1, a15, a16, 0))
        else
         if (!(seqB a2 (⟨#[45]⟩ : ByteArray))) = true then
          some (Sum.inl (a6, a7, a8, a9, a10, a11, a12, a13, r55.1, a15, a16, 21))
         else
          some (Sum.inl (a6, a7, a8, a9, a10, a11, a12, a13, r55.1, a15, a16, 0))
       else
        if (a1 == 84) = true then
         (palingref11_list a2 4094).bind fun r60 => match r60 with
         | (l62, v63) =>
          if (!v63) = true then
           some (Sum.inr (Sum.inl (l62, 21)))
          else
           some (Sum.inr (Sum.inl (l62, 0)))
        else
         if (a1 == 73) = true then
          (palingref03_Read a2 1 16777215).bind fun r66 =>
          if (!r66.2) = true then
           some (Sum.inl (a6, a7, a8, a9, a10, a11, a12, a13, a14, r66.1, a16, 21))
          else
           some (Sum.inl (a6, a7, a8, a9, a10, a11, a12, a13, a14, r66.1, a16, 0))
         else
          if (a1 == 65) = true then
           (palingref02_Read a2).bind fun r70 =>
           if (r70.2) = true then
            if (!(decide (r70.1 > 0))) = true then
             some (Sum.inl (a6, a7, a8, a9, a10, a11, r70.1, a13, a14, a15, a16, 21))
            else
             some (Sum.inl (a6, a7, a8, a9, a10, a11, r70.1, a13, a14, a15, a16, 0))
           else
            some (Sum.inl (a6, a7, a8, a9, a10, a11, r70.1, a13, a14, a15, a16, 21))
          else
           if (a1 == 76) = true then
            (palingref03_ReadAddrs a2).bind fun r75 => match r75 with
            | (l77, v78) =>
             if (v78) = true then
              if (lin l77 0) = true then
               (l77[(Int.toNat 0)]?).bind fun x81 =>
               if (!(decide (x81 > 0))) = true then
                some (Sum.inr (Sum.inr (Sum.inl (l77, 21))))
               else
                some (Sum.inr (Sum.inr (Sum.inl (l77, 0))))
              else
               none
             else
              some (Sum.inr (Sum.inr (Sum.inl (l77, 21))))
           else
            if (a1 == 82) = true then
             (palingref11_list a2 65535).bind fun r85 => match r85 with
             | (l87, v88) =>
              if (!v88) = true then
               some (Sum.inr (Sum.inr (Sum.inr (l87, 21))))
              else
               some (Sum.inr (Sum.inr (Sum.inr (l87, 0))))
            else
             if (a1 == 83) = true then
              (palingref02_ReadPrefix a2).bind fun r91 =>
              if (r91.2) = true then
               (palingref11_Subnet (⟨r91.1.addr, r91.1.bits⟩ : Api_Prefix)).bind fun r94 =>
               if (!r94) = true then
                some (Sum.inl (a6, a7, a8, a9, a10, a11, r91.1.addr, r91.1.bits, a14, a15, a16, 21))
               else
                some (Sum.inl (a6, a7, a8, a9, a10, a11, r91.1.addr, r91.1.bits, a14, a15, a16, 0))
              else
               some (Sum.inl (a6, a7, a8, a9, a10, a11, r91.1.addr, r91.1.bits, a14, a15, a16, 21))
             else
              some (Sum.inl (a6, a7, a8, a9, a10, a11, a12, a13, a14, a15, a16, 21))

def palingref11_members_L1 (a1 : Api_Line) (v2 : Int) : Option ((Int) ⊕ (Unit ⊕ Unit)) :=
 if (decide (v2 < (a1.tagged.length : Int))) = true then
  (nth a1.tagged v2).bind fun x4 =>
  if (x4 == a1.vlan) = true then
   some (Sum.inr (Sum.inl ()))
  else
   some (Sum.inl (wr_i64 (v2 + 1)))
 else
  some (Sum.inr (Sum.inr ()))

def palingref11_members (a1 : Api_Line) : Option (Bool) :=
 (loopM (palingref11_members_L1 a1) 0).bind fun r8 => match r8 with
 | Sum.inl () =>
  some false
 | Sum.inr () =>
  if (decide (a1.vlan > 0)) = true then
   some true
  else
   some (decide ((a1.tagged.length : Int) > 0))

def palingref11_Read_J2 (a1 : List ByteArray) (a2 : Int) (r3 : ByteArray) : Option (Bool) :=
 if (seqB r3 (⟨#[]⟩ : ByteArray)) = true then
  some true
 else
  some ((a1.length : Int) != (wr_i64 ((r3.size : Int) + 1)))

def palingref11_Read_J1 (a1 : List ByteArray) (a2 : Int) (r3 : ByteArray) : Option (ByteArray ⊕ Unit) :=
 (palingref11_Read_J2 a1 a2 r3).bind fun r9 => match r9 with
 | v7 =>
  if (v7) = true then
   if (decide ((a1.length : Int) > 4)) = true then
    (nth a1 0).bind fun x12 =>
    if (seqB x12 (⟨#[112, 111, 114, 116]⟩ : ByteArray)) = true then
     if (decide ((a1.length : Int) ≤ 7)) = true then
      if (decide ((a1.length : Int) ≥ 6)) = true then
       (nth a1 4).bind fun x17 =>
       if (!(seqB x17 (⟨#[97, 99, 99, 101, 115, 115]⟩ : ByteArray))) = true then
        (nth a1 4).bind fun x20 =>
        if (!(seqB x20 (⟨#[116, 114, 117, 110, 107]⟩ : ByteArray))) = true then
         some (Sum.inl (⟨#[78, 78, 67, 75]⟩ : ByteArray))
        else
         some (Sum.inr ())
       else
        some (Sum.inr ())
      else
       some (Sum.inr ())
     else
      some (Sum.inr ())
    else
     some (Sum.inr ())
   else
    some (Sum.inr ())
  else
   some (Sum.inl r3)

def palingref11_Read_J4 (a1 : List ByteArray) (a2 : Int) (v24 : ByteArray) (r29 : Int) (l31 : List Int) (l32 : List Int) (l33 : List Int) (v34 : ByteArray) (v35 : ByteArray) (v36 : ByteArray) (v37 : ByteArray) (v38 : ByteArray) (v39 : Int) (v40 : Int) (v41 : Int) (v42 : Int) (v43 : Int) (v44 : Int) (v45 : Int) (v46 : Int) (l47 : List Int) : Option (((List Int) × (List Int) × (List Int) × (List Int) × ByteArray × ByteArray × ByteArray × ByteArray × ByteArray × Int × Int × Int × Int × Int × Int × Int)) :=
 if (decide (0 ≤ (v46 : Int) ∧ (v46 : Int) < (v24.size : Int))) = true then
  (nth a1 (wr_i64 (v46 + 1))).bind fun x50 =>
  (palingref11_word_own (byteAt v24 v46) x50 v45 a2 r29 v34 v35 v36 v37 v38 v39 v40 v41 v42 v43 v44 l31 l47 l32 l33).bind fun r52 => match r52 with
  | Sum.inl (v54, v55, v56, v57, v58, v59, v60, v61, v62, v63, v64, v65) =>
   some (l31, l47, l32, l33, v54, v55, v56, v57, v58, v59, v60, v61, v62, v63, v64, v65)
  | Sum.inr (Sum.inl (l66, v67)) =>
   some (l66, l47, l32, l33, v34, v35, v36, v37, v38, v39, v40, v41, v42, v43, v44, v67)
  | Sum.inr (Sum.inr (Sum.inl (l68, v69))) =>
   some (l31, l47, l32, l68, v34, v35, v36, v37, v38, v39, v40, v41, v42, v43, v44, v69)
  | Sum.inr (Sum.inr (Sum.inr (l70, v71))) =>
   some (l31, l32, l70, l33, v34, v35, v36, v37, v38, v39, v40, v41, v42, v43, v44, v71)
 else
  none

def palingref11_Read_L3 (a1 : List ByteArray) (a2 : Int) (v24 : ByteArray) (r29 : Int) (l31 : List Int) (l32 : List Int) (l33 : List Int) (v34 : ByteArray) (v35 : ByteArray) (v36 : ByteArray) (v37 : ByteArray) (v38 : ByteArray) (v39 : Int) (v40 : Int) (v41 : Int) (v42 : Int) (v43 : Int) (v44 : Int) (v45 : Int) (v46 : Int) (l47 : List Int) : Option (((List Int) × (List Int) × (List Int) × ByteArray × ByteArray × ByteArray × ByteArray × ByteArray × Int × Int × Int × Int × Int × Int × Int × Int × (List Int)) ⊕ (Int ⊕ ((List Int) × (List Int) × (List Int) × (List Int) × ByteArray × ByteArray × ByteArray × ByteArray × ByteArray × Int × Int × Int × Int × Int × Int))) :=
 if (decide (v46 < (v24.size : Int))) = true then
  (palingref11_Read_J4 a1 a2 v24 r29 l31 l32 l33 v34 v35 v36 v37 v38 v39 v40 v41 v42 v43 v44 v45 v46 l47).bind fun r210 => match r210 with
  | (l193, l194, l195, l196, v197, v198, v199, v200, v201, v202, v203, v204, v205, v206, v207, v208) =>
   if (v208 != 0) = true then
    some (Sum.inr (Sum.inl v208))
   else
    if (decide (0 ≤ (v46 : Int) ∧ (v46 : Int) < (v24.size : Int))) = true then
     if ((byteAt v24 v46) == 78) = true then
      some (Sum.inl (l193, l195, l196, v197, v198, v199, v200, v201, v202, v203, v204, v205, v206, v207, wr_i64 (v45 + 1), wr_i64 (v46 + 1), l194))
     else
      some (Sum.inl (l193, l195, l196, v197, v198, v199, v200, v201, v202, v203, v204, v205, v206, v207, v45, wr_i64 (v46 + 1), l194))
    else
     none
 else
  some (Sum.inr (Sum.inr (l31, l47, l32, l33, v34, v35, v36, v37, v38, v39, v40, v41, v42, v43, v44)))

def palingref11_Read (a1 : List ByteArray) (a2 : Int) : Option (((List Int) × (List Int) × (List Int) × (List Int) × Int × Int × ByteArray × ByteArray × ByteArray × ByteArray × ByteArray × Int × Int × Int × Int × Int × Int × Int)) :=
 (palingref11_form a1).bind fun r3 =>
 (palingref11_Read_J1 a1 a2 r3).bind fun r26 => match r26 with
 | Sum.inl v24 =>
  (nth a1 0).bind fun x27 =>
  (palingref11_kind x27).bind fun r29 =>
  (loopM (fun s : (List Int) × (List Int) × (List Int) × ByteArray × ByteArray × ByteArray × ByteArray × ByteArray × Int × Int × Int × Int × Int × Int × Int × Int × (List Int) => match s with | (l31, l32, l33, v34, v35, v36, v37, v38, v39, v40, v41, v42, v43, v44, v45, v46, l47) => palingref11_Read_L3 a1 a2 v24 r29 l31 l32 l33 v34 v35 v36 v37 v38 v39 v40 v41 v42 v43 v44 v45 v46 l47) ([], [], [], (⟨#[]⟩ : ByteArray), (⟨#[]⟩ : ByteArray), (⟨#[]⟩ : ByteArray), (⟨#[]⟩ : ByteArray), (⟨#[]⟩ : ByteArray), 0, 0, 0, 0, 0, 0, 0, 0, [])).bind fun r277 => match r277 with
  | Sum.inl v215 =>
   some ([], [], [], [], 0, 0, (⟨#[]⟩ : ByteArray), (⟨#[]⟩ : ByteArray), (⟨#[]⟩ : ByteArray), (⟨#[]⟩ : ByteArray), (⟨#[]⟩ : ByteArray), 0, 0, 0, 0, 0, 0, v215)
  | Sum.inr (l261, l262, l263, l264, v265, v266, v267, v268, v269, v270, v271, v272, v273, v274, v275) =>
   if (r29 == 2) = true then
    (palingref11_members (⟨a2, r29, v265, v266, v267, v268, v269, v270, v271, v272, v273, v274, v275, l261, l262, l263, l264⟩ : Api_Line)).bind fun r279 =>
    if (!r279) = true then
     some ([], [], [], [], 0, 0, (⟨#[]⟩ : ByteArray), (⟨#[]⟩ : ByteArray), (⟨#[]⟩ : ByteArray), (⟨#[]⟩ : ByteArray), (⟨#[]⟩ : ByteArray), 0, 0, 0, 0, 0, 0, 21)
    else
     some (l261, l262, l263, l264, a2, r29, v265, v266, v267, v268, v269, v270, v271, v272, v273, v274, v275, 0)
   else
    some (l261, l262, l263, l264, a2, r29, v265, v266, v267, v268, v269, v270, v271, v272, v273, v274, v275, 0)
 | Sum.inr () =>
  some ([], [], [], [], 0, 0, (⟨#[]⟩ : ByteArray), (⟨#[]⟩ : ByteArray), (⟨#[]⟩ : ByteArray), (⟨#[]⟩ : ByteArray), (⟨#[]⟩ : ByteArray), 0, 0, 0, 0, 0, 0, 22)

def palingref03_Ints_L1 (a1 : List Int) (a2 : List Int) (v4 : Int) : Option ((Int) ⊕ (Unit ⊕ Unit)) :=
 if (decide (v4 < (a1.length : Int))) = true then
  (nth a1 v4).bind fun x6 =>
  (nth a2 v4).bind fun x8 =>
  if (x6 != x8) = true then
   some (Sum.inr (Sum.inl ()))
  else
   some (Sum.inl (wr_i64 (v4 + 1)))
 else
  some (Sum.inr (Sum.inr ()))

def palingref03_Ints (a1 : List Int) (a2 : List Int) : Option (Bool) :=
 if ((a1.length : Int) != (a2.length : Int)) = true then
  some false
 else
  (loopM (palingref03_Ints_L1 a1 a2) 0).bind fun r12 => match r12 with
  | Sum.inl () =>
   some false
  | Sum.inr () =>
   some true

def palingref03_Addrs_L1 (a1 : List Int) (a2 : List Int) (v4 : Int) : Option ((Int) ⊕ (Unit ⊕ Unit)) :=
 if (decide (v4 < (a1.length : Int))) = true then
  (nth a1 v4).bind fun x6 =>
  (nth a2 v4).bind fun x8 =>
  if (x6 != x8) = true then
   some (Sum.inr (Sum.inl ()))
  else
   some (Sum.inl (wr_i64 (v4 + 1)))
 else
  some (Sum.inr (Sum.inr ()))

def palingref03_Addrs (a1 : List Int) (a2 : List Int) : Option (Bool) :=
 if ((a1.length : Int) != (a2.length : Int)) = true then
  some false
 else
  (loopM (palingref03_Addrs_L1 a1 a2) 0).bind fun r12 => match r12 with
  | Sum.inl () =>
   some false
  | Sum.inr () =>
   some true

def palingref11_Same (a1 : Api_Line) (a2 : Api_Line) : Option (Bool) :=
 if (a1.row == a2.row) = true then
  if (a1.kind == a2.kind) = true then
   if (seqB a1.dev a2.dev) = true then
    if (seqB a1.port a2.port) = true then
     if (seqB a1.peer a2.peer) = true then
      if (seqB a1.far a2.far) = true then
       if (seqB a1.name a2.name) = true then
        if (a1.mac == a2.mac) = true then
         if (a1.addr == a2.addr) = true then
          if (a1.bits == a2.bits) = true then
           if (a1.vlan == a2.vlan) = true then
            if (a1.num == a2.num) = true then
             if (a1.cost == a2.cost) = true then
              (palingref03_Ints a1.tagged a2.tagged).bind fun r16 =>
              if (r16) = true then
               (palingref03_Ints a1.imports a2.imports).bind fun r19 =>
               if (r19) = true then
                (palingref03_Ints a1.exports a2.exports).bind fun r22 =>
                if (r22) = true then
                 (palingref03_Addrs a1.addrs a2.addrs).bind fun r25 =>
                 some r25
                else
                 some false
               else
                some false
              else
               some false
             else
              some false
            else
             some false
           else
            some false
          else
           some false
         else
          some false
        else
         some false
       else
        some false
      else
       some false
     else
      some false
    else
     some false
   else
    some false
  else
   some false
 else
  some false

def palingref11_Right (a1 : Api_Line) : Option (Bool) :=
 if (decide ((a1.tagged.length : Int) > 16)) = true then
  some false
 else
  if (decide ((a1.imports.length : Int) > 16)) = true then
   some false
  else
   if (decide ((a1.exports.length : Int) > 16)) = true then
    some false
   else
    if (decide ((a1.addrs.length : Int) > 16)) = true then
     some false
    else
     (palingref11_Words a1).bind fun r6 => match r6 with
     | l8 =>
      (palingref11_Read l8 a1.row).bind fun r9 => match r9 with
      | (l11, l12, l13, l14, v15, v16, v17, v18, v19, v20, v21, v22, v23, v24, v25, v26, v27, v28) =>
       if (v28 == 0) = true then
        (palingref11_Same a1 (⟨v15, v16, v17, v18, v19, v20, v21, v22, v23, v24, v25, v26, v27, l11, l12, l13, l14⟩ : Api_Line)).bind fun r30 =>
        some r30
       else
        some false

def palingref15_Place (a1 : Int) (a2 : Int) : Option (Bool) :=
 if (decide (a1 ≥ 0)) = true then
  some (decide (a1 < a2))
 else
  some false

def palingref15_At_L1 (a1 : Api_Net) (a2 : Int) (a3 : Int) (v4 : Int) : Option ((Int) ⊕ (Int ⊕ Unit)) :=
 if (decide (v4 < (a1.domains.length : Int))) = true then
  (nth a1.domains v4).bind fun x6 =>
  if (x6.dev == a2) = true then
   (nth a1.domains v4).bind fun x9 =>
   if (x9.vlan == a3) = true then
    some (Sum.inr (Sum.inl v4))
   else
    some (Sum.inl (wr_i64 (v4 + 1)))
  else
   some (Sum.inl (wr_i64 (v4 + 1)))
 else
  some (Sum.inr (Sum.inr ()))

def palingref15_At (a1 : Api_Net) (a2 : Int) (a3 : Int) : Option (Int) :=
 (loopM (palingref15_At_L1 a1 a2 a3) 0).bind fun r15 => match r15 with
 | Sum.inl v13 =>
  some v13
 | Sum.inr () =>
  some (-1)

def palingref15_In_L1 (a1 : List Int) (a2 : Int) (v3 : Int) : Option ((Int) ⊕ (Unit ⊕ Unit)) :=
 if (decide (v3 < (a1.length : Int))) = true then
  (nth a1 v3).bind fun x5 =>
  if (x5 == a2) = true then
   some (Sum.inr (Sum.inl ()))
  else
   some (Sum.inl (wr_i64 (v3 + 1)))
 else
  some (Sum.inr (Sum.inr ()))

def palingref15_In (a1 : List Int) (a2 : Int) : Option (Bool) :=
 (loopM (palingref15_In_L1 a1 a2) 0).bind fun r9 => match r9 with
 | Sum.inl () =>
  some true
 | Sum.inr () =>
  some false

def palingref15_peer (a1 : Api_Net) (a2 : Int) (a3 : Int) : Option (Bool) :=
 (palingref15_Place a3 (a1.domains.length : Int)).bind fun r4 =>
 if (!r4) = true then
  some false
 else
  if (a3 == a2) = true then
   some false
  else
   (nth a1.domains a2).bind fun x8 =>
   (nth a1.domains a3).bind fun x10 =>
   if (x8.dev != x10.dev) = true then
    if (x8.vni == x10.vni) = true then
     if (x8.vni != 0) = true then
      (nth a1.devices x8.dev).bind fun x15 =>
      if (x15.vtep != 0) = true then
       (nth a1.devices x10.dev).bind fun x18 =>
       if (x18.vtep != 0) = true then
        (palingref15_In x10.peers a2).bind fun r21 =>
        some r21
       else
        some false
      else
       some false
     else
      some false
    else
     some false
   else
    some false

def palingref15_domains_L1 (a1 : Api_Net) (v2 : Int) : Option ((Int) ⊕ (Unit ⊕ Unit)) :=
 if (decide (v2 < (a1.domains.length : Int))) = true then
  (nth a1.domains v2).bind fun x4 =>
  (palingref15_Place x4.dev (a1.devices.length : Int)).bind fun r6 =>
  if (!r6) = true then
   some (Sum.inr (Sum.inl ()))
  else
   if (decide (x4.vlan < 1)) = true then
    some (Sum.inr (Sum.inl ()))
   else
    if (decide (x4.vlan > 4094)) = true then
     some (Sum.inr (Sum.inl ()))
    else
     if (decide (x4.vni < 0)) = true then
      some (Sum.inr (Sum.inl ()))
     else
      if (decide (x4.vni ≥ 16777216)) = true then
       some (Sum.inr (Sum.inl ()))
      else
       (palingref15_At a1 x4.dev x4.vlan).bind fun r13 =>
       if (r13 != v2) = true then
        some (Sum.inr (Sum.inl ()))
       else
        if (x4.irb != (-1)) = true then
         (palingref15_Place x4.irb (a1.irbs.length : Int)).bind fun r17 =>
         if (!r17) = true then
          some (Sum.inr (Sum.inl ()))
         else
          (nth a1.irbs x4.irb).bind fun x20 =>
          if (x20.domain != v2) = true then
           some (Sum.inr (Sum.inl ()))
          else
           some (Sum.inl (wr_i64 (v2 + 1)))
        else
         some (Sum.inl (wr_i64 (v2 + 1)))
 else
  some (Sum.inr (Sum.inr ()))

def palingref15_domains_L3 (a1 : Api_Net) (v25 : Int) (x27 : Api_Domain) (v29 : Int) : Option ((Int) ⊕ (Unit ⊕ Unit)) :=
 if (decide (v29 < (x27.peers.length : Int))) = true then
  (nth x27.peers v29).bind fun x31 =>
  (palingref15_peer a1 v25 x31).bind fun r33 =>
  if (!r33) = true then
   some (Sum.inr (Sum.inl ()))
  else
   if (slok (List.length x27.peers) 0 v29) = true then
    (nth x27.peers v29).bind fun x37 =>
    (palingref15_In (List.drop (Int.toNat 0) (List.take (Int.toNat v29) x27.peers)) x37).bind fun r39 =>
    if (r39) = true then
     some (Sum.inr (Sum.inl ()))
    else
     some (Sum.inl (wr_i64 (v29 + 1)))
   else
    none
 else
  some (Sum.inr (Sum.inr ()))

def palingref15_domains_L2 (a1 : Api_Net) (v25 : Int) : Option ((Int) ⊕ (Unit ⊕ Unit)) :=
 if (decide (v25 < (a1.domains.length : Int))) = true then
  (nth a1.domains v25).bind fun x27 =>
  (loopM (palingref15_domains_L3 a1 v25 x27) 0).bind fun r43 => match r43 with
  | Sum.inl () =>
   some (Sum.inr (Sum.inl ()))
  | Sum.inr () =>
   some (Sum.inl (wr_i64 (v25 + 1)))
 else
  some (Sum.inr (Sum.inr ()))

def palingref15_domains (a1 : Api_Net) : Option (Bool) :=
 (loopM (palingref15_domains_L1 a1) 0).bind fun r24 => match r24 with
 | Sum.inl () =>
  some false
 | Sum.inr () =>
  (loopM (palingref15_domains_L2 a1) 0).bind fun r45 => match r45 with
  | Sum.inl () =>
   some false
  | Sum.inr () =>
   some true

def palingref15_rising (a1 : List Int) (a2 : Int) : Option (Bool) :=
 if ((a1.length : Int) == 0) = true then
  some true
 else
  (palingref03_Rising a1 1 a2).bind fun r4 =>
  some r4

def palingref15_ports_J2 (a1 : Api_Net) (v2 : Int) (x4 : Api_Port) : Option (Unit ⊕ Unit) :=
 if (x4.native == 0) = true then
  if ((x4.tagged.length : Int) == 0) = true then
   some (Sum.inl ())
  else
   if (decide (x4.native > 0)) = true then
    (palingref15_At a1 x4.dev x4.native).bind fun r20 =>
    if (decide (r20 < 0)) = true then
     some (Sum.inl ())
    else
     some (Sum.inr ())
   else
    some (Sum.inr ())
 else
  if (decide (x4.native > 0)) = true then
   (palingref15_At a1 x4.dev x4.native).bind fun r24 =>
   if (decide (r24 < 0)) = true then
    some (Sum.inl ())
   else
    some (Sum.inr ())
  else
   some (Sum.inr ())

def palingref15_ports_L3 (a1 : Api_Net) (v2 : Int) (x4 : Api_Port) (v29 : Int) : Option ((Int) ⊕ (Unit ⊕ Unit)) :=
 if (decide (v29 < (x4.tagged.length : Int))) = true then
  (nth x4.tagged v29).bind fun x31 =>
  (palingref15_At a1 x4.dev x31).bind fun r33 =>
  if (decide (r33 < 0)) = true then
   some (Sum.inr (Sum.inl ()))
  else
   some (Sum.inl (wr_i64 (v29 + 1)))
 else
  some (Sum.inr (Sum.inr ()))

def palingref15_ports_L1 (a1 : Api_Net) (v2 : Int) : Option ((Int) ⊕ (Unit ⊕ Unit)) :=
 if (decide (v2 < (a1.ports.length : Int))) = true then
  (nth a1.ports v2).bind fun x4 =>
  (palingref15_Place x4.dev (a1.devices.length : Int)).bind fun r6 =>
  if (!r6) = true then
   some (Sum.inr (Sum.inl ()))
  else
   if (decide (x4.native < 0)) = true then
    some (Sum.inr (Sum.inl ()))
   else
    if (decide (x4.native > 4094)) = true then
     some (Sum.inr (Sum.inl ()))
    else
     (palingref15_rising x4.tagged 4094).bind fun r11 =>
     if (!r11) = true then
      some (Sum.inr (Sum.inl ()))
     else
      (palingref15_In x4.tagged x4.native).bind fun r14 =>
      if (r14) = true then
       some (Sum.inr (Sum.inl ()))
      else
       (palingref15_ports_J2 a1 v2 x4).bind fun r28 => match r28 with
       | Sum.inl () =>
        some (Sum.inr (Sum.inl ()))
       | Sum.inr () =>
        (loopM (palingref15_ports_L3 a1 v2 x4) 0).bind fun r37 => match r37 with
        | Sum.inl () =>
         some (Sum.inr (Sum.inl ()))
        | Sum.inr () =>
         if (x4.link == (-1)) = true then
          some (Sum.inl (wr_i64 (v2 + 1)))
         else
          (palingref15_Place x4.link (a1.links.length : Int)).bind fun r39 =>
          if (!r39) = true then
           some (Sum.inr (Sum.inl ()))
          else
           (nth a1.links x4.link).bind fun x42 =>
           if (x42.a != v2) = true then
            (nth a1.links x4.link).bind fun x45 =>
            if (x45.b != v2) = true then
             some (Sum.inr (Sum.inl ()))
            else
             some (Sum.inl (wr_i64 (v2 + 1)))
           else
            some (Sum.inl (wr_i64 (v2 + 1)))
 else
  some (Sum.inr (Sum.inr ()))

def palingref15_ports (a1 : Api_Net) : Option (Bool) :=
 (loopM (palingref15_ports_L1 a1) 0).bind fun r49 => match r49 with
 | Sum.inl () =>
  some false
 | Sum.inr () =>
  some true

def palingref15_links_L1 (a1 : Api_Net) (v2 : Int) : Option ((Int) ⊕ (Unit ⊕ Unit)) :=
 if (decide (v2 < (a1.links.length : Int))) = true then
  (nth a1.links v2).bind fun x4 =>
  (palingref15_Place x4.a (a1.ports.length : Int)).bind fun r6 =>
  if (!r6) = true then
   some (Sum.inr (Sum.inl ()))
  else
   (palingref15_Place x4.b (a1.ports.length : Int)).bind fun r9 =>
   if (!r9) = true then
    some (Sum.inr (Sum.inl ()))
   else
    (nth a1.ports x4.a).bind fun x12 =>
    (nth a1.ports x4.b).bind fun x14 =>
    if (x12.dev == x14.dev) = true then
     some (Sum.inr (Sum.inl ()))
    else
     (nth a1.ports x4.a).bind fun x17 =>
     if (x17.link != v2) = true then
      some (Sum.inr (Sum.inl ()))
     else
      (nth a1.ports x4.b).bind fun x20 =>
      if (x20.link != v2) = true then
       some (Sum.inr (Sum.inl ()))
      else
       some (Sum.inl (wr_i64 (v2 + 1)))
 else
  some (Sum.inr (Sum.inr ()))

def palingref15_links (a1 : Api_Net) : Option (Bool) :=
 (loopM (palingref15_links_L1 a1) 0).bind fun r24 => match r24 with
 | Sum.inl () =>
  some false
 | Sum.inr () =>
  some true

def palingref15_Member (a1 : Api_Port) (a2 : Int) : Option (Bool) :=
 if (a2 != 0) = true then
  if (a1.native == a2) = true then
   some true
  else
   (palingref15_In a1.tagged a2).bind fun r5 =>
   some r5
 else
  some false

def palingref15_rest_L1 (a1 : Api_Net) (v2 : Int) : Option ((Int) ⊕ (Unit ⊕ Unit)) :=
 if (decide (v2 < (a1.statics.length : Int))) = true then
  (nth a1.statics v2).bind fun x4 =>
  (palingref15_Place x4.domain (a1.domains.length : Int)).bind fun r6 =>
  if (!r6) = true then
   some (Sum.inr (Sum.inl ()))
  else
   (palingref15_Place x4.port (a1.ports.length : Int)).bind fun r9 =>
   if (!r9) = true then
    some (Sum.inr (Sum.inl ()))
   else
    (nth a1.domains x4.domain).bind fun x12 =>
    (nth a1.ports x4.port).bind fun x14 =>
    if (x14.dev != x12.dev) = true then
     some (Sum.inr (Sum.inl ()))
    else
     (nth a1.ports x4.port).bind fun x17 =>
     (palingref15_Member x17 x12.vlan).bind fun r19 =>
     if (!r19) = true then
      some (Sum.inr (Sum.inl ()))
     else
      some (Sum.inl (wr_i64 (v2 + 1)))
 else
  some (Sum.inr (Sum.inr ()))

def palingref15_rest_L2 (a1 : Api_Net) (v24 : Int) : Option ((Int) ⊕ (Unit ⊕ Unit)) :=
 if (decide (v24 < (a1.floods.length : Int))) = true then
  (nth a1.floods v24).bind fun x26 =>
  (palingref15_Place x26.dev (a1.devices.length : Int)).bind fun r28 =>
  if (!r28) = true then
   some (Sum.inr (Sum.inl ()))
  else
   (nth a1.floods v24).bind fun x31 =>
   if (decide ((x31.addrs.length : Int) > 16)) = true then
    some (Sum.inr (Sum.inl ()))
   else
    some (Sum.inl (wr_i64 (v24 + 1)))
 else
  some (Sum.inr (Sum.inr ()))

def palingref15_rest_L3 (a1 : Api_Net) (v36 : Int) : Option ((Int) ⊕ (Unit ⊕ Unit)) :=
 if (decide (v36 < (a1.vrfs.length : Int))) = true then
  (nth a1.vrfs v36).bind fun x38 =>
  (palingref15_Place x38.dev (a1.devices.length : Int)).bind fun r40 =>
  if (!r40) = true then
   some (Sum.inr (Sum.inl ()))
  else
   (palingref15_rising x38.imports 65535).bind fun r43 =>
   if (!r43) = true then
    some (Sum.inr (Sum.inl ()))
   else
    (palingref15_rising x38.exports 65535).bind fun r46 =>
    if (!r46) = true then
     some (Sum.inr (Sum.inl ()))
    else
     some (Sum.inl (wr_i64 (v36 + 1)))
 else
  some (Sum.inr (Sum.inr ()))

def palingref15_rest_L4 (a1 : Api_Net) (v51 : Int) : Option ((Int) ⊕ (Unit ⊕ Unit)) :=
 if (decide (v51 < (a1.irbs.length : Int))) = true then
  (nth a1.irbs v51).bind fun x53 =>
  (palingref15_Place x53.domain (a1.domains.length : Int)).bind fun r55 =>
  if (!r55) = true then
   some (Sum.inr (Sum.inl ()))
  else
   (palingref15_Place x53.vrf (a1.vrfs.length : Int)).bind fun r58 =>
   if (!r58) = true then
    some (Sum.inr (Sum.inl ()))
   else
    if (decide (x53.net.bits < 1)) = true then
     some (Sum.inr (Sum.inl ()))
    else
     if (decide (x53.net.bits > 30)) = true then
      some (Sum.inr (Sum.inl ()))
     else
      (nth a1.domains x53.domain).bind fun x63 =>
      (nth a1.vrfs x53.vrf).bind fun x65 =>
      if (x63.dev != x65.dev) = true then
       some (Sum.inr (Sum.inl ()))
      else
       (nth a1.domains x53.domain).bind fun x68 =>
       if (x68.irb != v51) = true then
        some (Sum.inr (Sum.inl ()))
       else
        some (Sum.inl (wr_i64 (v51 + 1)))
 else
  some (Sum.inr (Sum.inr ()))

def palingref15_rest (a1 : Api_Net) : Option (Bool) :=
 (loopM (palingref15_rest_L1 a1) 0).bind fun r23 => match r23 with
 | Sum.inl () =>
  some false
 | Sum.inr () =>
  (loopM (palingref15_rest_L2 a1) 0).bind fun r35 => match r35 with
  | Sum.inl () =>
   some false
  | Sum.inr () =>
   (loopM (palingref15_rest_L3 a1) 0).bind fun r50 => match r50 with
   | Sum.inl () =>
    some false
   | Sum.inr () =>
    (loopM (palingref15_rest_L4 a1) 0).bind fun r72 => match r72 with
    | Sum.inl () =>
     some false
    | Sum.inr () =>
     some true

def palingref15_Right (a1 : Api_Net) : Option (Bool) :=
 if (decide ((a1.devices.length : Int) > 8)) = true then
  some false
 else
  if (decide ((a1.ports.length : Int) > 40)) = true then
   some false
  else
   if (decide ((a1.links.length : Int) > 20)) = true then
    some false
   else
    if (decide ((a1.domains.length : Int) > 48)) = true then
     some false
    else
     if (decide ((a1.statics.length : Int) > 64)) = true then
      some false
     else
      if (decide ((a1.floods.length : Int) > 48)) = true then
       some false
      else
       if (decide ((a1.vrfs.length : Int) > 16)) = true then
        some false
       else
        if (decide ((a1.irbs.length : Int) > 48)) = true then
         some false
        else
         (palingref15_domains a1).bind fun r10 =>
         if (r10) = true then
          (palingref15_ports a1).bind fun r13 =>
          if (r13) = true then
           (palingref15_links a1).bind fun r16 =>
           if (r16) = true then
            (palingref15_rest a1).bind fun r19 =>
            some r19
           else
            some false
          else
           some false
         else
          some false

def palingref16_Fits (a1 : Api_Net) (a2 : Api_Line) (a3 : Int) : Option (Bool) :=
 if (a2.kind == a3) = true then
  (palingref11_Right a2).bind fun r5 =>
  if (r5) = true then
   (palingref15_Right a1).bind fun r8 =>
   some r8
  else
   some false
 else
  some false

def palingref15_Device_L1 (a1 : Api_Net) (a2 : ByteArray) (v3 : Int) : Option ((Int) ⊕ (Int ⊕ Unit)) :=
 if (decide (v3 < (a1.devices.length : Int))) = true then
  (nth a1.devices v3).bind fun x5 =>
  if (seqB x5.name a2) = true then
   some (Sum.inr (Sum.inl v3))
  else
   some (Sum.inl (wr_i64 (v3 + 1)))
 else
  some (Sum.inr (Sum.inr ()))

def palingref15_Device (a1 : Api_Net) (a2 : ByteArray) : Option (Int) :=
 (loopM (palingref15_Device_L1 a1 a2) 0).bind fun r11 => match r11 with
 | Sum.inl v9 =>
  some v9
 | Sum.inr () =>
  some (-1)

def palingref15_Vrf_L1 (a1 : Api_Net) (a2 : Int) (a3 : ByteArray) (v4 : Int) : Option ((Int) ⊕ (Int ⊕ Unit)) :=
 if (decide (v4 < (a1.vrfs.length : Int))) = true then
  (nth a1.vrfs v4).bind fun x6 =>
  if (x6.dev == a2) = true then
   (nth a1.vrfs v4).bind fun x9 =>
   if (seqB x9.name a3) = true then
    some (Sum.inr (Sum.inl v4))
   else
    some (Sum.inl (wr_i64 (v4 + 1)))
  else
   some (Sum.inl (wr_i64 (v4 + 1)))
 else
  some (Sum.inr (Sum.inr ()))

def palingref15_Vrf (a1 : Api_Net) (a2 : Int) (a3 : ByteArray) : Option (Int) :=
 (loopM (palingref15_Vrf_L1 a1 a2 a3) 0).bind fun r15 => match r15 with
 | Sum.inl v13 =>
  some v13
 | Sum.inr () =>
  some (-1)

def palingref15_Copy_L1 (a1 : Api_Net) (l10 : List Api_Port) (v11 : Int) : Option (((List Api_Port) × Int) ⊕ ((List Api_Port))) :=
 if (decide (v11 < ((List.length a1.ports) : Int))) = true then
  if (lin l10 v11) = true then
   (l10[(Int.toNat v11)]?).bind fun x14 =>
   if (roomy 8 x14.tagged) = true then
    (l10[(Int.toNat v11)]?).bind fun x17 =>
    some (Sum.inl (List.set l10 (Int.toNat v11) (⟨x17.row, x17.dev, x17.native, x17.cost, x17.link, x17.name, x14.tagged⟩ : Api_Port), wr_i64 (v11 + 1)))
   else
    none
  else
   none
 else
  some (Sum.inr l10)

def palingref15_Copy_L2 (a1 : Api_Net) (l21 : List Api_Port) (l24 : List Api_Domain) (v25 : Int) : Option (((List Api_Domain) × Int) ⊕ ((List Api_Domain))) :=
 if (decide (v25 < ((List.length a1.domains) : Int))) = true then
  if (lin l24 v25) = true then
   (l24[(Int.toNat v25)]?).bind fun x28 =>
   if (roomy 8 x28.peers) = true then
    (l24[(Int.toNat v25)]?).bind fun x31 =>
    some (Sum.inl (List.set l24 (Int.toNat v25) (⟨x31.dev, x31.vlan, x31.vni, x31.irb, x31.row, x28.peers⟩ : Api_Domain), wr_i64 (v25 + 1)))
   else
    none
  else
   none
 else
  some (Sum.inr l24)

def palingref15_Copy_L3 (a1 : Api_Net) (l21 : List Api_Port) (l35 : List Api_Domain) (l38 : List Api_Flood) (v39 : Int) : Option (((List Api_Flood) × Int) ⊕ ((List Api_Flood))) :=
 if (decide (v39 < ((List.length a1.floods) : Int))) = true then
  if (lin l38 v39) = true then
   (l38[(Int.toNat v39)]?).bind fun x42 =>
   if (roomy 4 x42.addrs) = true then
    (l38[(Int.toNat v39)]?).bind fun x45 =>
    some (Sum.inl (List.set l38 (Int.toNat v39) (⟨x45.row, x45.dev, x45.vni, x42.addrs⟩ : Api_Flood), wr_i64 (v39 + 1)))
   else
    none
  else
   none
 else
  some (Sum.inr l38)

def palingref15_Copy_L4 (a1 : Api_Net) (l21 : List Api_Port) (l35 : List Api_Domain) (l49 : List Api_Flood) (l52 : List Api_Vrf) (v53 : Int) : Option (((List Api_Vrf) × Int) ⊕ ((List Api_Vrf))) :=
 if (decide (v53 < ((List.length a1.vrfs) : Int))) = true then
  if (lin l52 v53) = true then
   (l52[(Int.toNat v53)]?).bind fun x56 =>
   if (roomy 8 x56.imports) = true then
    (l52[(Int.toNat v53)]?).bind fun x59 =>
    if (lin (List.set l52 (Int.toNat v53) (⟨x59.row, x59.dev, x59.name, x56.imports, x59.exports⟩ : Api_Vrf)) v53) = true then
     ((List.set l52 (Int.toNat v53) (⟨x59.row, x59.dev, x59.name, x56.imports, x59.exports⟩ : Api_Vrf))[(Int.toNat v53)]?).bind fun x62 =>
     if (roomy 8 x62.exports) = true then
      ((List.set l52 (Int.toNat v53) (⟨x59.row, x59.dev, x59.name, x56.imports, x59.exports⟩ : Api_Vrf))[(Int.toNat v53)]?).bind fun x65 =>
      some (Sum.inl (List.set (List.set l52 (Int.toNat v53) (⟨x59.row, x59.dev, x59.name, x56.imports, x59.exports⟩ : Api_Vrf)) (Int.toNat v53) (⟨x65.row, x65.dev, x65.name, x65.imports, x62.exports⟩ : Api_Vrf), wr_i64 (v53 + 1)))
     else
      none
    else
     none
   else
    none
  else
   none
 else
  some (Sum.inr l52)

def palingref15_Copy (a1 : Api_Net) : Option (((List Api_Port) × (List Api_Domain) × (List Api_Flood) × (List Api_Vrf))) :=
 if (roomy 48 a1.devices) = true then
  if (roomy 80 a1.ports) = true then
   if (roomy 24 a1.links) = true then
    if (roomy 64 a1.domains) = true then
     if (roomy 32 a1.statics) = true then
      if (roomy 48 a1.floods) = true then
       if (roomy 80 a1.vrfs) = true then
        if (roomy 40 a1.irbs) = true then
         (loopM (fun s : (List Api_Port) × Int => match s with | (l10, v11) => palingref15_Copy_L1 a1 l10 v11) (a1.ports, 0)).bind fun r23 => match r23 with
         | l21 =>
          (loopM (fun s : (List Api_Domain) × Int => match s with | (l24, v25) => palingref15_Copy_L2 a1 l21 l24 v25) (a1.domains, 0)).bind fun r37 => match r37 with
          | l35 =>
           (loopM (fun s : (List Api_Flood) × Int => match s with | (l38, v39) => palingref15_Copy_L3 a1 l21 l35 l38 v39) (a1.floods, 0)).bind fun r51 => match r51 with
           | l49 =>
            (loopM (fun s : (List Api_Vrf) × Int => match s with | (l52, v53) => palingref15_Copy_L4 a1 l21 l35 l49 l52 v53) (a1.vrfs, 0)).bind fun r71 => match r71 with
            | l69 =>
             some (l21, l35, l49, l69)
        else
         none
       else
        none
      else
       none
     else
      none
    else
     none
   else
    none
  else
   none
 else
  none

def palingref20_Vrf (a1 : Api_Net) (a2 : Api_Line) : Option (((List Api_Device) × (List Api_Port) × (List Api_Link) × (List Api_Domain) × (List Api_Static) × (List Api_Flood) × (List Api_Vrf) × (List Api_Irb) × Nat × Nat × Nat × Int)) :=
 (palingref16_Fits a1 a2 8).bind fun r3 =>
 if (!r3) = true then
  some ([], [], [], [], [], [], [], [], 0, 0, 0, 2)
 else
  (palingref15_Device a1 a2.dev).bind fun r6 =>
  if (decide (r6 < 0)) = true then
   some ([], [], [], [], [], [], [], [], 0, 0, 0, 31)
  else
   (palingref15_Vrf a1 r6 a2.name).bind fun r9 =>
   if (decide (r9 ≥ 0)) = true then
    some ([], [], [], [], [], [], [], [], 0, 0, 0, 30)
   else
    if (decide ((a1.vrfs.length : Int) ≥ 16)) = true then
     some ([], [], [], [], [], [], [], [], 0, 0, 0, 3)
    else
     (palingref15_Copy a1).bind fun r13 => match r13 with
     | (l15, l16, l17, l18) =>
      if (roomy 8 a2.imports) = true then
       if (roomy 8 a2.exports) = true then
        if (roomy 80 (l18 ++ [(⟨a2.row, r6, a2.name, a2.imports, a2.exports⟩ : Api_Vrf)])) = true then
         some (a1.devices, l15, a1.links, l16, a1.statics, l17, l18 ++ [(⟨a2.row, r6, a2.name, a2.imports, a2.exports⟩ : Api_Vrf)], a1.irbs, (List.length a1.ports), (List.length a1.domains), (List.length a1.floods), 0)
        else
         none
       else
        none
      else
       none

def palingref02_Has (a1 : Api_Prefix) (a2 : Int) : Option (Bool) :=
 (palingref02_Right a1).bind fun r3 =>
 if (r3) = true then
  (palingref02_First a1).bind fun r6 =>
  if (decide (a2 ≥ r6)) = true then
   (palingref02_Last a1).bind fun r9 =>
   some (decide (a2 ≤ r9))
  else
   some false
 else
  some false

def palingref20_taken_L1 (a1 : Api_Net) (a2 : Int) (a3 : Api_Prefix) (v4 : Int) : Option ((Int) ⊕ (Unit ⊕ Unit)) :=
 if (decide (v4 < (a1.irbs.length : Int))) = true then
  (nth a1.irbs v4).bind fun x6 =>
  if (x6.net.addr == a3.addr) = true then
   some (Sum.inr (Sum.inl ()))
  else
   (nth a1.domains x6.domain).bind fun x9 =>
   if (x9.dev != a2) = true then
    (palingref02_Has a3 x6.net.addr).bind fun r12 =>
    if (r12) = true then
     some (Sum.inr (Sum.inl ()))
    else
     (palingref02_Has x6.net a3.addr).bind fun r15 =>
     if (r15) = true then
      some (Sum.inr (Sum.inl ()))
     else
      some (Sum.inl (wr_i64 (v4 + 1)))
   else
    some (Sum.inl (wr_i64 (v4 + 1)))
 else
  some (Sum.inr (Sum.inr ()))

def palingref20_taken (a1 : Api_Net) (a2 : Int) (a3 : Api_Prefix) : Option (Bool) :=
 (loopM (palingref20_taken_L1 a1 a2 a3) 0).bind fun r19 => match r19 with
 | Sum.inl () =>
  some true
 | Sum.inr () =>
  some false

def palingref20_Irb (a1 : Api_Net) (a2 : Api_Line) : Option (((List Api_Device) × (List Api_Port) × (List Api_Link) × (List Api_Domain) × (List Api_Static) × (List Api_Flood) × (List Api_Vrf) × (List Api_Irb) × Nat × Nat × Nat × Nat × Int)) :=
 (palingref16_Fits a1 a2 9).bind fun r3 =>
 if (!r3) = true then
  some ([], [], [], [], [], [], [], [], 0, 0, 0, 0, 2)
 else
  (palingref15_Device a1 a2.dev).bind fun r6 =>
  if (decide (r6 < 0)) = true then
   some ([], [], [], [], [], [], [], [], 0, 0, 0, 0, 31)
  else
   (palingref15_Vrf a1 r6 a2.name).bind fun r9 =>
   if (decide (r9 < 0)) = true then
    some ([], [], [], [], [], [], [], [], 0, 0, 0, 0, 31)
   else
    (palingref15_At a1 r6 a2.vlan).bind fun r12 =>
    if (decide (r12 < 0)) = true then
     some ([], [], [], [], [], [], [], [], 0, 0, 0, 0, 32)
    else
     (nth a1.domains r12).bind fun x15 =>
     if (x15.irb != (-1)) = true then
      some ([], [], [], [], [], [], [], [], 0, 0, 0, 0, 37)
     else
      (palingref20_taken a1 r6 (⟨a2.addr, a2.bits⟩ : Api_Prefix)).bind fun r18 =>
      if (r18) = true then
       some ([], [], [], [], [], [], [], [], 0, 0, 0, 0, 37)
      else
       (palingref15_Copy a1).bind fun r21 => match r21 with
       | (l23, l24, l25, l26) =>
        if (lin l24 r12) = true then
         (l24[(Int.toNat r12)]?).bind fun x28 =>
         (palingref15_Vrf a1 r6 a2.name).bind fun r30 =>
         if (roomy 40 (a1.irbs ++ [(⟨a2.row, r12, r30, (⟨a2.addr, a2.bits⟩ : Api_Prefix)⟩ : Api_Irb)])) = true then
          some (a1.devices, l23, a1.links, List.set l24 (Int.toNat r12) (⟨x28.dev, x28.vlan, x28.vni, (a1.irbs.length : Int), x28.row, x28.peers⟩ : Api_Domain), a1.statics, l25, l26, a1.irbs ++ [(⟨a2.row, r12, r30, (⟨a2.addr, a2.bits⟩ : Api_Prefix)⟩ : Api_Irb)], (List.length a1.ports), (List.length a1.domains), (List.length a1.floods), (List.length a1.vrfs), 0)
         else
          none
        else
         none

def palingref15_tops_L1 (a1 : Api_Net) (a2 : Api_Net) (v7 : Int) : Option ((Int) ⊕ (Unit ⊕ Unit)) :=
 if (decide (v7 < (a1.devices.length : Int))) = true then
  (nth a1.devices v7).bind fun x9 =>
  (nth a2.devices v7).bind fun x11 =>
  if (!(eq_Api_Device x9 x11)) = true then
   some (Sum.inr (Sum.inl ()))
  else
   some (Sum.inl (wr_i64 (v7 + 1)))
 else
  some (Sum.inr (Sum.inr ()))

def palingref15_tops_L2 (a1 : Api_Net) (a2 : Api_Net) (v16 : Int) : Option ((Int) ⊕ (Unit ⊕ Unit)) :=
 if (decide (v16 < (a1.links.length : Int))) = true then
  (nth a1.links v16).bind fun x18 =>
  (nth a2.links v16).bind fun x20 =>
  if (!(eq_Api_Link x18 x20)) = true then
   some (Sum.inr (Sum.inl ()))
  else
   some (Sum.inl (wr_i64 (v16 + 1)))
 else
  some (Sum.inr (Sum.inr ()))

def palingref15_tops_L3 (a1 : Api_Net) (a2 : Api_Net) (v25 : Int) : Option ((Int) ⊕ (Unit ⊕ Unit)) :=
 if (decide (v25 < (a1.statics.length : Int))) = true then
  (nth a1.statics v25).bind fun x27 =>
  (nth a2.statics v25).bind fun x29 =>
  if (!(eq_Api_Static x27 x29)) = true then
   some (Sum.inr (Sum.inl ()))
  else
   some (Sum.inl (wr_i64 (v25 + 1)))
 else
  some (Sum.inr (Sum.inr ()))

def palingref15_tops_L4 (a1 : Api_Net) (a2 : Api_Net) (v34 : Int) : Option ((Int) ⊕ (Unit ⊕ Unit)) :=
 if (decide (v34 < (a1.irbs.length : Int))) = true then
  (nth a1.irbs v34).bind fun x36 =>
  (nth a2.irbs v34).bind fun x38 =>
  if (!(eq_Api_Irb x36 x38)) = true then
   some (Sum.inr (Sum.inl ()))
  else
   some (Sum.inl (wr_i64 (v34 + 1)))
 else
  some (Sum.inr (Sum.inr ()))

def palingref15_tops (a1 : Api_Net) (a2 : Api_Net) : Option (Bool) :=
 if ((a1.devices.length : Int) != (a2.devices.length : Int)) = true then
  some false
 else
  if ((a1.links.length : Int) != (a2.links.length : Int)) = true then
   some false
  else
   if ((a1.statics.length : Int) != (a2.statics.length : Int)) = true then
    some false
   else
    if ((a1.irbs.length : Int) != (a2.irbs.length : Int)) = true then
     some false
    else
     (loopM (palingref15_tops_L1 a1 a2) 0).bind fun r15 => match r15 with
     | Sum.inl () =>
      some false
     | Sum.inr () =>
      (loopM (palingref15_tops_L2 a1 a2) 0).bind fun r24 => match r24 with
      | Sum.inl () =>
       some false
      | Sum.inr () =>
       (loopM (palingref15_tops_L3 a1 a2) 0).bind fun r33 => match r33 with
       | Sum.inl () =>
        some false
       | Sum.inr () =>
        (loopM (palingref15_tops_L4 a1 a2) 0).bind fun r42 => match r42 with
        | Sum.inl () =>
         some false
        | Sum.inr () =>
         some true

def palingref15_Same_L1 (a1 : Api_Net) (a2 : Api_Net) (v10 : Int) : Option ((Int) ⊕ (Unit ⊕ Unit)) :=
 if (decide (v10 < (a1.ports.length : Int))) = true then
  (nth a1.ports v10).bind fun x12 =>
  (nth a2.ports v10).bind fun x14 =>
  if (x12.row != x14.row) = true then
   some (Sum.inr (Sum.inl ()))
  else
   if (x12.dev != x14.dev) = true then
    some (Sum.inr (Sum.inl ()))
   else
    if (x12.native != x14.native) = true then
     some (Sum.inr (Sum.inl ()))
    else
     if (x12.cost != x14.cost) = true then
      some (Sum.inr (Sum.inl ()))
     else
      if (x12.link != x14.link) = true then
       some (Sum.inr (Sum.inl ()))
      else
       if (!(seqB x12.name x14.name)) = true then
        some (Sum.inr (Sum.inl ()))
       else
        (palingref03_Ints x12.tagged x14.tagged).bind fun r22 =>
        if (!r22) = true then
         some (Sum.inr (Sum.inl ()))
        else
         some (Sum.inl (wr_i64 (v10 + 1)))
 else
  some (Sum.inr (Sum.inr ()))

def palingref15_Same_L2 (a1 : Api_Net) (a2 : Api_Net) (v27 : Int) : Option ((Int) ⊕ (Unit ⊕ Unit)) :=
 if (decide (v27 < (a1.domains.length : Int))) = true then
  (nth a1.domains v27).bind fun x29 =>
  (nth a2.domains v27).bind fun x31 =>
  if (x29.dev != x31.dev) = true then
   some (Sum.inr (Sum.inl ()))
  else
   if (x29.vlan != x31.vlan) = true then
    some (Sum.inr (Sum.inl ()))
   else
    if (x29.vni != x31.vni) = true then
     some (Sum.inr (Sum.inl ()))
    else
     if (x29.irb != x31.irb) = true then
      some (Sum.inr (Sum.inl ()))
     else
      if (x29.row != x31.row) = true then
       some (Sum.inr (Sum.inl ()))
      else
       (palingref03_Ints x29.peers x31.peers).bind fun r38 =>
       if (!r38) = true then
        some (Sum.inr (Sum.inl ()))
       else
        some (Sum.inl (wr_i64 (v27 + 1)))
 else
  some (Sum.inr (Sum.inr ()))

def palingref15_Same_L3 (a1 : Api_Net) (a2 : Api_Net) (v43 : Int) : Option ((Int) ⊕ (Unit ⊕ Unit)) :=
 if (decide (v43 < (a1.floods.length : Int))) = true then
  (nth a1.floods v43).bind fun x45 =>
  (nth a2.floods v43).bind fun x47 =>
  if (x45.row != x47.row) = true then
   some (Sum.inr (Sum.inl ()))
  else
   if (x45.dev != x47.dev) = true then
    some (Sum.inr (Sum.inl ()))
   else
    if (x45.vni != x47.vni) = true then
     some (Sum.inr (Sum.inl ()))
    else
     (palingref03_Addrs x45.addrs x47.addrs).bind fun r52 =>
     if (!r52) = true then
      some (Sum.inr (Sum.inl ()))
     else
      some (Sum.inl (wr_i64 (v43 + 1)))
 else
  some (Sum.inr (Sum.inr ()))

def palingref15_Same_L4 (a1 : Api_Net) (a2 : Api_Net) (v57 : Int) : Option ((Int) ⊕ (Unit ⊕ Unit)) :=
 if (decide (v57 < (a1.vrfs.length : Int))) = true then
  (nth a1.vrfs v57).bind fun x59 =>
  (nth a2.vrfs v57).bind fun x61 =>
  if (x59.row != x61.row) = true then
   some (Sum.inr (Sum.inl ()))
  else
   if (x59.dev != x61.dev) = true then
    some (Sum.inr (Sum.inl ()))
   else
    if (!(seqB x59.name x61.name)) = true then
     some (Sum.inr (Sum.inl ()))
    else
     (palingref03_Ints x59.imports x61.imports).bind fun r66 =>
     if (!r66) = true then
      some (Sum.inr (Sum.inl ()))
     else
      (palingref03_Ints x59.exports x61.exports).bind fun r69 =>
      if (!r69) = true then
       some (Sum.inr (Sum.inl ()))
      else
       some (Sum.inl (wr_i64 (v57 + 1)))
 else
  some (Sum.inr (Sum.inr ()))

def palingref15_Same (a1 : Api_Net) (a2 : Api_Net) : Option (Bool) :=
 (palingref15_tops a1 a2).bind fun r3 =>
 if (!r3) = true then
  some false
 else
  if ((a1.ports.length : Int) != (a2.ports.length : Int)) = true then
   some false
  else
   if ((a1.domains.length : Int) != (a2.domains.length : Int)) = true then
    some false
   else
    if ((a1.floods.length : Int) != (a2.floods.length : Int)) = true then
     some false
    else
     if ((a1.vrfs.length : Int) != (a2.vrfs.length : Int)) = true then
      some false
     else
      (loopM (palingref15_Same_L1 a1 a2) 0).bind fun r26 => match r26 with
      | Sum.inl () =>
       some false
      | Sum.inr () =>
       (loopM (palingref15_Same_L2 a1 a2) 0).bind fun r42 => match r42 with
       | Sum.inl () =>
        some false
       | Sum.inr () =>
        (loopM (palingref15_Same_L3 a1 a2) 0).bind fun r56 => match r56 with
        | Sum.inl () =>
         some false
        | Sum.inr () =>
         (loopM (palingref15_Same_L4 a1 a2) 0).bind fun r73 => match r73 with
         | Sum.inl () =>
          some false
         | Sum.inr () =>
          some true

def palinglaw20_VrfsPuts (a1 : Api_Net) (a2 : Api_Line) : Option (Bool) :=
 (palinglaw16_Great a1 a2).bind fun r3 =>
 if (r3) = true then
  (palinglaw20_works).bind fun r6 =>
  some r6
 else
  (vrfs_Vrf a1 a2).bind fun r8 => match r8 with
  | (l10, l11, l12, l13, l14, l15, l16, l17, n18, n19, n20, v21) =>
   (palingref20_Vrf a1 a2).bind fun r22 => match r22 with
   | (l24, l25, l26, l27, l28, l29, l30, l31, n32, n33, n34, v35) =>
    (vrfs_Irb a1 a2).bind fun r36 => match r36 with
    | (l38, l39, l40, l41, l42, l43, l44, l45, n46, n47, n48, n49, v50) =>
     (palingref20_Irb a1 a2).bind fun r51 => match r51 with
     | (l53, l54, l55, l56, l57, l58, l59, l60, n61, n62, n63, n64, v65) =>
      (palingref15_Same (⟨l10, l11, l12, l13, l14, l15, l16, l17⟩ : Api_Net) (⟨l24, l25, l26, l27, l28, l29, l30, l31⟩ : Api_Net)).bind fun r66 =>
      if (r66) = true then
       if (v21 == v35) = true then
        (palingref15_Same (⟨l38, l39, l40, l41, l42, l43, l44, l45⟩ : Api_Net) (⟨l53, l54, l55, l56, l57, l58, l59, l60⟩ : Api_Net)).bind fun r70 =>
        if (r70) = true then
         if (v50 == v65) = true then
          (palinglaw20_works).bind fun r74 =>
          some r74
         else
          some false
        else
         some false
       else
        some false
      else
       some false

end Go.Eng
