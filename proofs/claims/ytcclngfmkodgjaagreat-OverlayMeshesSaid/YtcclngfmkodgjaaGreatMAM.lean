/- Part of the proof of OverlayMeshes: printed mirrors of the functions, or their contracts. No conditions. -/
import Derived.Test.YtcclngfmkodgjaaGreatEng14
set_option linter.unusedVariables false
set_option maxRecDepth 100000
namespace Go.Eng
open Go
structure Api_Device where
 row : Int
 priority : Int
 name : ByteArray
 mac : Int
 vtep : Int
 deriving DecidableEq, Inhabited

def Api_Device.Ok (x : Api_Device) : Prop := (okI .i64) x.row ∧ (okI .i64) x.priority ∧ okS x.name ∧ (okI .u64) x.mac ∧ (okI .u32) x.vtep ∧ True

structure Api_Port where
 row : Int
 dev : Int
 native : Int
 cost : Int
 link : Int
 name : ByteArray
 tagged : List Int
 deriving DecidableEq, Inhabited

def Api_Port.Ok (x : Api_Port) : Prop := (okI .i64) x.row ∧ (okI .i64) x.dev ∧ (okI .i64) x.native ∧ (okI .i64) x.cost ∧ (okI .i64) x.link ∧ okS x.name ∧ (okL (okI .i64)) x.tagged ∧ True

structure Api_Link where
 row : Int
 a : Int
 b : Int
 deriving DecidableEq, Inhabited

def Api_Link.Ok (x : Api_Link) : Prop := (okI .i64) x.row ∧ (okI .i64) x.a ∧ (okI .i64) x.b ∧ True

structure Api_Domain where
 dev : Int
 vlan : Int
 vni : Int
 irb : Int
 row : Int
 peers : List Int
 deriving DecidableEq, Inhabited

def Api_Domain.Ok (x : Api_Domain) : Prop := (okI .i64) x.dev ∧ (okI .i64) x.vlan ∧ (okI .i64) x.vni ∧ (okI .i64) x.irb ∧ (okI .i64) x.row ∧ (okL (okI .i64)) x.peers ∧ True

structure Api_Static where
 row : Int
 domain : Int
 port : Int
 mac : Int
 deriving DecidableEq, Inhabited

def Api_Static.Ok (x : Api_Static) : Prop := (okI .i64) x.row ∧ (okI .i64) x.domain ∧ (okI .i64) x.port ∧ (okI .u64) x.mac ∧ True

structure Api_Flood where
 row : Int
 dev : Int
 vni : Int
 addrs : List Int
 deriving DecidableEq, Inhabited

def Api_Flood.Ok (x : Api_Flood) : Prop := (okI .i64) x.row ∧ (okI .i64) x.dev ∧ (okI .i64) x.vni ∧ (okL (okI .u32)) x.addrs ∧ True

structure Api_Vrf where
 row : Int
 dev : Int
 name : ByteArray
 imports : List Int
 exports : List Int
 deriving DecidableEq, Inhabited

def Api_Vrf.Ok (x : Api_Vrf) : Prop := (okI .i64) x.row ∧ (okI .i64) x.dev ∧ okS x.name ∧ (okL (okI .i64)) x.imports ∧ (okL (okI .i64)) x.exports ∧ True

structure Api_Prefix where
 addr : Int
 bits : Int
 deriving DecidableEq, Inhabited

def Api_Prefix.Ok (x : Api_Prefix) : Prop := (okI .u32) x.addr ∧ (okI .i64) x.bits ∧ True

structure Api_Irb where
 row : Int
 domain : Int
 vrf : Int
 net : Api_Prefix
 deriving DecidableEq, Inhabited

def Api_Irb.Ok (x : Api_Irb) : Prop := (okI .i64) x.row ∧ (okI .i64) x.domain ∧ (okI .i64) x.vrf ∧ Api_Prefix.Ok x.net ∧ True

structure Api_Net where
 devices : List Api_Device
 ports : List Api_Port
 links : List Api_Link
 domains : List Api_Domain
 statics : List Api_Static
 floods : List Api_Flood
 vrfs : List Api_Vrf
 irbs : List Api_Irb
 deriving DecidableEq, Inhabited

def Api_Net.Ok (x : Api_Net) : Prop := (okL Api_Device.Ok) x.devices ∧ (okL Api_Port.Ok) x.ports ∧ (okL Api_Link.Ok) x.links ∧ (okL Api_Domain.Ok) x.domains ∧ (okL Api_Static.Ok) x.statics ∧ (okL Api_Flood.Ok) x.floods ∧ (okL Api_Vrf.Ok) x.vrfs ∧ (okL Api_Irb.Ok) x.irbs ∧ True

structure Api_Line where
 row : Int
 kind : Int
 dev : ByteArray
 port : ByteArray
 peer : ByteArray
 far : ByteArray
 name : ByteArray
 mac : Int
 addr : Int
 bits : Int
 vlan : Int
 num : Int
 cost : Int
 tagged : List Int
 imports : List Int
 exports : List Int
 addrs : List Int
 deriving DecidableEq, Inhabited

def Api_Line.Ok (x : Api_Line) : Prop := (okI .i64) x.row ∧ (okI .i64) x.kind ∧ okS x.dev ∧ okS x.port ∧ okS x.peer ∧ okS x.far ∧ okS x.name ∧ (okI .u64) x.mac ∧ (okI .u32) x.addr ∧ (okI .i64) x.bits ∧ (okI .i64) x.vlan ∧ (okI .i64) x.num ∧ (okI .i64) x.cost ∧ (okL (okI .i64)) x.tagged ∧ (okL (okI .i64)) x.imports ∧ (okL (okI .i64)) x.exports ∧ (okL (okI .u32)) x.addrs ∧ True

structure Names_judge where
 n : Api_Net
 deriving DecidableEq, Inhabited

def Names_judge.Ok (x : Names_judge) : Prop := Api_Net.Ok x.n ∧ True

def eq_Api_Device (x y : Api_Device) : Bool := (x.row == y.row && (x.priority == y.priority && (seqB x.name y.name && (x.mac == y.mac && (x.vtep == y.vtep && true)))))

def eq_Api_Link (x y : Api_Link) : Bool := (x.row == y.row && (x.a == y.a && (x.b == y.b && true)))

def eq_Api_Static (x y : Api_Static) : Bool := (x.row == y.row && (x.domain == y.domain && (x.port == y.port && (x.mac == y.mac && true))))

def eq_Api_Prefix (x y : Api_Prefix) : Bool := (x.addr == y.addr && (x.bits == y.bits && true))

def eq_Api_Irb (x y : Api_Irb) : Bool := (x.row == y.row && (x.domain == y.domain && (x.vrf == y.vrf && (eq_Api_Prefix x.net y.net && true))))

def palinglaw15_Great_L1 (a1 : Api_Net) (v10 : Int) : Option ((Int) ⊕ (Unit ⊕ Unit)) :=
 if (decide (v10 < (a1.ports.length : Int))) = true then
  (nth a1.ports v10).bind fun x12 =>
  if (decide ((x12.tagged.length : Int) > 100)) = true then
   some (Sum.inr (Sum.inl ()))
  else
   some (Sum.inl (wr_i64 (v10 + 1)))
 else
  some (Sum.inr (Sum.inr ()))

def palinglaw15_Great_L2 (a1 : Api_Net) (v17 : Int) : Option ((Int) ⊕ (Unit ⊕ Unit)) :=
 if (decide (v17 < (a1.domains.length : Int))) = true then
  (nth a1.domains v17).bind fun x19 =>
  if (decide ((x19.peers.length : Int) > 100)) = true then
   some (Sum.inr (Sum.inl ()))
  else
   some (Sum.inl (wr_i64 (v17 + 1)))
 else
  some (Sum.inr (Sum.inr ()))

def palinglaw15_Great_L3 (a1 : Api_Net) (v24 : Int) : Option ((Int) ⊕ (Unit ⊕ Unit)) :=
 if (decide (v24 < (a1.floods.length : Int))) = true then
  (nth a1.floods v24).bind fun x26 =>
  if (decide ((x26.addrs.length : Int) > 100)) = true then
   some (Sum.inr (Sum.inl ()))
  else
   some (Sum.inl (wr_i64 (v24 + 1)))
 else
  some (Sum.inr (Sum.inr ()))

def palinglaw15_Great_L4 (a1 : Api_Net) (v31 : Int) : Option ((Int) ⊕ (Unit ⊕ Unit)) :=
 if (decide (v31 < (a1.vrfs.length : Int))) = true then
  (nth a1.vrfs v31).bind fun x33 =>
  if (decide ((x33.imports.length : Int) > 100)) = true then
   some (Sum.inr (Sum.inl ()))
  else
   (nth a1.vrfs v31).bind fun x36 =>
   if (decide ((x36.exports.length : Int) > 100)) = true then
    some (Sum.inr (Sum.inl ()))
   else
    some (Sum.inl (wr_i64 (v31 + 1)))
 else
  some (Sum.inr (Sum.inr ()))

def palinglaw15_Great (a1 : Api_Net) : Option (Bool) :=
 if (decide ((a1.devices.length : Int) > 200)) = true then
  some true
 else
  if (decide ((a1.ports.length : Int) > 200)) = true then
   some true
  else
   if (decide ((a1.links.length : Int) > 200)) = true then
    some true
   else
    if (decide ((a1.domains.length : Int) > 200)) = true then
     some true
    else
     if (decide ((a1.statics.length : Int) > 200)) = true then
      some true
     else
      if (decide ((a1.floods.length : Int) > 200)) = true then
       some true
      else
       if (decide ((a1.vrfs.length : Int) > 200)) = true then
        some true
       else
        if (decide ((a1.irbs.length : Int) > 200)) = true then
         some true
        else
         (loopM (palinglaw15_Great_L1 a1) 0).bind fun r16 => match r16 with
         | Sum.inl () =>
          some true
         | Sum.inr () =>
          (loopM (palinglaw15_Great_L2 a1) 0).bind fun r23 => match r23 with
          | Sum.inl () =>
           some true
          | Sum.inr () =>
           (loopM (palinglaw15_Great_L3 a1) 0).bind fun r30 => match r30 with
           | Sum.inl () =>
            some true
           | Sum.inr () =>
            (loopM (palinglaw15_Great_L4 a1) 0).bind fun r40 => match r40 with
            | Sum.inl () =>
             some true
            | Sum.inr () =>
             some false

def stmt_within (a1 : Int) (a2 : Int) (a3 : Int) : Option (Bool) :=
 if (decide (a1 ≥ a2)) = true then
  some (decide (a1 ≤ a3))
 else
  some false

def mac_IsHost (a1 : Int) : Option (Int × Bool) :=
 if ((Int.fdiv (bits_and .u64 a1 281474976710655) (2 ^ 32)) != 512) = true then
  some (0, false)
 else
  some (wr_u32 (bits_and .u64 a1 281474976710655), true)

def mac_Group (a1 : Int) : Option (Bool) :=
 some ((bits_and .u64 a1 1099511627776) != 0)

def stmt_station (a1 : Int) : Option (Bool) :=
 (mac_IsHost a1).bind fun r2 =>
 if (decide (a1 ≤ 281474976710655)) = true then
  if (!r2.2) = true then
   (mac_Group a1).bind fun r6 =>
   some (!r6)
  else
   some false
 else
  some false

def num_Name_L1 (a1 : ByteArray) (v2 : Int) : Option ((Int) ⊕ (Unit ⊕ Unit)) :=
 if (decide (v2 < (a1.size : Int))) = true then
  if (decide (0 ≤ (v2 : Int) ∧ (v2 : Int) < (a1.size : Int))) = true then
   if (decide ((byteAt a1 v2) ≥ 97)) = true then
    if (decide ((byteAt a1 v2) ≥ 48)) = true then
     if (!(decide ((byteAt a1 v2) ≤ 122))) = true then
      if (!(decide ((byteAt a1 v2) ≤ 57))) = true then
       some (Sum.inr (Sum.inl ()))
      else
       if (v2 == 0) = true then
        some (Sum.inr (Sum.inl ()))
       else
        some (Sum.inl (wr_i64 (v2 + 1)))
     else
      some (Sum.inl (wr_i64 (v2 + 1)))
    else
     if (!(decide ((byteAt a1 v2) ≤ 122))) = true then
      some (Sum.inr (Sum.inl ()))
     else
      some (Sum.inl (wr_i64 (v2 + 1)))
   else
    if (decide ((byteAt a1 v2) ≥ 48)) = true then
     if (!(decide ((byteAt a1 v2) ≤ 57))) = true then
      some (Sum.inr (Sum.inl ()))
     else
      if (v2 == 0) = true then
       some (Sum.inr (Sum.inl ()))
      else
       some (Sum.inl (wr_i64 (v2 + 1)))
    else
     some (Sum.inr (Sum.inl ()))
  else
   none
 else
  some (Sum.inr (Sum.inr ()))

def num_Name (a1 : ByteArray) : Option (Bool) :=
 (loopM (num_Name_L1 a1) 0).bind fun r15 => match r15 with
 | Sum.inl () =>
  some false
 | Sum.inr () =>
  if (decide ((a1.size : Int) > 0)) = true then
   some (decide ((a1.size : Int) ≤ 12))
  else
   some false

def num_Rising_L1 (a1 : List Int) (a2 : Int) (a3 : Int) (v4 : Int) : Option ((Int) ⊕ (Unit ⊕ Unit)) :=
 if (decide (v4 < (a1.length : Int))) = true then
  (nth a1 v4).bind fun x6 =>
  if (decide (x6 < a2)) = true then
   some (Sum.inr (Sum.inl ()))
  else
   if (decide (x6 > a3)) = true then
    some (Sum.inr (Sum.inl ()))
   else
    if (decide (v4 > 0)) = true then
     (nth a1 (wr_i64 (v4 - 1))).bind fun x11 =>
     if (decide (x11 ≥ x6)) = true then
      some (Sum.inr (Sum.inl ()))
     else
      some (Sum.inl (wr_i64 (v4 + 1)))
    else
     some (Sum.inl (wr_i64 (v4 + 1)))
 else
  some (Sum.inr (Sum.inr ()))

def num_Rising (a1 : List Int) (a2 : Int) (a3 : Int) : Option (Bool) :=
 (loopM (num_Rising_L1 a1 a2 a3) 0).bind fun r15 => match r15 with
 | Sum.inl () =>
  some false
 | Sum.inr () =>
  if (decide ((a1.length : Int) > 0)) = true then
   some (decide ((a1.length : Int) ≤ 16))
  else
   some false

def stmt_list (a1 : List Int) (a2 : Int) : Option (Bool) :=
 if ((a1.length : Int) == 0) = true then
  some true
 else
  (num_Rising a1 1 a2).bind fun r4 =>
  some r4

def slices_Index_int_L1 (a1 : List Int) (a2 : Int) (v3 : Int) : Option ((Int) ⊕ (Int ⊕ Unit)) :=
 if (decide (v3 < (a1.length : Int))) = true then
  (nth a1 v3).bind fun x5 =>
  if (a2 == x5) = true then
   some (Sum.inr (Sum.inl v3))
  else
   some (Sum.inl (wr_i64 (v3 + 1)))
 else
  some (Sum.inr (Sum.inr ()))

def slices_Index_int (a1 : List Int) (a2 : Int) : Option (Int) :=
 (loopM (slices_Index_int_L1 a1 a2) 0).bind fun r11 => match r11 with
 | Sum.inl v9 =>
  some v9
 | Sum.inr () =>
  some (-1)

def slices_Contains_int (a1 : List Int) (a2 : Int) : Option (Bool) :=
 (slices_Index_int a1 a2).bind fun r3 =>
 some (decide (r3 ≥ 0))

def stmt_members (a1 : Api_Line) : Option (Bool) :=
 if (decide (a1.vlan > 0)) = true then
  (slices_Contains_int a1.tagged a1.vlan).bind fun r3 =>
  some (!r3)
 else
  if (decide ((a1.tagged.length : Int) > 0)) = true then
   (slices_Contains_int a1.tagged a1.vlan).bind fun r6 =>
   some (!r6)
  else
   some false

def stmt_addrs_L1 (a1 : List Int) (v2 : Int) : Option ((Int) ⊕ (Unit ⊕ Unit)) :=
 if (decide (v2 < (a1.length : Int))) = true then
  (nth a1 v2).bind fun x4 =>
  if (x4 == 0) = true then
   some (Sum.inr (Sum.inl ()))
  else
   if (decide (v2 > 0)) = true then
    (nth a1 (wr_i64 (v2 - 1))).bind fun x8 =>
    if (decide (x8 ≥ x4)) = true then
     some (Sum.inr (Sum.inl ()))
    else
     some (Sum.inl (wr_i64 (v2 + 1)))
   else
    some (Sum.inl (wr_i64 (v2 + 1)))
 else
  some (Sum.inr (Sum.inr ()))

def stmt_addrs (a1 : List Int) : Option (Bool) :=
 (loopM (stmt_addrs_L1 a1) 0).bind fun r12 => match r12 with
 | Sum.inl () =>
  some false
 | Sum.inr () =>
  if (decide ((a1.length : Int) > 0)) = true then
   some (decide ((a1.length : Int) ≤ 16))
  else
   some false

def addr_Right (a1 : Api_Prefix) : Option (Bool) :=
 if (decide (a1.bits ≥ 0)) = true then
  some (decide (a1.bits ≤ 32))
 else
  some false

def addr_rest (a1 : Api_Prefix) : Option (Int) :=
 if (decide (0 ≤ (wr_i64 (32 - a1.bits)))) = true then
  some (wr_u32 ((wr_u32 (1 * 2 ^ (min (Int.toNat (wr_i64 (32 - a1.bits))) 32))) - 1))
 else
  none

def addr_First (a1 : Api_Prefix) : Option (Int) :=
 (addr_Right a1).bind fun r2 =>
 if (!r2) = true then
  some 0
 else
  (addr_rest a1).bind fun r5 =>
  some (bits_andNot .u32 a1.addr r5)

def addr_Last (a1 : Api_Prefix) : Option (Int) :=
 (addr_Right a1).bind fun r2 =>
 if (!r2) = true then
  some 0
 else
  (addr_rest a1).bind fun r5 =>
  some (bits_or .u32 a1.addr r5)

def stmt_subnet (a1 : Api_Prefix) : Option (Bool) :=
 if (decide (a1.bits ≥ 1)) = true then
  if (decide (a1.bits ≤ 30)) = true then
   (addr_First a1).bind fun r4 =>
   if (a1.addr != r4) = true then
    (addr_Last a1).bind fun r7 =>
    some (a1.addr != r7)
   else
    some false
  else
   some false
 else
  some false

def stmt_used (a1 : Api_Line) : Option ((Api_Line × Bool)) :=
 if (a1.kind == 1) = true then
  (stmt_within a1.num 0 65535).bind fun r3 =>
  if (r3) = true then
   (stmt_station a1.mac).bind fun r6 =>
   some ((⟨a1.row, a1.kind, a1.dev, (⟨#[]⟩ : ByteArray), (⟨#[]⟩ : ByteArray), (⟨#[]⟩ : ByteArray), (⟨#[]⟩ : ByteArray), a1.mac, 0, 0, 0, a1.num, 0, [], [], [], []⟩ : Api_Line), r6)
  else
   some ((⟨a1.row, a1.kind, a1.dev, (⟨#[]⟩ : ByteArray), (⟨#[]⟩ : ByteArray), (⟨#[]⟩ : ByteArray), (⟨#[]⟩ : ByteArray), a1.mac, 0, 0, 0, a1.num, 0, [], [], [], []⟩ : Api_Line), false)
 else
  if (a1.kind == 2) = true then
   (num_Name a1.port).bind fun r9 =>
   if (r9) = true then
    (stmt_within a1.cost 1 65535).bind fun r12 =>
    if (r12) = true then
     (stmt_within a1.vlan 0 4094).bind fun r15 =>
     if (r15) = true then
      (stmt_list a1.tagged 4094).bind fun r18 =>
      if (r18) = true then
       (stmt_members a1).bind fun r21 =>
       some ((⟨a1.row, a1.kind, a1.dev, a1.port, (⟨#[]⟩ : ByteArray), (⟨#[]⟩ : ByteArray), (⟨#[]⟩ : ByteArray), 0, 0, 0, a1.vlan, 0, a1.cost, a1.tagged, [], [], []⟩ : Api_Line), r21)
      else
       some ((⟨a1.row, a1.kind, a1.dev, a1.port, (⟨#[]⟩ : ByteArray), (⟨#[]⟩ : ByteArray), (⟨#[]⟩ : ByteArray), 0, 0, 0, a1.vlan, 0, a1.cost, a1.tagged, [], [], []⟩ : Api_Line), false)
     else
      some ((⟨a1.row, a1.kind, a1.dev, a1.port, (⟨#[]⟩ : ByteArray), (⟨#[]⟩ : ByteArray), (⟨#[]⟩ : ByteArray), 0, 0, 0, a1.vlan, 0, a1.cost, a1.tagged, [], [], []⟩ : Api_Line), false)
    else
     some ((⟨a1.row, a1.kind, a1.dev, a1.port, (⟨#[]⟩ : ByteArray), (⟨#[]⟩ : ByteArray), (⟨#[]⟩ : ByteArray), 0, 0, 0, a1.vlan, 0, a1.cost, a1.tagged, [], [], []⟩ : Api_Line), false)
   else
    some ((⟨a1.row, a1.kind, a1.dev, a1.port, (⟨#[]⟩ : ByteArray), (⟨#[]⟩ : ByteArray), (⟨#[]⟩ : ByteArray), 0, 0, 0, a1.vlan, 0, a1.cost, a1.tagged, [], [], []⟩ : Api_Line), false)
  else
   if (a1.kind == 3) = true then
    (num_Name a1.port).bind fun r24 =>
    if (r24) = true then
     (num_Name a1.peer).bind fun r27 =>
     if (r27) = true then
      (num_Name a1.far).bind fun r30 =>
      some ((⟨a1.row, a1.kind, a1.dev, a1.port, a1.peer, a1.far, (⟨#[]⟩ : ByteArray), 0, 0, 0, 0, 0, 0, [], [], [], []⟩ : Api_Line), r30)
     else
      some ((⟨a1.row, a1.kind, a1.dev, a1.port, a1.peer, a1.far, (⟨#[]⟩ : ByteArray), 0, 0, 0, 0, 0, 0, [], [], [], []⟩ : Api_Line), false)
    else
     some ((⟨a1.row, a1.kind, a1.dev, a1.port, a1.peer, a1.far, (⟨#[]⟩ : ByteArray), 0, 0, 0, 0, 0, 0, [], [], [], []⟩ : Api_Line), false)
   else
    if (a1.kind == 4) = true then
     (stmt_within a1.vlan 1 4094).bind fun r33 =>
     if (r33) = true then
      (stmt_station a1.mac).bind fun r36 =>
      if (r36) = true then
       (num_Name a1.port).bind fun r39 =>
       some ((⟨a1.row, a1.kind, a1.dev, a1.port, (⟨#[]⟩ : ByteArray), (⟨#[]⟩ : ByteArray), (⟨#[]⟩ : ByteArray), a1.mac, 0, 0, a1.vlan, 0, 0, [], [], [], []⟩ : Api_Line), r39)
      else
       some ((⟨a1.row, a1.kind, a1.dev, a1.port, (⟨#[]⟩ : ByteArray), (⟨#[]⟩ : ByteArray), (⟨#[]⟩ : ByteArray), a1.mac, 0, 0, a1.vlan, 0, 0, [], [], [], []⟩ : Api_Line), false)
     else
      some ((⟨a1.row, a1.kind, a1.dev, a1.port, (⟨#[]⟩ : ByteArray), (⟨#[]⟩ : ByteArray), (⟨#[]⟩ : ByteArray), a1.mac, 0, 0, a1.vlan, 0, 0, [], [], [], []⟩ : Api_Line), false)
    else
     if (a1.kind == 5) = true then
      some ((⟨a1.row, a1.kind, a1.dev, (⟨#[]⟩ : ByteArray), (⟨#[]⟩ : ByteArray), (⟨#[]⟩ : ByteArray), (⟨#[]⟩ : ByteArray), 0, a1.addr, 0, 0, 0, 0, [], [], [], []⟩ : Api_Line), a1.addr != 0)
     else
      if (a1.kind == 6) = true then
       (stmt_within a1.vlan 1 4094).bind fun r43 =>
       if (r43) = true then
        (stmt_within a1.num 1 16777215).bind fun r46 =>
        some ((⟨a1.row, a1.kind, a1.dev, (⟨#[]⟩ : ByteArray), (⟨#[]⟩ : ByteArray), (⟨#[]⟩ : ByteArray), (⟨#[]⟩ : ByteArray), 0, 0, 0, a1.vlan, a1.num, 0, [], [], [], []⟩ : Api_Line), r46)
       else
        some ((⟨a1.row, a1.kind, a1.dev, (⟨#[]⟩ : ByteArray), (⟨#[]⟩ : ByteArray), (⟨#[]⟩ : ByteArray), (⟨#[]⟩ : ByteArray), 0, 0, 0, a1.vlan, a1.num, 0, [], [], [], []⟩ : Api_Line), false)
      else
       if (a1.kind == 7) = true then
        (stmt_within a1.num 1 16777215).bind fun r49 =>
        if (r49) = true then
         (stmt_addrs a1.addrs).bind fun r52 =>
         some ((⟨a1.row, a1.kind, a1.dev, (⟨#[]⟩ : ByteArray), (⟨#[]⟩ : ByteArray), (⟨#[]⟩ : ByteArray), (⟨#[]⟩ : ByteArray), 0, 0, 0, 0, a1.num, 0, [], [], [], a1.addrs⟩ : Api_Line), r52)
        else
         some ((⟨a1.row, a1.kind, a1.dev, (⟨#[]⟩ : ByteArray), (⟨#[]⟩ : ByteArray), (⟨#[]⟩ : ByteArray), (⟨#[]⟩ : ByteArray), 0, 0, 0, 0, a1.num, 0, [], [], [], a1.addrs⟩ : Api_Line), false)
       else
        if (a1.kind == 8) = true then
         (num_Name a1.name).bind fun r55 =>
         if (r55) = true then
          (stmt_list a1.imports 65535).bind fun r58 =>
          if (r58) = true then
           (stmt_list a1.exports 65535).bind fun r61 =>
           some ((⟨a1.row, a1.kind, a1.dev, (⟨#[]⟩ : ByteArray), (⟨#[]⟩ : ByteArray), (⟨#[]⟩ : ByteArray), a1.name, 0, 0, 0, 0, 0, 0, [], a1.imports, a1.exports, []⟩ : Api_Line), r61)
          else
           some ((⟨a1.row, a1.kind, a1.dev, (⟨#[]⟩ : ByteArray), (⟨#[]⟩ : ByteArray), (⟨#[]⟩ : ByteArray), a1.name, 0, 0, 0, 0, 0, 0, [], a1.imports, a1.exports, []⟩ : Api_Line), false)
         else
          some ((⟨a1.row, a1.kind, a1.dev, (⟨#[]⟩ : ByteArray), (⟨#[]⟩ : ByteArray), (⟨#[]⟩ : ByteArray), a1.name, 0, 0, 0, 0, 0, 0, [], a1.imports, a1.exports, []⟩ : Api_Line), false)
        else
         if (a1.kind == 9) = true then
          (stmt_within a1.vlan 1 4094).bind fun r64 =>
          if (r64) = true then
           (num_Name a1.name).bind fun r67 =>
           if (r67) = true then
            (stmt_subnet (⟨a1.addr, a1.bits⟩ : Api_Prefix)).bind fun r70 =>
            some ((⟨a1.row, a1.kind, a1.dev, (⟨#[]⟩ : ByteArray), (⟨#[]⟩ : ByteArray), (⟨#[]⟩ : ByteArray), a1.name, 0, a1.addr, a1.bits, a1.vlan, 0, 0, [], [], [], []⟩ : Api_Line), r70)
           else
            some ((⟨a1.row, a1.kind, a1.dev, (⟨#[]⟩ : ByteArray), (⟨#[]⟩ : ByteArray), (⟨#[]⟩ : ByteArray), a1.name, 0, a1.addr, a1.bits, a1.vlan, 0, 0, [], [], [], []⟩ : Api_Line), false)
          else
           some ((⟨a1.row, a1.kind, a1.dev, (⟨#[]⟩ : ByteArray), (⟨#[]⟩ : ByteArray), (⟨#[]⟩ : ByteArray), a1.name, 0, a1.addr, a1.bits, a1.vlan, 0, 0, [], [], [], []⟩ : Api_Line), false)
         else
          some ((⟨a1.row, a1.kind, a1.dev, (⟨#[]⟩ : ByteArray), (⟨#[]⟩ : ByteArray), (⟨#[]⟩ : ByteArray), (⟨#[]⟩ : ByteArray), 0, 0, 0, 0, 0, 0, [], [], [], []⟩ : Api_Line), false)

def slices_Equal_int_L1 (a1 : List Int) (a2 : List Int) (v4 : Int) : Option ((Int) ⊕ (Unit ⊕ Unit)) :=
 if (decide (v4 < (a1.length : Int))) = true then
  (nth a1 v4).bind fun x6 =>
  (nth a2 v4).bind fun x8 =>
  if (x6 != x8) = true then
   some (Sum.inr (Sum.inl ()))
  else
   some (Sum.inl (wr_i64 (v4 + 1)))
 else
  some (Sum.inr (Sum.inr ()))

def slices_Equal_int (a1 : List Int) (a2 : List Int) : Option (Bool) :=
 if ((a1.length : Int) != (a2.length : Int)) = true then
  some false
 else
  (loopM (slices_Equal_int_L1 a1 a2) 0).bind fun r12 => match r12 with
  | Sum.inl () =>
   some false
  | Sum.inr () =>
   some true

def slices_Equal_uint32_L1 (a1 : List Int) (a2 : List Int) (v4 : Int) : Option ((Int) ⊕ (Unit ⊕ Unit)) :=
 if (decide (v4 < (a1.length : Int))) = true then
  (nth a1 v4).bind fun x6 =>
  (nth a2 v4).bind fun x8 =>
  if (x6 != x8) = true then
   some (Sum.inr (Sum.inl ()))
  else
   some (Sum.inl (wr_i64 (v4 + 1)))
 else
  some (Sum.inr (Sum.inr ()))

def slices_Equal_uint32 (a1 : List Int) (a2 : List Int) : Option (Bool) :=
 if ((a1.length : Int) != (a2.length : Int)) = true then
  some false
 else
  (loopM (slices_Equal_uint32_L1 a1 a2) 0).bind fun r12 => match r12 with
  | Sum.inl () =>
   some false
  | Sum.inr () =>
   some true

def stmt_Same (a1 : Api_Line) (a2 : Api_Line) : Option (Bool) :=
 if (a1.row == a2.row) = true then
  if (a1.kind == a2.kind) = true then
   if (seqB a1.dev a2.dev) = true then
    if (seqB a1.port a2.port) = true then
     if (seqB a1.peer a2.peer) = true then
      if (seqB a1.far a2.far) = true then
       if (seqB a1.name a2.name) = true then
        if (a1.mac == a2.mac) = true then
         if (a1.addr == a2.addr) = true then
          if (a1.bits == a2.bits) = true then
           if (a1.vlan == a2.vlan) = true then
            if (a1.num == a2.num) = true then
             if (a1.cost == a2.cost) = true then
              (slices_Equal_int a1.tagged a2.tagged).bind fun r16 =>
              if (r16) = true then
               (slices_Equal_int a1.imports a2.imports).bind fun r19 =>
               if (r19) = true then
                (slices_Equal_int a1.exports a2.exports).bind fun r22 =>
                if (r22) = true then
                 (slices_Equal_uint32 a1.addrs a2.addrs).bind fun r25 =>
                 some r25
                else
                 some false
               else
                some false
              else
               some false
             else
              some false
            else
             some false
           else
            some false
          else
           some false
         else
          some false
        else
         some false
       else
        some false
      else
       some false
     else
      some false
    else
     some false
   else
    some false
  else
   some false
 else
  some false

def stmt_Right (a1 : Api_Line) : Option (Bool) :=
 (stmt_used a1).bind fun r2 => match r2 with
 | (r4, r5) =>
  if (r5) = true then
   (num_Name a1.dev).bind fun r7 =>
   if (r7) = true then
    (stmt_Same r4 a1).bind fun r10 =>
    some r10
   else
    some false
  else
   some false

def names_judge_few (a1 : Names_judge) : Option (Bool) :=
 if (decide ((a1.n.devices.length : Int) ≤ 8)) = true then
  if (decide ((a1.n.ports.length : Int) ≤ 40)) = true then
   if (decide ((a1.n.links.length : Int) ≤ 20)) = true then
    if (decide ((a1.n.domains.length : Int) ≤ 48)) = true then
     if (decide ((a1.n.statics.length : Int) ≤ 64)) = true then
      if (decide ((a1.n.floods.length : Int) ≤ 48)) = true then
       if (decide ((a1.n.vrfs.length : Int) ≤ 16)) = true then
        some (decide ((a1.n.irbs.length : Int) ≤ 48))
       else
        some false
      else
       some false
     else
      some false
    else
     some false
   else
    some false
  else
   some false
 else
  some false

def names_place_Device (a1 : List Api_Device) (a2 : Int) : Option (Bool) :=
 if (decide (a2 ≥ 0)) = true then
  some (decide (a2 < (a1.length : Int)))
 else
  some false

def names_judge_domain_1 (a1 : Api_Domain) (a2 : Int) (a3 : Int) : Option (Bool) :=
 if (a1.dev == a2) = true then
  some (a1.vlan == a3)
 else
  some false

def slices_IndexFunc_Domain_judge_domain_1_L1 (a1 : List Api_Domain) (a2 : Int) (a3 : Int) (v4 : Int) : Option ((Int) ⊕ (Int ⊕ Unit)) :=
 if (decide (v4 < (a1.length : Int))) = true then
  (nth a1 v4).bind fun x6 =>
  (names_judge_domain_1 x6 a2 a3).bind fun r8 =>
  if (r8) = true then
   some (Sum.inr (Sum.inl v4))
  else
   some (Sum.inl (wr_i64 (v4 + 1)))
 else
  some (Sum.inr (Sum.inr ()))

def slices_IndexFunc_Domain_judge_domain_1 (a1 : List Api_Domain) (a2 : Int) (a3 : Int) : Option (Int) :=
 (loopM (slices_IndexFunc_Domain_judge_domain_1_L1 a1 a2 a3) 0).bind fun r14 => match r14 with
 | Sum.inl v12 =>
  some v12
 | Sum.inr () =>
  some (-1)

def names_judge_domain (a1 : Names_judge) (a2 : Int) (a3 : Int) : Option (Int) :=
 (slices_IndexFunc_Domain_judge_domain_1 a1.n.domains a2 a3).bind fun r4 =>
 some r4

def names_place_Irb (a1 : List Api_Irb) (a2 : Int) : Option (Bool) :=
 if (decide (a2 ≥ 0)) = true then
  some (decide (a2 < (a1.length : Int)))
 else
  some false

def names_judge_bare (a1 : Names_judge) (a2 : Int) (a3 : Api_Domain) : Option (Bool) :=
 (names_place_Device a1.n.devices a3.dev).bind fun r4 =>
 if (r4) = true then
  if (decide (a3.vlan ≥ 1)) = true then
   if (decide (a3.vlan ≤ 4094)) = true then
    if (decide (a3.vni ≥ 0)) = true then
     if (decide (a3.vni ≤ 16777215)) = true then
      if (a3.irb == (-1)) = true then
       (names_judge_domain a1 a3.dev a3.vlan).bind fun r12 =>
       some (r12 == a2)
      else
       (names_place_Irb a1.n.irbs a3.irb).bind fun r14 =>
       if (r14) = true then
        (nth a1.n.irbs a3.irb).bind fun x17 =>
        if (x17.domain == a2) = true then
         (names_judge_domain a1 a3.dev a3.vlan).bind fun r20 =>
         some (r20 == a2)
        else
         some false
       else
        some false
     else
      some false
    else
     some false
   else
    some false
  else
   some false
 else
  some false

def names_all_Domain_judge_bare_L1 (a1 : List Api_Domain) (a2 : Names_judge) (v3 : Int) : Option ((Int) ⊕ (Unit ⊕ Unit)) :=
 if (decide (v3 < (a1.length : Int))) = true then
  (nth a1 v3).bind fun x5 =>
  (names_judge_bare a2 v3 x5).bind fun r7 =>
  if (!r7) = true then
   some (Sum.inr (Sum.inl ()))
  else
   some (Sum.inl (wr_i64 (v3 + 1)))
 else
  some (Sum.inr (Sum.inr ()))

def names_all_Domain_judge_bare (a1 : List Api_Domain) (a2 : Names_judge) : Option (Bool) :=
 (loopM (names_all_Domain_judge_bare_L1 a1 a2) 0).bind fun r11 => match r11 with
 | Sum.inl () =>
  some false
 | Sum.inr () =>
  some true

def names_place_Domain (a1 : List Api_Domain) (a2 : Int) : Option (Bool) :=
 if (decide (a2 ≥ 0)) = true then
  some (decide (a2 < (a1.length : Int)))
 else
  some false

def names_judge_vtep (a1 : Names_judge) (a2 : Api_Domain) : Option (Bool) :=
 (nth a1.n.devices a2.dev).bind fun x3 =>
 some (x3.vtep != 0)

def names_judge_peer (a1 : Names_judge) (a2 : Int) (a3 : Api_Domain) (a4 : Int) : Option (Bool) :=
 (names_place_Domain a1.n.domains a4).bind fun r5 =>
 if (!r5) = true then
  some false
 else
  if (a4 == a2) = true then
   some false
  else
   (nth a1.n.domains a4).bind fun x9 =>
   (names_place_Device a1.n.devices x9.dev).bind fun r11 =>
   if (r11) = true then
    if (x9.dev != a3.dev) = true then
     if (x9.vni == a3.vni) = true then
      if (a3.vni != 0) = true then
       (names_judge_vtep a1 x9).bind fun r17 =>
       if (r17) = true then
        (names_judge_vtep a1 a3).bind fun r20 =>
        if (r20) = true then
         (slices_Contains_int x9.peers a2).bind fun r23 =>
         some r23
        else
         some false
       else
        some false
      else
       some false
     else
      some false
    else
     some false
   else
    some false

def names_judge_peers_1 (a1 : Int) (a2 : Int) (a3 : Names_judge) (a4 : Int) (a5 : Api_Domain) : Option (Bool) :=
 (names_judge_peer a3 a4 a5 a2).bind fun r6 =>
 if (r6) = true then
  (slices_Index_int a5.peers a2).bind fun r9 =>
  some (r9 == a1)
 else
  some false

def names_all_int_judge_peers_1_L1 (a1 : List Int) (a2 : Names_judge) (a3 : Int) (a4 : Api_Domain) (v5 : Int) : Option ((Int) ⊕ (Unit ⊕ Unit)) :=
 if (decide (v5 < (a1.length : Int))) = true then
  (nth a1 v5).bind fun x7 =>
  (names_judge_peers_1 v5 x7 a2 a3 a4).bind fun r9 =>
  if (!r9) = true then
   some (Sum.inr (Sum.inl ()))
  else
   some (Sum.inl (wr_i64 (v5 + 1)))
 else
  some (Sum.inr (Sum.inr ()))

def names_all_int_judge_peers_1 (a1 : List Int) (a2 : Names_judge) (a3 : Int) (a4 : Api_Domain) : Option (Bool) :=
 (loopM (names_all_int_judge_peers_1_L1 a1 a2 a3 a4) 0).bind fun r13 => match r13 with
 | Sum.inl () =>
  some false
 | Sum.inr () =>
  some true

def names_judge_peers (a1 : Names_judge) (a2 : Int) (a3 : Api_Domain) : Option (Bool) :=
 (names_all_int_judge_peers_1 a3.peers a1 a2 a3).bind fun r4 =>
 some r4

def names_all_Domain_judge_peers_L1 (a1 : List Api_Domain) (a2 : Names_judge) (v3 : Int) : Option ((Int) ⊕ (Unit ⊕ Unit)) :=
 if (decide (v3 < (a1.length : Int))) = true then
  (nth a1 v3).bind fun x5 =>
  (names_judge_peers a2 v3 x5).bind fun r7 =>
  if (!r7) = true then
   some (Sum.inr (Sum.inl ()))
  else
   some (Sum.inl (wr_i64 (v3 + 1)))
 else
  some (Sum.inr (Sum.inr ()))

def names_all_Domain_judge_peers (a1 : List Api_Domain) (a2 : Names_judge) : Option (Bool) :=
 (loopM (names_all_Domain_judge_peers_L1 a1 a2) 0).bind fun r11 => match r11 with
 | Sum.inl () =>
  some false
 | Sum.inr () =>
  some true

def names_rising (a1 : List Int) (a2 : Int) : Option (Bool) :=
 if ((a1.length : Int) == 0) = true then
  some true
 else
  (num_Rising a1 1 a2).bind fun r4 =>
  some r4

def names_place_Link (a1 : List Api_Link) (a2 : Int) : Option (Bool) :=
 if (decide (a2 ≥ 0)) = true then
  some (decide (a2 < (a1.length : Int)))
 else
  some false

def names_judge_port_J1 (a1 : Names_judge) (a2 : Int) (a3 : Api_Port) : Option (Unit ⊕ Unit) :=
 (names_place_Device a1.n.devices a3.dev).bind fun r4 =>
 if (!r4) = true then
  some (Sum.inl ())
 else
  if (decide (a3.native < 0)) = true then
   some (Sum.inl ())
  else
   if (decide (a3.native > 4094)) = true then
    some (Sum.inl ())
   else
    (names_rising a3.tagged 4094).bind fun r9 =>
    if (!r9) = true then
     some (Sum.inl ())
    else
     (slices_Contains_int a3.tagged a3.native).bind fun r12 =>
     if (r12) = true then
      some (Sum.inl ())
     else
      if (a3.native == 0) = true then
       if ((a3.tagged.length : Int) == 0) = true then
        some (Sum.inl ())
       else
        some (Sum.inr ())
      else
       some (Sum.inr ())

def names_judge_port_L2 (a1 : Names_judge) (a2 : Int) (a3 : Api_Port) (v19 : Int) : Option ((Int) ⊕ (Unit ⊕ Unit)) :=
 if (decide (v19 < (a3.tagged.length : Int))) = true then
  (nth a3.tagged v19).bind fun x21 =>
  (names_judge_domain a1 a3.dev x21).bind fun r23 =>
  if (decide (r23 < 0)) = true then
   some (Sum.inr (Sum.inl ()))
  else
   some (Sum.inl (wr_i64 (v19 + 1)))
 else
  some (Sum.inr (Sum.inr ()))

def names_judge_port_J3 (a1 : Names_judge) (a2 : Int) (a3 : Api_Port) : Option (Unit ⊕ Unit) :=
 if (decide (a3.native > 0)) = true then
  (names_judge_domain a1 a3.dev a3.native).bind fun r29 =>
  if (decide (r29 < 0)) = true then
   some (Sum.inl ())
  else
   some (Sum.inr ())
 else
  some (Sum.inr ())

def names_judge_port (a1 : Names_judge) (a2 : Int) (a3 : Api_Port) : Option (Bool) :=
 (names_judge_port_J1 a1 a2 a3).bind fun r18 => match r18 with
 | Sum.inl () =>
  some false
 | Sum.inr () =>
  (loopM (names_judge_port_L2 a1 a2 a3) 0).bind fun r27 => match r27 with
  | Sum.inl () =>
   some false
  | Sum.inr () =>
   (names_judge_port_J3 a1 a2 a3).bind fun r33 => match r33 with
   | Sum.inl () =>
    some false
   | Sum.inr () =>
    if (a3.link == (-1)) = true then
     some true
    else
     (names_place_Link a1.n.links a3.link).bind fun r35 =>
     if (r35) = true then
      (nth a1.n.links a3.link).bind fun x38 =>
      if (x38.a == a2) = true then
       some true
      else
       (nth a1.n.links a3.link).bind fun x41 =>
       some (x41.b == a2)
     else
      some false

def names_all_Port_judge_port_L1 (a1 : List Api_Port) (a2 : Names_judge) (v3 : Int) : Option ((Int) ⊕ (Unit ⊕ Unit)) :=
 if (decide (v3 < (a1.length : Int))) = true then
  (nth a1 v3).bind fun x5 =>
  (names_judge_port a2 v3 x5).bind fun r7 =>
  if (!r7) = true then
   some (Sum.inr (Sum.inl ()))
  else
   some (Sum.inl (wr_i64 (v3 + 1)))
 else
  some (Sum.inr (Sum.inr ()))

def names_all_Port_judge_port (a1 : List Api_Port) (a2 : Names_judge) : Option (Bool) :=
 (loopM (names_all_Port_judge_port_L1 a1 a2) 0).bind fun r11 => match r11 with
 | Sum.inl () =>
  some false
 | Sum.inr () =>
  some true

def names_place_Port (a1 : List Api_Port) (a2 : Int) : Option (Bool) :=
 if (decide (a2 ≥ 0)) = true then
  some (decide (a2 < (a1.length : Int)))
 else
  some false

def names_judge_link (a1 : Names_judge) (a2 : Int) (a3 : Api_Link) : Option (Bool) :=
 (names_place_Port a1.n.ports a3.a).bind fun r4 =>
 if (!r4) = true then
  some false
 else
  (names_place_Port a1.n.ports a3.b).bind fun r7 =>
  if (!r7) = true then
   some false
  else
   (nth a1.n.ports a3.a).bind fun x10 =>
   (nth a1.n.ports a3.b).bind fun x12 =>
   if (x10.dev != x12.dev) = true then
    if (x10.link == a2) = true then
     some (x12.link == a2)
    else
     some false
   else
    some false

def names_all_Link_judge_link_L1 (a1 : List Api_Link) (a2 : Names_judge) (v3 : Int) : Option ((Int) ⊕ (Unit ⊕ Unit)) :=
 if (decide (v3 < (a1.length : Int))) = true then
  (nth a1 v3).bind fun x5 =>
  (names_judge_link a2 v3 x5).bind fun r7 =>
  if (!r7) = true then
   some (Sum.inr (Sum.inl ()))
  else
   some (Sum.inl (wr_i64 (v3 + 1)))
 else
  some (Sum.inr (Sum.inr ()))

def names_all_Link_judge_link (a1 : List Api_Link) (a2 : Names_judge) : Option (Bool) :=
 (loopM (names_all_Link_judge_link_L1 a1 a2) 0).bind fun r11 => match r11 with
 | Sum.inl () =>
  some false
 | Sum.inr () =>
  some true

def names_Member (a1 : Api_Port) (a2 : Int) : Option (Bool) :=
 if (a2 != 0) = true then
  if (a2 == a1.native) = true then
   some true
  else
   (slices_Contains_int a1.tagged a2).bind fun r5 =>
   some r5
 else
  some false

def names_judge_static (a1 : Names_judge) (a2 : Int) (a3 : Api_Static) : Option (Bool) :=
 (names_place_Domain a1.n.domains a3.domain).bind fun r4 =>
 if (!r4) = true then
  some false
 else
  (names_place_Port a1.n.ports a3.port).bind fun r7 =>
  if (!r7) = true then
   some false
  else
   (nth a1.n.ports a3.port).bind fun x10 =>
   (nth a1.n.domains a3.domain).bind fun x12 =>
   if (x10.dev == x12.dev) = true then
    (names_Member x10 x12.vlan).bind fun r15 =>
    some r15
   else
    some false

def names_all_Static_judge_static_L1 (a1 : List Api_Static) (a2 : Names_judge) (v3 : Int) : Option ((Int) ⊕ (Unit ⊕ Unit)) :=
 if (decide (v3 < (a1.length : Int))) = true then
  (nth a1 v3).bind fun x5 =>
  (names_judge_static a2 v3 x5).bind fun r7 =>
  if (!r7) = true then
   some (Sum.inr (Sum.inl ()))
  else
   some (Sum.inl (wr_i64 (v3 + 1)))
 else
  some (Sum.inr (Sum.inr ()))

def names_all_Static_judge_static (a1 : List Api_Static) (a2 : Names_judge) : Option (Bool) :=
 (loopM (names_all_Static_judge_static_L1 a1 a2) 0).bind fun r11 => match r11 with
 | Sum.inl () =>
  some false
 | Sum.inr () =>
  some true

def names_Right_1 (a1 : Int) (a2 : Api_Flood) (a3 : Api_Net) : Option (Bool) :=
 (names_place_Device a3.devices a2.dev).bind fun r4 =>
 if (r4) = true then
  some (decide ((a2.addrs.length : Int) ≤ 16))
 else
  some false

def names_all_Flood_Right_1_L1 (a1 : List Api_Flood) (a2 : Api_Net) (v3 : Int) : Option ((Int) ⊕ (Unit ⊕ Unit)) :=
 if (decide (v3 < (a1.length : Int))) = true then
  (nth a1 v3).bind fun x5 =>
  (names_Right_1 v3 x5 a2).bind fun r7 =>
  if (!r7) = true then
   some (Sum.inr (Sum.inl ()))
  else
   some (Sum.inl (wr_i64 (v3 + 1)))
 else
  some (Sum.inr (Sum.inr ()))

def names_all_Flood_Right_1 (a1 : List Api_Flood) (a2 : Api_Net) : Option (Bool) :=
 (loopM (names_all_Flood_Right_1_L1 a1 a2) 0).bind fun r11 => match r11 with
 | Sum.inl () =>
  some false
 | Sum.inr () =>
  some true

def names_Right_2 (a1 : Int) (a2 : Api_Vrf) (a3 : Api_Net) : Option (Bool) :=
 (names_place_Device a3.devices a2.dev).bind fun r4 =>
 if (r4) = true then
  (names_rising a2.imports 65535).bind fun r7 =>
  if (r7) = true then
   (names_rising a2.exports 65535).bind fun r10 =>
   some r10
  else
   some false
 else
  some false

def names_all_Vrf_Right_2_L1 (a1 : List Api_Vrf) (a2 : Api_Net) (v3 : Int) : Option ((Int) ⊕ (Unit ⊕ Unit)) :=
 if (decide (v3 < (a1.length : Int))) = true then
  (nth a1 v3).bind fun x5 =>
  (names_Right_2 v3 x5 a2).bind fun r7 =>
  if (!r7) = true then
   some (Sum.inr (Sum.inl ()))
  else
   some (Sum.inl (wr_i64 (v3 + 1)))
 else
  some (Sum.inr (Sum.inr ()))

def names_all_Vrf_Right_2 (a1 : List Api_Vrf) (a2 : Api_Net) : Option (Bool) :=
 (loopM (names_all_Vrf_Right_2_L1 a1 a2) 0).bind fun r11 => match r11 with
 | Sum.inl () =>
  some false
 | Sum.inr () =>
  some true

def names_place_Vrf (a1 : List Api_Vrf) (a2 : Int) : Option (Bool) :=
 if (decide (a2 ≥ 0)) = true then
  some (decide (a2 < (a1.length : Int)))
 else
  some false

def names_judge_irb (a1 : Names_judge) (a2 : Int) (a3 : Api_Irb) : Option (Bool) :=
 (names_place_Domain a1.n.domains a3.domain).bind fun r4 =>
 if (r4) = true then
  (names_place_Vrf a1.n.vrfs a3.vrf).bind fun r7 =>
  if (r7) = true then
   (nth a1.n.domains a3.domain).bind fun x10 =>
   (nth a1.n.vrfs a3.vrf).bind fun x12 =>
   if (x10.dev == x12.dev) = true then
    (nth a1.n.domains a3.domain).bind fun x15 =>
    if (x15.irb == a2) = true then
     if (decide (a3.net.bits ≥ 1)) = true then
      some (decide (a3.net.bits ≤ 30))
     else
      some false
    else
     some false
   else
    some false
  else
   some false
 else
  some false

def names_all_Irb_judge_irb_L1 (a1 : List Api_Irb) (a2 : Names_judge) (v3 : Int) : Option ((Int) ⊕ (Unit ⊕ Unit)) :=
 if (decide (v3 < (a1.length : Int))) = true then
  (nth a1 v3).bind fun x5 =>
  (names_judge_irb a2 v3 x5).bind fun r7 =>
  if (!r7) = true then
   some (Sum.inr (Sum.inl ()))
  else
   some (Sum.inl (wr_i64 (v3 + 1)))
 else
  some (Sum.inr (Sum.inr ()))

def names_all_Irb_judge_irb (a1 : List Api_Irb) (a2 : Names_judge) : Option (Bool) :=
 (loopM (names_all_Irb_judge_irb_L1 a1 a2) 0).bind fun r11 => match r11 with
 | Sum.inl () =>
  some false
 | Sum.inr () =>
  some true

def names_Right (a1 : Api_Net) : Option (Bool) :=
 (names_judge_few (⟨a1⟩ : Names_judge)).bind fun r2 =>
 if (r2) = true then
  (names_all_Domain_judge_bare a1.domains (⟨a1⟩ : Names_judge)).bind fun r5 =>
  if (r5) = true then
   (names_all_Domain_judge_peers a1.domains (⟨a1⟩ : Names_judge)).bind fun r8 =>
   if (r8) = true then
    (names_all_Port_judge_port a1.ports (⟨a1⟩ : Names_judge)).bind fun r11 =>
    if (r11) = true then
     (names_all_Link_judge_link a1.links (⟨a1⟩ : Names_judge)).bind fun r14 =>
     if (r14) = true then
      (names_all_Static_judge_static a1.statics (⟨a1⟩ : Names_judge)).bind fun r17 =>
      if (r17) = true then
       (names_all_Flood_Right_1 a1.floods a1).bind fun r20 =>
       if (r20) = true then
        (names_all_Vrf_Right_2 a1.vrfs a1).bind fun r23 =>
        if (r23) = true then
         (names_all_Irb_judge_irb a1.irbs (⟨a1⟩ : Names_judge)).bind fun r26 =>
         some r26
        else
         some false
       else
        some false
      else
       some false
     else
      some false
    else
     some false
   else
    some false
  else
   some false
 else
  some false

def names_Device_1 (a1 : Api_Device) (a2 : ByteArray) : Option (Bool) :=
 some (seqB a1.name a2)

def slices_IndexFunc_Device_Device_1_L1 (a1 : List Api_Device) (a2 : ByteArray) (v3 : Int) : Option ((Int) ⊕ (Int ⊕ Unit)) :=
 if (decide (v3 < (a1.length : Int))) = true then
  (nth a1 v3).bind fun x5 =>
  (names_Device_1 x5 a2).bind fun r7 =>
  if (r7) = true then
   some (Sum.inr (Sum.inl v3))
  else
   some (Sum.inl (wr_i64 (v3 + 1)))
 else
  some (Sum.inr (Sum.inr ()))

def slices_IndexFunc_Device_Device_1 (a1 : List Api_Device) (a2 : ByteArray) : Option (Int) :=
 (loopM (slices_IndexFunc_Device_Device_1_L1 a1 a2) 0).bind fun r13 => match r13 with
 | Sum.inl v11 =>
  some v11
 | Sum.inr () =>
  some (-1)

def names_find_Device_Device_1 (a1 : Api_Net) (a2 : List Api_Device) (a3 : ByteArray) : Option (Int) :=
 (names_Right a1).bind fun r4 =>
 if (!r4) = true then
  some (-1)
 else
  (slices_IndexFunc_Device_Device_1 a2 a3).bind fun r7 =>
  some r7

def names_Device (a1 : Api_Net) (a2 : ByteArray) : Option (Int) :=
 (names_find_Device_Device_1 a1 a1.devices a2).bind fun r3 =>
 some r3

def overlay_begin (a1 : Api_Net) (a2 : Api_Line) (a3 : Int) : Option (Int × Int) :=
 if (a2.kind != a3) = true then
  some (0, 2)
 else
  (stmt_Right a2).bind fun r5 =>
  if (!r5) = true then
   some (0, 2)
  else
   (names_Right a1).bind fun r8 =>
   if (!r8) = true then
    some (0, 2)
   else
    (names_Device a1 a2.dev).bind fun r11 =>
    if (decide (r11 < 0)) = true then
     some (0, 31)
    else
     some (r11, 0)

def overlay_find_1 (a1 : Api_Domain) (a2 : Int) (a3 : Int) : Option (Bool) :=
 if (a1.dev == a2) = true then
  if (a1.vni == a3) = true then
   some (a3 != 0)
  else
   some false
 else
  some false

def slices_IndexFunc_Domain_find_1_L1 (a1 : List Api_Domain) (a2 : Int) (a3 : Int) (v4 : Int) : Option ((Int) ⊕ (Int ⊕ Unit)) :=
 if (decide (v4 < (a1.length : Int))) = true then
  (nth a1 v4).bind fun x6 =>
  (overlay_find_1 x6 a2 a3).bind fun r8 =>
  if (r8) = true then
   some (Sum.inr (Sum.inl v4))
  else
   some (Sum.inl (wr_i64 (v4 + 1)))
 else
  some (Sum.inr (Sum.inr ()))

def slices_IndexFunc_Domain_find_1 (a1 : List Api_Domain) (a2 : Int) (a3 : Int) : Option (Int) :=
 (loopM (slices_IndexFunc_Domain_find_1_L1 a1 a2 a3) 0).bind fun r14 => match r14 with
 | Sum.inl v12 =>
  some v12
 | Sum.inr () =>
  some (-1)

def overlay_find (a1 : Api_Net) (a2 : Int) (a3 : Int) : Option (Int) :=
 (slices_IndexFunc_Domain_find_1 a1.domains a2 a3).bind fun r4 =>
 some r4

def overlay_list_1 (a1 : Api_Flood) (a2 : Int) (a3 : Int) : Option (Bool) :=
 if (a1.dev == a2) = true then
  some (a1.vni == a3)
 else
  some false

def slices_IndexFunc_Flood_list_1_L1 (a1 : List Api_Flood) (a2 : Int) (a3 : Int) (v4 : Int) : Option ((Int) ⊕ (Int ⊕ Unit)) :=
 if (decide (v4 < (a1.length : Int))) = true then
  (nth a1 v4).bind fun x6 =>
  (overlay_list_1 x6 a2 a3).bind fun r8 =>
  if (r8) = true then
   some (Sum.inr (Sum.inl v4))
  else
   some (Sum.inl (wr_i64 (v4 + 1)))
 else
  some (Sum.inr (Sum.inr ()))

def slices_IndexFunc_Flood_list_1 (a1 : List Api_Flood) (a2 : Int) (a3 : Int) : Option (Int) :=
 (loopM (slices_IndexFunc_Flood_list_1_L1 a1 a2 a3) 0).bind fun r14 => match r14 with
 | Sum.inl v12 =>
  some v12
 | Sum.inr () =>
  some (-1)

def overlay_list (a1 : Api_Net) (a2 : Int) (a3 : Int) : Option (Int) :=
 (slices_IndexFunc_Flood_list_1 a1.floods a2 a3).bind fun r4 =>
 some r4

def slices_Index_uint32_L1 (a1 : List Int) (a2 : Int) (v3 : Int) : Option ((Int) ⊕ (Int ⊕ Unit)) :=
 if (decide (v3 < (a1.length : Int))) = true then
  (nth a1 v3).bind fun x5 =>
  if (a2 == x5) = true then
   some (Sum.inr (Sum.inl v3))
  else
   some (Sum.inl (wr_i64 (v3 + 1)))
 else
  some (Sum.inr (Sum.inr ()))

def slices_Index_uint32 (a1 : List Int) (a2 : Int) : Option (Int) :=
 (loopM (slices_Index_uint32_L1 a1 a2) 0).bind fun r11 => match r11 with
 | Sum.inl v9 =>
  some v9
 | Sum.inr () =>
  some (-1)

def slices_Contains_uint32 (a1 : List Int) (a2 : Int) : Option (Bool) :=
 (slices_Index_uint32 a1 a2).bind fun r3 =>
 some (decide (r3 ≥ 0))

def slices_Clone_Device (a1 : List Api_Device) : Option (List Api_Device) :=
 if roomy 48 a1 = true then some a1 else none

def slices_Clone_Port (a1 : List Api_Port) : Option (List Api_Port) :=
 if roomy 80 a1 = true then some a1 else none

def slices_Clone_Link (a1 : List Api_Link) : Option (List Api_Link) :=
 if roomy 24 a1 = true then some a1 else none

def slices_Clone_Domain (a1 : List Api_Domain) : Option (List Api_Domain) :=
 if roomy 64 a1 = true then some a1 else none

def slices_Clone_Static (a1 : List Api_Static) : Option (List Api_Static) :=
 if roomy 32 a1 = true then some a1 else none

def slices_Clone_Flood (a1 : List Api_Flood) : Option (List Api_Flood) :=
 if roomy 48 a1 = true then some a1 else none

def slices_Clone_Vrf (a1 : List Api_Vrf) : Option (List Api_Vrf) :=
 if roomy 80 a1 = true then some a1 else none

def slices_Clone_Irb (a1 : List Api_Irb) : Option (List Api_Irb) :=
 if roomy 40 a1 = true then some a1 else none

def slices_Clone_int (a1 : List Int) : Option (List Int) :=
 if roomy 8 a1 = true then some a1 else none

def slices_Clone_uint32 (a1 : List Int) : Option (List Int) :=
 if roomy 4 a1 = true then some a1 else none

def names_Copy_L1 (l4 : List Api_Device) (l7 : List Api_Port) (l10 : List Api_Link) (l13 : List Api_Domain) (l16 : List Api_Static) (l19 : List Api_Flood) (l22 : List Api_Vrf) (l25 : List Api_Irb) (l26 : List Api_Port) (v27 : Int) : Option (((List Api_Port) × Int) ⊕ ((List Api_Port))) :=
 if (decide (v27 < ((List.length l7) : Int))) = true then
  if (lin l26 v27) = true then
   (l26[(Int.toNat v27)]?).bind fun x30 =>
   (slices_Clone_int x30.tagged).bind fun r32 => match r32 with
   | l34 =>
    (l26[(Int.toNat v27)]?).bind fun x35 =>
    some (Sum.inl (List.set l26 (Int.toNat v27) (⟨x35.row, x35.dev, x35.native, x35.cost, x35.link, x35.name, l34⟩ : Api_Port), wr_i64 (v27 + 1)))
  else
   none
 else
  some (Sum.inr l26)

def names_Copy_L2 (l4 : List Api_Device) (l7 : List Api_Port) (l10 : List Api_Link) (l13 : List Api_Domain) (l16 : List Api_Static) (l19 : List Api_Flood) (l22 : List Api_Vrf) (l25 : List Api_Irb) (l39 : List Api_Port) (l42 : List Api_Domain) (v43 : Int) : Option (((List Api_Domain) × Int) ⊕ ((List Api_Domain))) :=
 if (decide (v43 < ((List.length l13) : Int))) = true then
  if (lin l42 v43) = true then
   (l42[(Int.toNat v43)]?).bind fun x46 =>
   (slices_Clone_int x46.peers).bind fun r48 => match r48 with
   | l50 =>
    (l42[(Int.toNat v43)]?).bind fun x51 =>
    some (Sum.inl (List.set l42 (Int.toNat v43) (⟨x51.dev, x51.vlan, x51.vni, x51.irb, x51.row, l50⟩ : Api_Domain), wr_i64 (v43 + 1)))
  else
   none
 else
  some (Sum.inr l42)

def names_Copy_L3 (l4 : List Api_Device) (l7 : List Api_Port) (l10 : List Api_Link) (l13 : List Api_Domain) (l16 : List Api_Static) (l19 : List Api_Flood) (l22 : List Api_Vrf) (l25 : List Api_Irb) (l39 : List Api_Port) (l55 : List Api_Domain) (l58 : List Api_Flood) (v59 : Int) : Option (((List Api_Flood) × Int) ⊕ ((List Api_Flood))) :=
 if (decide (v59 < ((List.length l19) : Int))) = true then
  if (lin l58 v59) = true then
   (l58[(Int.toNat v59)]?).bind fun x62 =>
   (slices_Clone_uint32 x62.addrs).bind fun r64 => match r64 with
   | l66 =>
    (l58[(Int.toNat v59)]?).bind fun x67 =>
    some (Sum.inl (List.set l58 (Int.toNat v59) (⟨x67.row, x67.dev, x67.vni, l66⟩ : Api_Flood), wr_i64 (v59 + 1)))
  else
   none
 else
  some (Sum.inr l58)

def names_Copy_L4 (l4 : List Api_Device) (l7 : List Api_Port) (l10 : List Api_Link) (l13 : List Api_Domain) (l16 : List Api_Static) (l19 : List Api_Flood) (l22 : List Api_Vrf) (l25 : List Api_Irb) (l39 : List Api_Port) (l55 : List Api_Domain) (l71 : List Api_Flood) (l74 : List Api_Vrf) (v75 : Int) : Option (((List Api_Vrf) × Int) ⊕ ((List Api_Vrf))) :=
 if (decide (v75 < ((List.length l22) : Int))) = true then
  if (lin l74 v75) = true then
   (l74[(Int.toNat v75)]?).bind fun x78 =>
   (slices_Clone_int x78.imports).bind fun r80 => match r80 with
   | l82 =>
    (l74[(Int.toNat v75)]?).bind fun x83 =>
    (slices_Clone_int x83.exports).bind fun r85 => match r85 with
    | l87 =>
     (l74[(Int.toNat v75)]?).bind fun x88 =>
     ((List.set l74 (Int.toNat v75) (⟨x88.row, x88.dev, x88.name, l82, x88.exports⟩ : Api_Vrf))[(Int.toNat v75)]?).bind fun x90 =>
     some (Sum.inl (List.set (List.set l74 (Int.toNat v75) (⟨x88.row, x88.dev, x88.name, l82, x88.exports⟩ : Api_Vrf)) (Int.toNat v75) (⟨x90.row, x90.dev, x90.name, x90.imports, l87⟩ : Api_Vrf), wr_i64 (v75 + 1)))
  else
   none
 else
  some (Sum.inr l74)

def names_Copy (a1 : Api_Net) : Option (((List Api_Device) × (List Api_Port) × (List Api_Link) × (List Api_Domain) × (List Api_Static) × (List Api_Flood) × (List Api_Vrf) × (List Api_Irb) × Nat × Nat × Nat × Nat)) :=
 (slices_Clone_Device a1.devices).bind fun r2 => match r2 with
 | l4 =>
  (slices_Clone_Port a1.ports).bind fun r5 => match r5 with
  | l7 =>
   (slices_Clone_Link a1.links).bind fun r8 => match r8 with
   | l10 =>
    (slices_Clone_Domain a1.domains).bind fun r11 => match r11 with
    | l13 =>
     (slices_Clone_Static a1.statics).bind fun r14 => match r14 with
     | l16 =>
      (slices_Clone_Flood a1.floods).bind fun r17 => match r17 with
      | l19 =>
       (slices_Clone_Vrf a1.vrfs).bind fun r20 => match r20 with
       | l22 =>
        (slices_Clone_Irb a1.irbs).bind fun r23 => match r23 with
        | l25 =>
         (loopM (fun s : (List Api_Port) × Int => match s with | (l26, v27) => names_Copy_L1 l4 l7 l10 l13 l16 l19 l22 l25 l26 v27) (l7, 0)).bind fun r41 => match r41 with
         | l39 =>
          (loopM (fun s : (List Api_Domain) × Int => match s with | (l42, v43) => names_Copy_L2 l4 l7 l10 l13 l16 l19 l22 l25 l39 l42 v43) (l13, 0)).bind fun r57 => match r57 with
          | l55 =>
           (loopM (fun s : (List Api_Flood) × Int => match s with | (l58, v59) => names_Copy_L3 l4 l7 l10 l13 l16 l19 l22 l25 l39 l55 l58 v59) (l19, 0)).bind fun r73 => match r73 with
           | l71 =>
            (loopM (fun s : (List Api_Vrf) × Int => match s with | (l74, v75) => names_Copy_L4 l4 l7 l10 l13 l16 l19 l22 l25 l39 l55 l71 l74 v75) (l22, 0)).bind fun r96 => match r96 with
            | l94 =>
             some (l4, l39, l10, l55, l16, l71, l94, l25, (List.length l7), (List.length l13), (List.length l19), (List.length l22))

def overlay_Flood (a1 : Api_Net) (a2 : Api_Line) : Option (((List Api_Device) × (List Api_Port) × (List Api_Link) × (List Api_Domain) × (List Api_Static) × (List Api_Flood) × (List Api_Vrf) × (List Api_Irb) × Nat × Nat × Nat × Int)) :=
 (overlay_begin a1 a2 7).bind fun r3 =>
 if (r3.2 != 0) = true then
  some ([], [], [], [], [], [], [], [], 0, 0, 0, r3.2)
 else
  (overlay_find a1 r3.1 a2.num).bind fun r6 =>
  if (decide (r6 < 0)) = true then
   some ([], [], [], [], [], [], [], [], 0, 0, 0, 31)
  else
   (overlay_list a1 r3.1 a2.num).bind fun r9 =>
   if (decide (r9 ≥ 0)) = true then
    some ([], [], [], [], [], [], [], [], 0, 0, 0, 30)
   else
    (nth a1.devices r3.1).bind fun x12 =>
    (slices_Contains_uint32 a2.addrs x12.vtep).bind fun r14 =>
    if (r14) = true then
     some ([], [], [], [], [], [], [], [], 0, 0, 0, 36)
    else
     if ((a1.floods.length : Int) == 48) = true then
      some ([], [], [], [], [], [], [], [], 0, 0, 0, 3)
     else
      (names_Copy a1).bind fun r18 => match r18 with
      | (l20, l21, l22, l23, l24, l25, l26, l27, n28, n29, n30, n31) =>
       (slices_Clone_uint32 a2.addrs).bind fun r32 => match r32 with
       | l34 =>
        if (roomy 48 (l25 ++ [(⟨a2.row, r3.1, a2.num, l34⟩ : Api_Flood)])) = true then
         some (l20, l21, l22, l23, l24, l25 ++ [(⟨a2.row, r3.1, a2.num, l34⟩ : Api_Flood)], l26, l27, n28, n29, n31, 0)
        else
         none

def overlay_owner_1 (a1 : Api_Device) (a2 : Int) : Option (Bool) :=
 some (a1.vtep == a2)

def slices_IndexFunc_Device_owner_1_L1 (a1 : List Api_Device) (a2 : Int) (v3 : Int) : Option ((Int) ⊕ (Int ⊕ Unit)) :=
 if (decide (v3 < (a1.length : Int))) = true then
  (nth a1 v3).bind fun x5 =>
  (overlay_owner_1 x5 a2).bind fun r7 =>
  if (r7) = true then
   some (Sum.inr (Sum.inl v3))
  else
   some (Sum.inl (wr_i64 (v3 + 1)))
 else
  some (Sum.inr (Sum.inr ()))

def slices_IndexFunc_Device_owner_1 (a1 : List Api_Device) (a2 : Int) : Option (Int) :=
 (loopM (slices_IndexFunc_Device_owner_1_L1 a1 a2) 0).bind fun r13 => match r13 with
 | Sum.inl v11 =>
  some v11
 | Sum.inr () =>
  some (-1)

def overlay_owner (a1 : Api_Net) (a2 : Int) : Option (Int) :=
 (slices_IndexFunc_Device_owner_1 a1.devices a2).bind fun r3 =>
 some r3

def overlay_agrees_J2 (a1 : Api_Net) (a2 : Api_Flood) (x3 : Api_Device) (v7 : Bool) (v8 : Int) (x10 : Int) (r12 : Int) : Option (Bool) :=
 if (v7) = true then
  if (decide (r12 ≥ 0)) = true then
   if (x10 != 0) = true then
    (overlay_find a1 r12 a2.vni).bind fun r17 =>
    if (decide (r17 ≥ 0)) = true then
     (overlay_list a1 r12 a2.vni).bind fun r20 =>
     some (decide (r20 ≥ 0))
    else
     some false
   else
    some false
  else
   some false
 else
  some false

def overlay_agrees_L3 (a1 : Api_Net) (a2 : Api_Flood) (x3 : Api_Device) (v8 : Int) (x10 : Int) (x29 : Api_Flood) (v33 : Bool) (v34 : Int) : Option ((Bool × Int) ⊕ (Bool)) :=
 if (decide (v34 < (a2.addrs.length : Int))) = true then
  (nth a2.addrs v34).bind fun x36 =>
  if (v33) = true then
   if (x36 == x10) = true then
    some (Sum.inl (true, wr_i64 (v34 + 1)))
   else
    (slices_Contains_uint32 x29.addrs x36).bind fun r40 =>
    some (Sum.inl (r40, wr_i64 (v34 + 1)))
  else
   some (Sum.inl (false, wr_i64 (v34 + 1)))
 else
  some (Sum.inr v33)

def overlay_agrees_L1 (a1 : Api_Net) (a2 : Api_Flood) (x3 : Api_Device) (v7 : Bool) (v8 : Int) : Option ((Bool × Int) ⊕ (Bool)) :=
 if (decide (v8 < (a2.addrs.length : Int))) = true then
  (nth a2.addrs v8).bind fun x10 =>
  (overlay_owner a1 x10).bind fun r12 =>
  (overlay_agrees_J2 a1 a2 x3 v7 v8 x10 r12).bind fun r25 => match r25 with
  | v23 =>
   if (!v23) = true then
    some (Sum.inr v23)
   else
    (overlay_list a1 r12 a2.vni).bind fun r27 =>
    (nth a1.floods r27).bind fun x29 =>
    (slices_Contains_uint32 x29.addrs x3.vtep).bind fun r31 =>
    (loopM (fun s : Bool × Int => match s with | (v33, v34) => overlay_agrees_L3 a1 a2 x3 v8 x10 x29 v33 v34) (r31, 0)).bind fun r45 => match r45 with
    | v43 =>
     some (Sum.inl (v43, wr_i64 (v8 + 1)))
 else
  some (Sum.inr v7)

def overlay_agrees (a1 : Api_Net) (a2 : Api_Flood) : Option (Bool) :=
 (nth a1.devices a2.dev).bind fun x3 =>
 (overlay_find a1 a2.dev a2.vni).bind fun r5 =>
 (loopM (fun s : Bool × Int => match s with | (v7, v8) => overlay_agrees_L1 a1 a2 x3 v7 v8) (decide (r5 ≥ 0), 0)).bind fun r49 => match r49 with
 | v47 =>
  some v47

def overlay_Mesh_L1 (a1 : Api_Net) (v5 : Int) : Option ((Int) ⊕ (Int ⊕ Unit)) :=
 if (decide (v5 < (a1.floods.length : Int))) = true then
  (nth a1.floods v5).bind fun x7 =>
  (overlay_agrees a1 x7).bind fun r9 =>
  if (!r9) = true then
   some (Sum.inr (Sum.inl x7.row))
  else
   some (Sum.inl (wr_i64 (v5 + 1)))
 else
  some (Sum.inr (Sum.inr ()))

def overlay_Mesh_J3 (a1 : Api_Net) (l18 : List Api_Device) (l19 : List Api_Port) (l20 : List Api_Link) (l22 : List Api_Static) (l23 : List Api_Flood) (l24 : List Api_Vrf) (l25 : List Api_Irb) (n26 : Nat) (n27 : Nat) (n28 : Nat) (n29 : Nat) (l30 : List Api_Domain) (v31 : Int) (x33 : Api_Domain) (r35 : Int) : Option (Bool) :=
 if (x33.vni != 0) = true then
  some (decide (r35 ≥ 0))
 else
  some false

def overlay_Mesh_L4 (a1 : Api_Net) (l18 : List Api_Device) (l19 : List Api_Port) (l20 : List Api_Link) (l22 : List Api_Static) (l23 : List Api_Flood) (l24 : List Api_Vrf) (l25 : List Api_Irb) (n26 : Nat) (n27 : Nat) (n28 : Nat) (n29 : Nat) (l30 : List Api_Domain) (v31 : Int) (x33 : Api_Domain) (x43 : Api_Flood) (l45 : List Int) (v46 : Int) : Option (((List Int) × Int) ⊕ ((List Int))) :=
 if (decide (v46 < (x43.addrs.length : Int))) = true then
  (nth x43.addrs v46).bind fun x48 =>
  (overlay_owner a1 x48).bind fun r50 =>
  (overlay_find a1 r50 x33.vni).bind fun r52 =>
  if (roomy 8 (l45 ++ [r52])) = true then
   some (Sum.inl (l45 ++ [r52], wr_i64 (v46 + 1)))
  else
   none
 else
  some (Sum.inr l45)

def overlay_Mesh_L2 (a1 : Api_Net) (l18 : List Api_Device) (l19 : List Api_Port) (l20 : List Api_Link) (l22 : List Api_Static) (l23 : List Api_Flood) (l24 : List Api_Vrf) (l25 : List Api_Irb) (n26 : Nat) (n27 : Nat) (n28 : Nat) (n29 : Nat) (l30 : List Api_Domain) (v31 : Int) : Option (((List Api_Domain) × Int) ⊕ ((List Api_Domain))) :=
 if (decide (v31 < (a1.domains.length : Int))) = true then
  (nth a1.domains v31).bind fun x33 =>
  (overlay_list a1 x33.dev x33.vni).bind fun r35 =>
  (overlay_Mesh_J3 a1 l18 l19 l20 l22 l23 l24 l25 n26 n27 n28 n29 l30 v31 x33 r35).bind fun r41 => match r41 with
  | v39 =>
   if (v39) = true then
    (nth a1.floods r35).bind fun x43 =>
    (loopM (fun s : (List Int) × Int => match s with | (l45, v46) => overlay_Mesh_L4 a1 l18 l19 l20 l22 l23 l24 l25 n26 n27 n28 n29 l30 v31 x33 x43 l45 v46) ([], 0)).bind fun r66 => match r66 with
    | l64 =>
     if (lin l30 v31) = true then
      (l30[(Int.toNat v31)]?).bind fun x68 =>
      some (Sum.inl (List.set l30 (Int.toNat v31) (⟨x68.dev, x68.vlan, x68.vni, x68.irb, x68.row, l64⟩ : Api_Domain), wr_i64 (v31 + 1)))
     else
      none
   else
    if (lin l30 v31) = true then
     (l30[(Int.toNat v31)]?).bind fun x71 =>
     some (Sum.inl (List.set l30 (Int.toNat v31) (⟨x71.dev, x71.vlan, x71.vni, x71.irb, x71.row, []⟩ : Api_Domain), wr_i64 (v31 + 1)))
    else
     none
 else
  some (Sum.inr l30)

def overlay_Mesh (a1 : Api_Net) : Option (((List Api_Device) × (List Api_Port) × (List Api_Link) × (List Api_Domain) × (List Api_Static) × (List Api_Flood) × (List Api_Vrf) × (List Api_Irb) × Nat × Nat × Nat × Nat × Int × Int)) :=
 (names_Right a1).bind fun r2 =>
 if (!r2) = true then
  some ([], [], [], [], [], [], [], [], 0, 0, 0, 0, 0, 2)
 else
  (loopM (overlay_Mesh_L1 a1) 0).bind fun r15 => match r15 with
  | Sum.inl v13 =>
   some ([], [], [], [], [], [], [], [], 0, 0, 0, 0, v13, 36)
  | Sum.inr () =>
   (names_Copy a1).bind fun r16 => match r16 with
   | (l18, l19, l20, l21, l22, l23, l24, l25, n26, n27, n28, n29) =>
    (loopM (fun s : (List Api_Domain) × Int => match s with | (l30, v31) => overlay_Mesh_L2 a1 l18 l19 l20 l22 l23 l24 l25 n26 n27 n28 n29 l30 v31) (l21, 0)).bind fun r78 => match r78 with
    | l76 =>
     (names_Right (⟨l18, l19, l20, l76, l22, l23, l24, l25⟩ : Api_Net)).bind fun r79 =>
     if (!r79) = true then
      some ([], [], [], [], [], [], [], [], 0, 0, 0, 0, 0, 36)
     else
      some (l18, l19, l20, l76, l22, l23, l24, l25, n26, n27, n28, n29, 0, 0)

def palinglaw19_works : Option (Bool) :=
 (overlay_Flood (⟨[(⟨0, 0, (⟨#[97]⟩ : ByteArray), 0, 1⟩ : Api_Device), (⟨0, 0, (⟨#[98]⟩ : ByteArray), 0, 2⟩ : Api_Device)], [], [], [(⟨0, 10, 5010, (-1), 0, []⟩ : Api_Domain), (⟨1, 10, 5010, (-1), 0, []⟩ : Api_Domain)], [], [], [], []⟩ : Api_Net) (⟨7, 7, (⟨#[97]⟩ : ByteArray), (⟨#[]⟩ : ByteArray), (⟨#[]⟩ : ByteArray), (⟨#[]⟩ : ByteArray), (⟨#[]⟩ : ByteArray), 0, 0, 0, 0, 5010, 0, [], [], [], [(2 : Int)]⟩ : Api_Line)).bind fun r1 => match r1 with
 | (l3, l4, l5, l6, l7, l8, l9, l10, n11, n12, n13, v14) =>
  (overlay_Mesh (⟨l3, l4, l5, l6, l7, l8, l9, l10⟩ : Api_Net)).bind fun r15 => match r15 with
  | (l17, l18, l19, l20, l21, l22, l23, l24, n25, n26, n27, n28, v29, v30) =>
   (overlay_Flood (⟨l3, l4, l5, l6, l7, l8, l9, l10⟩ : Api_Net) (⟨0, 7, (⟨#[98]⟩ : ByteArray), (⟨#[]⟩ : ByteArray), (⟨#[]⟩ : ByteArray), (⟨#[]⟩ : ByteArray), (⟨#[]⟩ : ByteArray), 0, 0, 0, 0, 5010, 0, [], [], [], [(1 : Int)]⟩ : Api_Line)).bind fun r31 => match r31 with
   | (l33, l34, l35, l36, l37, l38, l39, l40, n41, n42, n43, v44) =>
    (overlay_Mesh (⟨l33, l34, l35, l36, l37, l38, l39, l40⟩ : Api_Net)).bind fun r45 => match r45 with
    | (l47, l48, l49, l50, l51, l52, l53, l54, n55, n56, n57, n58, v59, v60) =>
     if (v14 == 0) = true then
      if (v30 == 36) = true then
       if (v29 == 7) = true then
        if (v44 == 0) = true then
         if (v60 == 0) = true then
          if ((n56 : Int) == 2) = true then
           if (lin l50 0) = true then
            (l50[(Int.toNat 0)]?).bind fun x68 =>
            if ((x68.peers.length : Int) == 1) = true then
             (l50[(Int.toNat 0)]?).bind fun x71 =>
             (nth x71.peers 0).bind fun x73 =>
             some (x73 == 1)
            else
             some false
           else
            none
          else
           some false
         else
          some false
        else
         some false
       else
        some false
      else
       some false
     else
      some false

def palingref15_Place (a1 : Int) (a2 : Int) : Option (Bool) :=
 if (decide (a1 ≥ 0)) = true then
  some (decide (a1 < a2))
 else
  some false

def palingref15_At_L1 (a1 : Api_Net) (a2 : Int) (a3 : Int) (v4 : Int) : Option ((Int) ⊕ (Int ⊕ Unit)) :=
 if (decide (v4 < (a1.domains.length : Int))) = true then
  (nth a1.domains v4).bind fun x6 =>
  if (x6.dev == a2) = true then
   (nth a1.domains v4).bind fun x9 =>
   if (x9.vlan == a3) = true then
    some (Sum.inr (Sum.inl v4))
   else
    some (Sum.inl (wr_i64 (v4 + 1)))
  else
   some (Sum.inl (wr_i64 (v4 + 1)))
 else
  some (Sum.inr (Sum.inr ()))

def palingref15_At (a1 : Api_Net) (a2 : Int) (a3 : Int) : Option (Int) :=
 (loopM (palingref15_At_L1 a1 a2 a3) 0).bind fun r15 => match r15 with
 | Sum.inl v13 =>
  some v13
 | Sum.inr () =>
  some (-1)

def palingref15_In_L1 (a1 : List Int) (a2 : Int) (v3 : Int) : Option ((Int) ⊕ (Unit ⊕ Unit)) :=
 if (decide (v3 < (a1.length : Int))) = true then
  (nth a1 v3).bind fun x5 =>
  if (x5 == a2) = true then
   some (Sum.inr (Sum.inl ()))
  else
   some (Sum.inl (wr_i64 (v3 + 1)))
 else
  some (Sum.inr (Sum.inr ()))

def palingref15_In (a1 : List Int) (a2 : Int) : Option (Bool) :=
 (loopM (palingref15_In_L1 a1 a2) 0).bind fun r9 => match r9 with
 | Sum.inl () =>
  some true
 | Sum.inr () =>
  some false

def palingref15_peer (a1 : Api_Net) (a2 : Int) (a3 : Int) : Option (Bool) :=
 (palingref15_Place a3 (a1.domains.length : Int)).bind fun r4 =>
 if (!r4) = true then
  some false
 else
  if (a3 == a2) = true then
   some false
  else
   (nth a1.domains a2).bind fun x8 =>
   (nth a1.domains a3).bind fun x10 =>
   if (x8.dev != x10.dev) = true then
    if (x8.vni == x10.vni) = true then
     if (x8.vni != 0) = true then
      (nth a1.devices x8.dev).bind fun x15 =>
      if (x15.vtep != 0) = true then
       (nth a1.devices x10.dev).bind fun x18 =>
       if (x18.vtep != 0) = true then
        (palingref15_In x10.peers a2).bind fun r21 =>
        some r21
       else
        some false
      else
       some false
     else
      some false
    else
     some false
   else
    some false

def palingref15_domains_L1 (a1 : Api_Net) (v2 : Int) : Option ((Int) ⊕ (Unit ⊕ Unit)) :=
 if (decide (v2 < (a1.domains.length : Int))) = true then
  (nth a1.domains v2).bind fun x4 =>
  (palingref15_Place x4.dev (a1.devices.length : Int)).bind fun r6 =>
  if (!r6) = true then
   some (Sum.inr (Sum.inl ()))
  else
   if (decide (x4.vlan < 1)) = true then
    some (Sum.inr (Sum.inl ()))
   else
    if (decide (x4.vlan > 4094)) = true then
     some (Sum.inr (Sum.inl ()))
    else
     if (decide (x4.vni < 0)) = true then
      some (Sum.inr (Sum.inl ()))
     else
      if (decide (x4.vni ≥ 16777216)) = true then
       some (Sum.inr (Sum.inl ()))
      else
       (palingref15_At a1 x4.dev x4.vlan).bind fun r13 =>
       if (r13 != v2) = true then
        some (Sum.inr (Sum.inl ()))
       else
        if (x4.irb != (-1)) = true then
         (palingref15_Place x4.irb (a1.irbs.length : Int)).bind fun r17 =>
         if (!r17) = true then
          some (Sum.inr (Sum.inl ()))
         else
          (nth a1.irbs x4.irb).bind fun x20 =>
          if (x20.domain != v2) = true then
           some (Sum.inr (Sum.inl ()))
          else
           some (Sum.inl (wr_i64 (v2 + 1)))
        else
         some (Sum.inl (wr_i64 (v2 + 1)))
 else
  some (Sum.inr (Sum.inr ()))

def palingref15_domains_L3 (a1 : Api_Net) (v25 : Int) (x27 : Api_Domain) (v29 : Int) : Option ((Int) ⊕ (Unit ⊕ Unit)) :=
 if (decide (v29 < (x27.peers.length : Int))) = true then
  (nth x27.peers v29).bind fun x31 =>
  (palingref15_peer a1 v25 x31).bind fun r33 =>
  if (!r33) = true then
   some (Sum.inr (Sum.inl ()))
  else
   if (slok (List.length x27.peers) 0 v29) = true then
    (nth x27.peers v29).bind fun x37 =>
    (palingref15_In (List.drop (Int.toNat 0) (List.take (Int.toNat v29) x27.peers)) x37).bind fun r39 =>
    if (r39) = true then
     some (Sum.inr (Sum.inl ()))
    else
     some (Sum.inl (wr_i64 (v29 + 1)))
   else
    none
 else
  some (Sum.inr (Sum.inr ()))

def palingref15_domains_L2 (a1 : Api_Net) (v25 : Int) : Option ((Int) ⊕ (Unit ⊕ Unit)) :=
 if (decide (v25 < (a1.domains.length : Int))) = true then
  (nth a1.domains v25).bind fun x27 =>
  (loopM (palingref15_domains_L3 a1 v25 x27) 0).bind fun r43 => match r43 with
  | Sum.inl () =>
   some (Sum.inr (Sum.inl ()))
  | Sum.inr () =>
   some (Sum.inl (wr_i64 (v25 + 1)))
 else
  some (Sum.inr (Sum.inr ()))

def palingref15_domains (a1 : Api_Net) : Option (Bool) :=
 (loopM (palingref15_domains_L1 a1) 0).bind fun r24 => match r24 with
 | Sum.inl () =>
  some false
 | Sum.inr () =>
  (loopM (palingref15_domains_L2 a1) 0).bind fun r45 => match r45 with
  | Sum.inl () =>
   some false
  | Sum.inr () =>
   some true

def palingref03_Rising_L1 (a1 : List Int) (a2 : Int) (a3 : Int) (v6 : Int) : Option ((Int) ⊕ (Unit ⊕ Unit)) :=
 if (decide (v6 < (a1.length : Int))) = true then
  (nth a1 v6).bind fun x8 =>
  if (decide (x8 < a2)) = true then
   some (Sum.inr (Sum.inl ()))
  else
   (nth a1 v6).bind fun x11 =>
   if (decide (x11 > a3)) = true then
    some (Sum.inr (Sum.inl ()))
   else
    if (decide (v6 > 0)) = true then
     (nth a1 v6).bind fun x15 =>
     (nth a1 (wr_i64 (v6 - 1))).bind fun x17 =>
     if (decide (x15 ≤ x17)) = true then
      some (Sum.inr (Sum.inl ()))
     else
      some (Sum.inl (wr_i64 (v6 + 1)))
    else
     some (Sum.inl (wr_i64 (v6 + 1)))
 else
  some (Sum.inr (Sum.inr ()))

def palingref03_Rising (a1 : List Int) (a2 : Int) (a3 : Int) : Option (Bool) :=
 if (decide ((a1.length : Int) < 1)) = true then
  some false
 else
  if (decide ((a1.length : Int) > 16)) = true then
   some false
  else
   (loopM (palingref03_Rising_L1 a1 a2 a3) 0).bind fun r21 => match r21 with
   | Sum.inl () =>
    some false
   | Sum.inr () =>
    some true

def palingref15_rising (a1 : List Int) (a2 : Int) : Option (Bool) :=
 if ((a1.length : Int) == 0) = true then
  some true
 else
  (palingref03_Rising a1 1 a2).bind fun r4 =>
  some r4

def palingref15_ports_J2 (a1 : Api_Net) (v2 : Int) (x4 : Api_Port) : Option (Unit ⊕ Unit) :=
 if (x4.native == 0) = true then
  if ((x4.tagged.length : Int) == 0) = true then
   some (Sum.inl ())
  else
   if (decide (x4.native > 0)) = true then
    (palingref15_At a1 x4.dev x4.native).bind fun r20 =>
    if (decide (r20 < 0)) = true then
     some (Sum.inl ())
    else
     some (Sum.inr ())
   else
    some (Sum.inr ())
 else
  if (decide (x4.native > 0)) = true then
   (palingref15_At a1 x4.dev x4.native).bind fun r24 =>
   if (decide (r24 < 0)) = true then
    some (Sum.inl ())
   else
    some (Sum.inr ())
  else
   some (Sum.inr ())

def palingref15_ports_L3 (a1 : Api_Net) (v2 : Int) (x4 : Api_Port) (v29 : Int) : Option ((Int) ⊕ (Unit ⊕ Unit)) :=
 if (decide (v29 < (x4.tagged.length : Int))) = true then
  (nth x4.tagged v29).bind fun x31 =>
  (palingref15_At a1 x4.dev x31).bind fun r33 =>
  if (decide (r33 < 0)) = true then
   some (Sum.inr (Sum.inl ()))
  else
   some (Sum.inl (wr_i64 (v29 + 1)))
 else
  some (Sum.inr (Sum.inr ()))

def palingref15_ports_L1 (a1 : Api_Net) (v2 : Int) : Option ((Int) ⊕ (Unit ⊕ Unit)) :=
 if (decide (v2 < (a1.ports.length : Int))) = true then
  (nth a1.ports v2).bind fun x4 =>
  (palingref15_Place x4.dev (a1.devices.length : Int)).bind fun r6 =>
  if (!r6) = true then
   some (Sum.inr (Sum.inl ()))
  else
   if (decide (x4.native < 0)) = true then
    some (Sum.inr (Sum.inl ()))
   else
    if (decide (x4.native > 4094)) = true then
     some (Sum.inr (Sum.inl ()))
    else
     (palingref15_rising x4.tagged 4094).bind fun r11 =>
     if (!r11) = true then
      some (Sum.inr (Sum.inl ()))
     else
      (palingref15_In x4.tagged x4.native).bind fun r14 =>
      if (r14) = true then
       some (Sum.inr (Sum.inl ()))
      else
       (palingref15_ports_J2 a1 v2 x4).bind fun r28 => match r28 with
       | Sum.inl () =>
        some (Sum.inr (Sum.inl ()))
       | Sum.inr () =>
        (loopM (palingref15_ports_L3 a1 v2 x4) 0).bind fun r37 => match r37 with
        | Sum.inl () =>
         some (Sum.inr (Sum.inl ()))
        | Sum.inr () =>
         if (x4.link == (-1)) = true then
          some (Sum.inl (wr_i64 (v2 + 1)))
         else
          (palingref15_Place x4.link (a1.links.length : Int)).bind fun r39 =>
          if (!r39) = true then
           some (Sum.inr (Sum.inl ()))
          else
           (nth a1.links x4.link).bind fun x42 =>
           if (x42.a != v2) = true then
            (nth a1.links x4.link).bind fun x45 =>
            if (x45.b != v2) = true then
             some (Sum.inr (Sum.inl ()))
            else
             some (Sum.inl (wr_i64 (v2 + 1)))
           else
            some (Sum.inl (wr_i64 (v2 + 1)))
 else
  some (Sum.inr (Sum.inr ()))

def palingref15_ports (a1 : Api_Net) : Option (Bool) :=
 (loopM (palingref15_ports_L1 a1) 0).bind fun r49 => match r49 with
 | Sum.inl () =>
  some false
 | Sum.inr () =>
  some true

def palingref15_links_L1 (a1 : Api_Net) (v2 : Int) : Option ((Int) ⊕ (Unit ⊕ Unit)) :=
 if (decide (v2 < (a1.links.length : Int))) = true then
  (nth a1.links v2).bind fun x4 =>
  (palingref15_Place x4.a (a1.ports.length : Int)).bind fun r6 =>
  if (!r6) = true then
   some (Sum.inr (Sum.inl ()))
  else
   (palingref15_Place x4.b (a1.ports.length : Int)).bind fun r9 =>
   if (!r9) = true then
    some (Sum.inr (Sum.inl ()))
   else
    (nth a1.ports x4.a).bind fun x12 =>
    (nth a1.ports x4.b).bind fun x14 =>
    if (x12.dev == x14.dev) = true then
     some (Sum.inr (Sum.inl ()))
    else
     (nth a1.ports x4.a).bind fun x17 =>
     if (x17.link != v2) = true then
      some (Sum.inr (Sum.inl ()))
     else
      (nth a1.ports x4.b).bind fun x20 =>
      if (x20.link != v2) = true then
       some (Sum.inr (Sum.inl ()))
      else
       some (Sum.inl (wr_i64 (v2 + 1)))
 else
  some (Sum.inr (Sum.inr ()))

def palingref15_links (a1 : Api_Net) : Option (Bool) :=
 (loopM (palingref15_links_L1 a1) 0).bind fun r24 => match r24 with
 | Sum.inl () =>
  some false
 | Sum.inr () =>
  some true

def palingref15_Member (a1 : Api_Port) (a2 : Int) : Option (Bool) :=
 if (a2 != 0) = true then
  if (a1.native == a2) = true then
   some true
  else
   (palingref15_In a1.tagged a2).bind fun r5 =>
   some r5
 else
  some false

def palingref15_rest_L1 (a1 : Api_Net) (v2 : Int) : Option ((Int) ⊕ (Unit ⊕ Unit)) :=
 if (decide (v2 < (a1.statics.length : Int))) = true then
  (nth a1.statics v2).bind fun x4 =>
  (palingref15_Place x4.domain (a1.domains.length : Int)).bind fun r6 =>
  if (!r6) = true then
   some (Sum.inr (Sum.inl ()))
  else
   (palingref15_Place x4.port (a1.ports.length : Int)).bind fun r9 =>
   if (!r9) = true then
    some (Sum.inr (Sum.inl ()))
   else
    (nth a1.domains x4.domain).bind fun x12 =>
    (nth a1.ports x4.port).bind fun x14 =>
    if (x14.dev != x12.dev) = true then
     some (Sum.inr (Sum.inl ()))
    else
     (nth a1.ports x4.port).bind fun x17 =>
     (palingref15_Member x17 x12.vlan).bind fun r19 =>
     if (!r19) = true then
      some (Sum.inr (Sum.inl ()))
     else
      some (Sum.inl (wr_i64 (v2 + 1)))
 else
  some (Sum.inr (Sum.inr ()))

def palingref15_rest_L2 (a1 : Api_Net) (v24 : Int) : Option ((Int) ⊕ (Unit ⊕ Unit)) :=
 if (decide (v24 < (a1.floods.length : Int))) = true then
  (nth a1.floods v24).bind fun x26 =>
  (palingref15_Place x26.dev (a1.devices.length : Int)).bind fun r28 =>
  if (!r28) = true then
   some (Sum.inr (Sum.inl ()))
  else
   (nth a1.floods v24).bind fun x31 =>
   if (decide ((x31.addrs.length : Int) > 16)) = true then
    some (Sum.inr (Sum.inl ()))
   else
    some (Sum.inl (wr_i64 (v24 + 1)))
 else
  some (Sum.inr (Sum.inr ()))

def palingref15_rest_L3 (a1 : Api_Net) (v36 : Int) : Option ((Int) ⊕ (Unit ⊕ Unit)) :=
 if (decide (v36 < (a1.vrfs.length : Int))) = true then
  (nth a1.vrfs v36).bind fun x38 =>
  (palingref15_Place x38.dev (a1.devices.length : Int)).bind fun r40 =>
  if (!r40) = true then
   some (Sum.inr (Sum.inl ()))
  else
   (palingref15_rising x38.imports 65535).bind fun r43 =>
   if (!r43) = true then
    some (Sum.inr (Sum.inl ()))
   else
    (palingref15_rising x38.exports 65535).bind fun r46 =>
    if (!r46) = true then
     some (Sum.inr (Sum.inl ()))
    else
     some (Sum.inl (wr_i64 (v36 + 1)))
 else
  some (Sum.inr (Sum.inr ()))

def palingref15_rest_L4 (a1 : Api_Net) (v51 : Int) : Option ((Int) ⊕ (Unit ⊕ Unit)) :=
 if (decide (v51 < (a1.irbs.length : Int))) = true then
  (nth a1.irbs v51).bind fun x53 =>
  (palingref15_Place x53.domain (a1.domains.length : Int)).bind fun r55 =>
  if (!r55) = true then
   some (Sum.inr (Sum.inl ()))
  else
   (palingref15_Place x53.vrf (a1.vrfs.length : Int)).bind fun r58 =>
   if (!r58) = true then
    some (Sum.inr (Sum.inl ()))
   else
    if (decide (x53.net.bits < 1)) = true then
     some (Sum.inr (Sum.inl ()))
    else
     if (decide (x53.net.bits > 30)) = true then
      some (Sum.inr (Sum.inl ()))
     else
      (nth a1.domains x53.domain).bind fun x63 =>
      (nth a1.vrfs x53.vrf).bind fun x65 =>
      if (x63.dev != x65.dev) = true then
       some (Sum.inr (Sum.inl ()))
      else
       (nth a1.domains x53.domain).bind fun x68 =>
       if (x68.irb != v51) = true then
        some (Sum.inr (Sum.inl ()))
       else
        some (Sum.inl (wr_i64 (v51 + 1)))
 else
  some (Sum.inr (Sum.inr ()))

def palingref15_rest (a1 : Api_Net) : Option (Bool) :=
 (loopM (palingref15_rest_L1 a1) 0).bind fun r23 => match r23 with
 | Sum.inl () =>
  some false
 | Sum.inr () =>
  (loopM (palingref15_rest_L2 a1) 0).bind fun r35 => match r35 with
  | Sum.inl () =>
   some false
  | Sum.inr () =>
   (loopM (palingref15_rest_L3 a1) 0).bind fun r50 => match r50 with
   | Sum.inl () =>
    some false
   | Sum.inr () =>
    (loopM (palingref15_rest_L4 a1) 0).bind fun r72 => match r72 with
    | Sum.inl () =>
     some false
    | Sum.inr () =>
     some true

def palingref15_Right (a1 : Api_Net) : Option (Bool) :=
 if (decide ((a1.devices.length : Int) > 8)) = true then
  some false
 else
  if (decide ((a1.ports.length : Int) > 40)) = true then
   some false
  else
   if (decide ((a1.links.length : Int) > 20)) = true then
    some false
   else
    if (decide ((a1.domains.length : Int) > 48)) = true then
     some false
    else
     if (decide ((a1.statics.length : Int) > 64)) = true then
      some false
     else
      if (decide ((a1.floods.length : Int) > 48)) = true then
       some false
      else
       if (decide ((a1.vrfs.length : Int) > 16)) = true then
        some false
       else
        if (decide ((a1.irbs.length : Int) > 48)) = true then
         some false
        else
         (palingref15_domains a1).bind fun r10 =>
         if (r10) = true then
          (palingref15_ports a1).bind fun r13 =>
          if (r13) = true then
           (palingref15_links a1).bind fun r16 =>
           if (r16) = true then
            (palingref15_rest a1).bind fun r19 =>
            some r19
           else
            some false
          else
           some false
         else
          some false

def palingref19_Find_L1 (a1 : Api_Net) (a2 : Int) (a3 : Int) (v4 : Int) : Option ((Int) ⊕ (Int ⊕ Unit)) :=
 if (decide (v4 < (a1.domains.length : Int))) = true then
  (nth a1.domains v4).bind fun x6 =>
  if (x6.dev == a2) = true then
   (nth a1.domains v4).bind fun x9 =>
   if (x9.vni == a3) = true then
    if (a3 != 0) = true then
     some (Sum.inr (Sum.inl v4))
    else
     some (Sum.inl (wr_i64 (v4 + 1)))
   else
    some (Sum.inl (wr_i64 (v4 + 1)))
  else
   some (Sum.inl (wr_i64 (v4 + 1)))
 else
  some (Sum.inr (Sum.inr ()))

def palingref19_Find (a1 : Api_Net) (a2 : Int) (a3 : Int) : Option (Int) :=
 (loopM (palingref19_Find_L1 a1 a2 a3) 0).bind fun r16 => match r16 with
 | Sum.inl v14 =>
  some v14
 | Sum.inr () =>
  some (-1)

def palingref19_Owner_L1 (a1 : Api_Net) (a2 : Int) (v3 : Int) : Option ((Int) ⊕ (Int ⊕ Unit)) :=
 if (decide (v3 < (a1.devices.length : Int))) = true then
  (nth a1.devices v3).bind fun x5 =>
  if (x5.vtep == a2) = true then
   some (Sum.inr (Sum.inl v3))
  else
   some (Sum.inl (wr_i64 (v3 + 1)))
 else
  some (Sum.inr (Sum.inr ()))

def palingref19_Owner (a1 : Api_Net) (a2 : Int) : Option (Int) :=
 (loopM (palingref19_Owner_L1 a1 a2) 0).bind fun r11 => match r11 with
 | Sum.inl v9 =>
  some v9
 | Sum.inr () =>
  some (-1)

def palingref19_list_L1 (a1 : Api_Net) (a2 : Int) (a3 : Int) (v4 : Int) : Option ((Int) ⊕ (Int ⊕ Unit)) :=
 if (decide (v4 < (a1.floods.length : Int))) = true then
  (nth a1.floods v4).bind fun x6 =>
  if (x6.dev == a2) = true then
   (nth a1.floods v4).bind fun x9 =>
   if (x9.vni == a3) = true then
    some (Sum.inr (Sum.inl v4))
   else
    some (Sum.inl (wr_i64 (v4 + 1)))
  else
   some (Sum.inl (wr_i64 (v4 + 1)))
 else
  some (Sum.inr (Sum.inr ()))

def palingref19_list (a1 : Api_Net) (a2 : Int) (a3 : Int) : Option (Int) :=
 (loopM (palingref19_list_L1 a1 a2 a3) 0).bind fun r15 => match r15 with
 | Sum.inl v13 =>
  some v13
 | Sum.inr () =>
  some (-1)

def palingref19_has_L1 (a1 : List Int) (a2 : Int) (v3 : Int) : Option ((Int) ⊕ (Unit ⊕ Unit)) :=
 if (decide (v3 < (a1.length : Int))) = true then
  (nth a1 v3).bind fun x5 =>
  if (x5 == a2) = true then
   some (Sum.inr (Sum.inl ()))
  else
   some (Sum.inl (wr_i64 (v3 + 1)))
 else
  some (Sum.inr (Sum.inr ()))

def palingref19_has (a1 : List Int) (a2 : Int) : Option (Bool) :=
 (loopM (palingref19_has_L1 a1 a2) 0).bind fun r9 => match r9 with
 | Sum.inl () =>
  some true
 | Sum.inr () =>
  some false

def palingref19_agrees_L2 (a1 : Api_Net) (a2 : Api_Flood) (v6 : Int) (x24 : Api_Flood) (v31 : Int) : Option ((Int) ⊕ (Unit ⊕ Unit)) :=
 if (decide (v31 < (a2.addrs.length : Int))) = true then
  (nth a2.addrs v31).bind fun x33 =>
  (nth a2.addrs v6).bind fun x35 =>
  if (x33 != x35) = true then
   (nth a2.addrs v31).bind fun x38 =>
   (palingref19_has x24.addrs x38).bind fun r40 =>
   if (!r40) = true then
    some (Sum.inr (Sum.inl ()))
   else
    some (Sum.inl (wr_i64 (v31 + 1)))
  else
   some (Sum.inl (wr_i64 (v31 + 1)))
 else
  some (Sum.inr (Sum.inr ()))

def palingref19_agrees_L1 (a1 : Api_Net) (a2 : Api_Flood) (v6 : Int) : Option ((Int) ⊕ (Unit ⊕ Unit)) :=
 if (decide (v6 < (a2.addrs.length : Int))) = true then
  (nth a2.addrs v6).bind fun x8 =>
  (palingref19_Owner a1 x8).bind fun r10 =>
  (nth a2.addrs v6).bind fun x12 =>
  if (x12 == 0) = true then
   some (Sum.inr (Sum.inl ()))
  else
   if (decide (r10 < 0)) = true then
    some (Sum.inr (Sum.inl ()))
   else
    (palingref19_Find a1 r10 a2.vni).bind fun r16 =>
    if (decide (r16 < 0)) = true then
     some (Sum.inr (Sum.inl ()))
    else
     (palingref19_list a1 r10 a2.vni).bind fun r19 =>
     if (decide (r19 < 0)) = true then
      some (Sum.inr (Sum.inl ()))
     else
      (palingref19_list a1 r10 a2.vni).bind fun r22 =>
      (nth a1.floods r22).bind fun x24 =>
      (nth a1.devices a2.dev).bind fun x26 =>
      (palingref19_has x24.addrs x26.vtep).bind fun r28 =>
      if (!r28) = true then
       some (Sum.inr (Sum.inl ()))
      else
       (loopM (palingref19_agrees_L2 a1 a2 v6 x24) 0).bind fun r44 => match r44 with
       | Sum.inl () =>
        some (Sum.inr (Sum.inl ()))
       | Sum.inr () =>
        some (Sum.inl (wr_i64 (v6 + 1)))
 else
  some (Sum.inr (Sum.inr ()))

def palingref19_agrees (a1 : Api_Net) (a2 : Api_Flood) : Option (Bool) :=
 (palingref19_Find a1 a2.dev a2.vni).bind fun r3 =>
 if (decide (r3 < 0)) = true then
  some false
 else
  (loopM (palingref19_agrees_L1 a1 a2) 0).bind fun r46 => match r46 with
  | Sum.inl () =>
   some false
  | Sum.inr () =>
   some true

def palingref15_Copy_L1 (a1 : Api_Net) (l10 : List Api_Port) (v11 : Int) : Option (((List Api_Port) × Int) ⊕ ((List Api_Port))) :=
 if (decide (v11 < ((List.length a1.ports) : Int))) = true then
  if (lin l10 v11) = true then
   (l10[(Int.toNat v11)]?).bind fun x14 =>
   if (roomy 8 x14.tagged) = true then
    (l10[(Int.toNat v11)]?).bind fun x17 =>
    some (Sum.inl (List.set l10 (Int.toNat v11) (⟨x17.row, x17.dev, x17.native, x17.cost, x17.link, x17.name, x14.tagged⟩ : Api_Port), wr_i64 (v11 + 1)))
   else
    none
  else
   none
 else
  some (Sum.inr l10)

def palingref15_Copy_L2 (a1 : Api_Net) (l21 : List Api_Port) (l24 : List Api_Domain) (v25 : Int) : Option (((List Api_Domain) × Int) ⊕ ((List Api_Domain))) :=
 if (decide (v25 < ((List.length a1.domains) : Int))) = true then
  if (lin l24 v25) = true then
   (l24[(Int.toNat v25)]?).bind fun x28 =>
   if (roomy 8 x28.peers) = true then
    (l24[(Int.toNat v25)]?).bind fun x31 =>
    some (Sum.inl (List.set l24 (Int.toNat v25) (⟨x31.dev, x31.vlan, x31.vni, x31.irb, x31.row, x28.peers⟩ : Api_Domain), wr_i64 (v25 + 1)))
   else
    none
  else
   none
 else
  some (Sum.inr l24)

def palingref15_Copy_L3 (a1 : Api_Net) (l21 : List Api_Port) (l35 : List Api_Domain) (l38 : List Api_Flood) (v39 : Int) : Option (((List Api_Flood) × Int) ⊕ ((List Api_Flood))) :=
 if (decide (v39 < ((List.length a1.floods) : Int))) = true then
  if (lin l38 v39) = true then
   (l38[(Int.toNat v39)]?).bind fun x42 =>
   if (roomy 4 x42.addrs) = true then
    (l38[(Int.toNat v39)]?).bind fun x45 =>
    some (Sum.inl (List.set l38 (Int.toNat v39) (⟨x45.row, x45.dev, x45.vni, x42.addrs⟩ : Api_Flood), wr_i64 (v39 + 1)))
   else
    none
  else
   none
 else
  some (Sum.inr l38)

def palingref15_Copy_L4 (a1 : Api_Net) (l21 : List Api_Port) (l35 : List Api_Domain) (l49 : List Api_Flood) (l52 : List Api_Vrf) (v53 : Int) : Option (((List Api_Vrf) × Int) ⊕ ((List Api_Vrf))) :=
 if (decide (v53 < ((List.length a1.vrfs) : Int))) = true then
  if (lin l52 v53) = true then
   (l52[(Int.toNat v53)]?).bind fun x56 =>
   if (roomy 8 x56.imports) = true then
    (l52[(Int.toNat v53)]?).bind fun x59 =>
    if (lin (List.set l52 (Int.toNat v53) (⟨x59.row, x59.dev, x59.name, x56.imports, x59.exports⟩ : Api_Vrf)) v53) = true then
     ((List.set l52 (Int.toNat v53) (⟨x59.row, x59.dev, x59.name, x56.imports, x59.exports⟩ : Api_Vrf))[(Int.toNat v53)]?).bind fun x62 =>
     if (roomy 8 x62.exports) = true then
      ((List.set l52 (Int.toNat v53) (⟨x59.row, x59.dev, x59.name, x56.imports, x59.exports⟩ : Api_Vrf))[(Int.toNat v53)]?).bind fun x65 =>
      some (Sum.inl (List.set (List.set l52 (Int.toNat v53) (⟨x59.row, x59.dev, x59.name, x56.imports, x59.exports⟩ : Api_Vrf)) (Int.toNat v53) (⟨x65.row, x65.dev, x65.name, x65.imports, x62.exports⟩ : Api_Vrf), wr_i64 (v53 + 1)))
     else
      none
    else
     none
   else
    none
  else
   none
 else
  some (Sum.inr l52)

def palingref15_Copy (a1 : Api_Net) : Option (((List Api_Port) × (List Api_Domain) × (List Api_Flood) × (List Api_Vrf))) :=
 if (roomy 48 a1.devices) = true then
  if (roomy 80 a1.ports) = true then
   if (roomy 24 a1.links) = true then
    if (roomy 64 a1.domains) = true then
     if (roomy 32 a1.statics) = true then
      if (roomy 48 a1.floods) = true then
       if (roomy 80 a1.vrfs) = true then
        if (roomy 40 a1.irbs) = true then
         (loopM (fun s : (List Api_Port) × Int => match s with | (l10, v11) => palingref15_Copy_L1 a1 l10 v11) (a1.ports, 0)).bind fun r23 => match r23 with
         | l21 =>
          (loopM (fun s : (List Api_Domain) × Int => match s with | (l24, v25) => palingref15_Copy_L2 a1 l21 l24 v25) (a1.domains, 0)).bind fun r37 => match r37 with
          | l35 =>
           (loopM (fun s : (List Api_Flood) × Int => match s with | (l38, v39) => palingref15_Copy_L3 a1 l21 l35 l38 v39) (a1.floods, 0)).bind fun r51 => match r51 with
           | l49 =>
            (loopM (fun s : (List Api_Vrf) × Int => match s with | (l52, v53) => palingref15_Copy_L4 a1 l21 l35 l49 l52 v53) (a1.vrfs, 0)).bind fun r71 => match r71 with
            | l69 =>
             some (l21, l35, l49, l69)
        else
         none
       else
        none
      else
       none
     else
      none
    else
     none
   else
    none
  else
   none
 else
  none

def palingref19_Mesh_L1 (a1 : Api_Net) (v5 : Int) : Option ((Int) ⊕ (Int ⊕ Unit)) :=
 if (decide (v5 < (a1.floods.length : Int))) = true then
  (nth a1.floods v5).bind fun x7 =>
  (palingref19_agrees a1 x7).bind fun r9 =>
  if (!r9) = true then
   (nth a1.floods v5).bind fun x12 =>
   some (Sum.inr (Sum.inl x12.row))
  else
   some (Sum.inl (wr_i64 (v5 + 1)))
 else
  some (Sum.inr (Sum.inr ()))

def palingref19_Mesh_L3 (a1 : Api_Net) (l20 : List Api_Port) (l22 : List Api_Flood) (l23 : List Api_Vrf) (l24 : List Api_Domain) (v25 : Int) (x28 : Api_Domain) (x30 : Api_Domain) (r32 : Int) (l36 : List Int) (v37 : Int) : Option (((List Int) × Int) ⊕ ((List Int))) :=
 (nth a1.floods r32).bind fun x38 =>
 if (decide (v37 < (x38.addrs.length : Int))) = true then
  if (lin l24 v25) = true then
   (nth a1.floods r32).bind fun x42 =>
   (nth x42.addrs v37).bind fun x44 =>
   (palingref19_Owner a1 x44).bind fun r46 =>
   (palingref19_Find a1 r46 x28.vni).bind fun r48 =>
   if (roomy 8 (l36 ++ [r48])) = true then
    some (Sum.inl (l36 ++ [r48], wr_i64 (v37 + 1)))
   else
    none
  else
   none
 else
  some (Sum.inr l36)

def palingref19_Mesh_L2 (a1 : Api_Net) (l20 : List Api_Port) (l22 : List Api_Flood) (l23 : List Api_Vrf) (l24 : List Api_Domain) (v25 : Int) : Option (((List Api_Domain) × Int) ⊕ ((List Api_Domain))) :=
 if (decide (v25 < ((List.length a1.domains) : Int))) = true then
  if (lin l24 v25) = true then
   (l24[(Int.toNat v25)]?).bind fun x28 =>
   (l24[(Int.toNat v25)]?).bind fun x30 =>
   (palingref19_list a1 x28.dev x28.vni).bind fun r32 =>
   if (x28.vni == 0) = true then
    some (Sum.inl (List.set l24 (Int.toNat v25) (⟨x30.dev, x30.vlan, x30.vni, x30.irb, x30.row, []⟩ : Api_Domain), wr_i64 (v25 + 1)))
   else
    if (decide (r32 < 0)) = true then
     some (Sum.inl (List.set l24 (Int.toNat v25) (⟨x30.dev, x30.vlan, x30.vni, x30.irb, x30.row, []⟩ : Api_Domain), wr_i64 (v25 + 1)))
    else
     (loopM (fun s : (List Int) × Int => match s with | (l36, v37) => palingref19_Mesh_L3 a1 l20 l22 l23 l24 v25 x28 x30 r32 l36 v37) ([], 0)).bind fun r59 => match r59 with
     | l57 =>
      some (Sum.inl (List.set l24 (Int.toNat v25) (⟨x30.dev, x30.vlan, x30.vni, x30.irb, x30.row, l57⟩ : Api_Domain), wr_i64 (v25 + 1)))
  else
   none
 else
  some (Sum.inr l24)

def palingref19_Mesh (a1 : Api_Net) : Option (((List Api_Device) × (List Api_Port) × (List Api_Link) × (List Api_Domain) × (List Api_Static) × (List Api_Flood) × (List Api_Vrf) × (List Api_Irb) × Nat × Nat × Nat × Nat × Int × Int)) :=
 (palingref15_Right a1).bind fun r2 =>
 if (!r2) = true then
  some ([], [], [], [], [], [], [], [], 0, 0, 0, 0, 0, 2)
 else
  (loopM (palingref19_Mesh_L1 a1) 0).bind fun r17 => match r17 with
  | Sum.inl v15 =>
   some ([], [], [], [], [], [], [], [], 0, 0, 0, 0, v15, 36)
  | Sum.inr () =>
   (palingref15_Copy a1).bind fun r18 => match r18 with
   | (l20, l21, l22, l23) =>
    (loopM (fun s : (List Api_Domain) × Int => match s with | (l24, v25) => palingref19_Mesh_L2 a1 l20 l22 l23 l24 v25) (l21, 0)).bind fun r66 => match r66 with
    | l64 =>
     (palingref15_Right (⟨a1.devices, l20, a1.links, l64, a1.statics, l22, l23, a1.irbs⟩ : Api_Net)).bind fun r67 =>
     if (!r67) = true then
      some ([], [], [], [], [], [], [], [], 0, 0, 0, 0, 0, 36)
     else
      some (a1.devices, l20, a1.links, l64, a1.statics, l22, l23, a1.irbs, (List.length a1.ports), (List.length a1.domains), (List.length a1.floods), (List.length a1.vrfs), 0, 0)

def palingref15_tops_L1 (a1 : Api_Net) (a2 : Api_Net) (v7 : Int) : Option ((Int) ⊕ (Unit ⊕ Unit)) :=
 if (decide (v7 < (a1.devices.length : Int))) = true then
  (nth a1.devices v7).bind fun x9 =>
  (nth a2.devices v7).bind fun x11 =>
  if (!(eq_Api_Device x9 x11)) = true then
   some (Sum.inr (Sum.inl ()))
  else
   some (Sum.inl (wr_i64 (v7 + 1)))
 else
  some (Sum.inr (Sum.inr ()))

def palingref15_tops_L2 (a1 : Api_Net) (a2 : Api_Net) (v16 : Int) : Option ((Int) ⊕ (Unit ⊕ Unit)) :=
 if (decide (v16 < (a1.links.length : Int))) = true then
  (nth a1.links v16).bind fun x18 =>
  (nth a2.links v16).bind fun x20 =>
  if (!(eq_Api_Link x18 x20)) = true then
   some (Sum.inr (Sum.inl ()))
  else
   some (Sum.inl (wr_i64 (v16 + 1)))
 else
  some (Sum.inr (Sum.inr ()))

def palingref15_tops_L3 (a1 : Api_Net) (a2 : Api_Net) (v25 : Int) : Option ((Int) ⊕ (Unit ⊕ Unit)) :=
 if (decide (v25 < (a1.statics.length : Int))) = true then
  (nth a1.statics v25).bind fun x27 =>
  (nth a2.statics v25).bind fun x29 =>
  if (!(eq_Api_Static x27 x29)) = true then
   some (Sum.inr (Sum.inl ()))
  else
   some (Sum.inl (wr_i64 (v25 + 1)))
 else
  some (Sum.inr (Sum.inr ()))

def palingref15_tops_L4 (a1 : Api_Net) (a2 : Api_Net) (v34 : Int) : Option ((Int) ⊕ (Unit ⊕ Unit)) :=
 if (decide (v34 < (a1.irbs.length : Int))) = true then
  (nth a1.irbs v34).bind fun x36 =>
  (nth a2.irbs v34).bind fun x38 =>
  if (!(eq_Api_Irb x36 x38)) = true then
   some (Sum.inr (Sum.inl ()))
  else
   some (Sum.inl (wr_i64 (v34 + 1)))
 else
  some (Sum.inr (Sum.inr ()))

def palingref15_tops (a1 : Api_Net) (a2 : Api_Net) : Option (Bool) :=
 if ((a1.devices.length : Int) != (a2.devices.length : Int)) = true then
  some false
 else
  if ((a1.links.length : Int) != (a2.links.length : Int)) = true then
   some false
  else
   if ((a1.statics.length : Int) != (a2.statics.length : Int)) = true then
    some false
   else
    if ((a1.irbs.length : Int) != (a2.irbs.length : Int)) = true then
     some false
    else
     (loopM (palingref15_tops_L1 a1 a2) 0).bind fun r15 => match r15 with
     | Sum.inl () =>
      some false
     | Sum.inr () =>
      (loopM (palingref15_tops_L2 a1 a2) 0).bind fun r24 => match r24 with
      | Sum.inl () =>
       some false
      | Sum.inr () =>
       (loopM (palingref15_tops_L3 a1 a2) 0).bind fun r33 => match r33 with
       | Sum.inl () =>
        some false
       | Sum.inr () =>
        (loopM (palingref15_tops_L4 a1 a2) 0).bind fun r42 => match r42 with
        | Sum.inl () =>
         some false
        | Sum.inr () =>
         some true

def palingref03_Ints_L1 (a1 : List Int) (a2 : List Int) (v4 : Int) : Option ((Int) ⊕ (Unit ⊕ Unit)) :=
 if (decide (v4 < (a1.length : Int))) = true then
  (nth a1 v4).bind fun x6 =>
  (nth a2 v4).bind fun x8 =>
  if (x6 != x8) = true then
   some (Sum.inr (Sum.inl ()))
  else
   some (Sum.inl (wr_i64 (v4 + 1)))
 else
  some (Sum.inr (Sum.inr ()))

def palingref03_Ints (a1 : List Int) (a2 : List Int) : Option (Bool) :=
 if ((a1.length : Int) != (a2.length : Int)) = true then
  some false
 else
  (loopM (palingref03_Ints_L1 a1 a2) 0).bind fun r12 => match r12 with
  | Sum.inl () =>
   some false
  | Sum.inr () =>
   some true

def palingref03_Addrs_L1 (a1 : List Int) (a2 : List Int) (v4 : Int) : Option ((Int) ⊕ (Unit ⊕ Unit)) :=
 if (decide (v4 < (a1.length : Int))) = true then
  (nth a1 v4).bind fun x6 =>
  (nth a2 v4).bind fun x8 =>
  if (x6 != x8) = true then
   some (Sum.inr (Sum.inl ()))
  else
   some (Sum.inl (wr_i64 (v4 + 1)))
 else
  some (Sum.inr (Sum.inr ()))

def palingref03_Addrs (a1 : List Int) (a2 : List Int) : Option (Bool) :=
 if ((a1.length : Int) != (a2.length : Int)) = true then
  some false
 else
  (loopM (palingref03_Addrs_L1 a1 a2) 0).bind fun r12 => match r12 with
  | Sum.inl () =>
   some false
  | Sum.inr () =>
   some true

def palingref15_Same_L1 (a1 : Api_Net) (a2 : Api_Net) (v10 : Int) : Option ((Int) ⊕ (Unit ⊕ Unit)) :=
 if (decide (v10 < (a1.ports.length : Int))) = true then
  (nth a1.ports v10).bind fun x12 =>
  (nth a2.ports v10).bind fun x14 =>
  if (x12.row != x14.row) = true then
   some (Sum.inr (Sum.inl ()))
  else
   if (x12.dev != x14.dev) = true then
    some (Sum.inr (Sum.inl ()))
   else
    if (x12.native != x14.native) = true then
     some (Sum.inr (Sum.inl ()))
    else
     if (x12.cost != x14.cost) = true then
      some (Sum.inr (Sum.inl ()))
     else
      if (x12.link != x14.link) = true then
       some (Sum.inr (Sum.inl ()))
      else
       if (!(seqB x12.name x14.name)) = true then
        some (Sum.inr (Sum.inl ()))
       else
        (palingref03_Ints x12.tagged x14.tagged).bind fun r22 =>
        if (!r22) = true then
         some (Sum.inr (Sum.inl ()))
        else
         some (Sum.inl (wr_i64 (v10 + 1)))
 else
  some (Sum.inr (Sum.inr ()))

def palingref15_Same_L2 (a1 : Api_Net) (a2 : Api_Net) (v27 : Int) : Option ((Int) ⊕ (Unit ⊕ Unit)) :=
 if (decide (v27 < (a1.domains.length : Int))) = true then
  (nth a1.domains v27).bind fun x29 =>
  (nth a2.domains v27).bind fun x31 =>
  if (x29.dev != x31.dev) = true then
   some (Sum.inr (Sum.inl ()))
  else
   if (x29.vlan != x31.vlan) = true then
    some (Sum.inr (Sum.inl ()))
   else
    if (x29.vni != x31.vni) = true then
     some (Sum.inr (Sum.inl ()))
    else
     if (x29.irb != x31.irb) = true then
      some (Sum.inr (Sum.inl ()))
     else
      if (x29.row != x31.row) = true then
       some (Sum.inr (Sum.inl ()))
      else
       (palingref03_Ints x29.peers x31.peers).bind fun r38 =>
       if (!r38) = true then
        some (Sum.inr (Sum.inl ()))
       else
        some (Sum.inl (wr_i64 (v27 + 1)))
 else
  some (Sum.inr (Sum.inr ()))

def palingref15_Same_L3 (a1 : Api_Net) (a2 : Api_Net) (v43 : Int) : Option ((Int) ⊕ (Unit ⊕ Unit)) :=
 if (decide (v43 < (a1.floods.length : Int))) = true then
  (nth a1.floods v43).bind fun x45 =>
  (nth a2.floods v43).bind fun x47 =>
  if (x45.row != x47.row) = true then
   some (Sum.inr (Sum.inl ()))
  else
   if (x45.dev != x47.dev) = true then
    some (Sum.inr (Sum.inl ()))
   else
    if (x45.vni != x47.vni) = true then
     some (Sum.inr (Sum.inl ()))
    else
     (palingref03_Addrs x45.addrs x47.addrs).bind fun r52 =>
     if (!r52) = true then
      some (Sum.inr (Sum.inl ()))
     else
      some (Sum.inl (wr_i64 (v43 + 1)))
 else
  some (Sum.inr (Sum.inr ()))

def palingref15_Same_L4 (a1 : Api_Net) (a2 : Api_Net) (v57 : Int) : Option ((Int) ⊕ (Unit ⊕ Unit)) :=
 if (decide (v57 < (a1.vrfs.length : Int))) = true then
  (nth a1.vrfs v57).bind fun x59 =>
  (nth a2.vrfs v57).bind fun x61 =>
  if (x59.row != x61.row) = true then
   some (Sum.inr (Sum.inl ()))
  else
   if (x59.dev != x61.dev) = true then
    some (Sum.inr (Sum.inl ()))
   else
    if (!(seqB x59.name x61.name)) = true then
     some (Sum.inr (Sum.inl ()))
    else
     (palingref03_Ints x59.imports x61.imports).bind fun r66 =>
     if (!r66) = true then
      some (Sum.inr (Sum.inl ()))
     else
      (palingref03_Ints x59.exports x61.exports).bind fun r69 =>
      if (!r69) = true then
       some (Sum.inr (Sum.inl ()))
      else
       some (Sum.inl (wr_i64 (v57 + 1)))
 else
  some (Sum.inr (Sum.inr ()))

def palingref15_Same (a1 : Api_Net) (a2 : Api_Net) : Option (Bool) :=
 (palingref15_tops a1 a2).bind fun r3 =>
 if (!r3) = true then
  some false
 else
  if ((a1.ports.length : Int) != (a2.ports.length : Int)) = true then
   some false
  else
   if ((a1.domains.length : Int) != (a2.domains.length : Int)) = true then
    some false
   else
    if ((a1.floods.length : Int) != (a2.floods.length : Int)) = true then
     some false
    else
     if ((a1.vrfs.length : Int) != (a2.vrfs.length : Int)) = true then
      some false
     else
      (loopM (palingref15_Same_L1 a1 a2) 0).bind fun r26 => match r26 with
      | Sum.inl () =>
       some false
      | Sum.inr () =>
       (loopM (palingref15_Same_L2 a1 a2) 0).bind fun r42 => match r42 with
       | Sum.inl () =>
        some false
       | Sum.inr () =>
        (loopM (palingref15_Same_L3 a1 a2) 0).bind fun r56 => match r56 with
        | Sum.inl () =>
         some false
        | Sum.inr () =>
         (loopM (palingref15_Same_L4 a1 a2) 0).bind fun r73 => match r73 with
         | Sum.inl () =>
          some false
         | Sum.inr () =>
          some true

def overlay_Find (a1 : Api_Net) (a2 : Int) (a3 : Int) : Option (Int) :=
 (names_Right a1).bind fun r4 =>
 if (!r4) = true then
  some (-1)
 else
  (overlay_find a1 a2 a3).bind fun r7 =>
  some r7

def palinglaw19_OverlayMeshes_J1 (a1 : Api_Net) (a2 : Int) (a3 : Int) (l11 : List Api_Device) (l12 : List Api_Port) (l13 : List Api_Link) (l14 : List Api_Domain) (l15 : List Api_Static) (l16 : List Api_Flood) (l17 : List Api_Vrf) (l18 : List Api_Irb) (n19 : Nat) (n20 : Nat) (n21 : Nat) (n22 : Nat) (v23 : Int) (v24 : Int) (l27 : List Api_Device) (l28 : List Api_Port) (l29 : List Api_Link) (l30 : List Api_Domain) (l31 : List Api_Static) (l32 : List Api_Flood) (l33 : List Api_Vrf) (l34 : List Api_Irb) (n35 : Nat) (n36 : Nat) (n37 : Nat) (n38 : Nat) (v39 : Int) (v40 : Int) : Option (Int) :=
 (palingref15_Right a1).bind fun r41 =>
 if (r41) = true then
  (palingref19_Find a1 a2 a3).bind fun r44 =>
  some r44
 else
  some (-1)

def palinglaw19_OverlayMeshes (a1 : Api_Net) (a2 : Int) (a3 : Int) : Option (Bool) :=
 (palinglaw15_Great a1).bind fun r4 =>
 if (r4) = true then
  (palinglaw19_works).bind fun r7 =>
  some r7
 else
  (overlay_Mesh a1).bind fun r9 => match r9 with
  | (l11, l12, l13, l14, l15, l16, l17, l18, n19, n20, n21, n22, v23, v24) =>
   (palingref19_Mesh a1).bind fun r25 => match r25 with
   | (l27, l28, l29, l30, l31, l32, l33, l34, n35, n36, n37, n38, v39, v40) =>
    (palinglaw19_OverlayMeshes_J1 a1 a2 a3 l11 l12 l13 l14 l15 l16 l17 l18 n19 n20 n21 n22 v23 v24 l27 l28 l29 l30 l31 l32 l33 l34 n35 n36 n37 n38 v39 v40).bind fun r49 => match r49 with
    | v47 =>
     (palingref15_Same (⟨l11, l12, l13, l14, l15, l16, l17, l18⟩ : Api_Net) (⟨l27, l28, l29, l30, l31, l32, l33, l34⟩ : Api_Net)).bind fun r50 =>
     if (r50) = true then
      if (v23 == v39) = true then
       if (v24 == v40) = true then
        (overlay_Find a1 a2 a3).bind fun r55 =>
        if (r55 == v47) = true then
         (palinglaw19_works).bind fun r58 =>
         some r58
        else
         some false
       else
        some false
      else
       some false
     else
      some false

end Go.Eng
