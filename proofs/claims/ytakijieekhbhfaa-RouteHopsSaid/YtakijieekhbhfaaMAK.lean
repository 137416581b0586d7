/- Part of the proof of RouteHops: printed mirrors of the functions, or their contracts. No conditions. -/
import Derived.Test.YtakijieekhbhfaaMAM
import Derived.Test.YtakijieekhbhfaaProg
set_option linter.unusedVariables false
set_option maxRecDepth 100000
namespace Go.Eng
open Go Go.Proofs
def DD : Den := fun t => match t with
  | 3 => Int
  | 5 => Int
  | 34 => Int
  | 37 => Api_Frame
  | 61 => Api_Net
  | 66 => Api_Prefix
  | 68 => Api_Irb
  | 71 => Api_Vrf
  | 78 => Api_Packet
  | 85 => Api_Domain
  | 96 => Api_Port
  | 112 => Vxlan_outer
  | 114 => Vxlan_reader
  | 128 => Api_Flood
  | 138 => Api_Device
  | 141 => Leave_whole
  | 153 => Api_Link
  | 157 => Names_judge
  | 166 => Api_Static
  | _ => Unit

def c3 (x : Int) : List (AV DD) := [.v (.int .i64 x)]

def c5 (x : Int) : List (AV DD) := [.v (.int .u8 x)]

def c34 (x : Int) : List (AV DD) := [.v (.int .u32 x)]

def c37 (x : Api_Frame) : List (AV DD) := [.v (.int .u64 x.dst), .v (.int .u64 x.src), .v (.int .i64 x.type_), .sl 5 x.body]

def c61 (x : Api_Net) : List (AV DD) := [.sl 138 x.devices, .sl 96 x.ports, .sl 153 x.links, .sl 85 x.domains, .sl 166 x.statics, .sl 128 x.floods, .sl 71 x.vrfs, .sl 68 x.irbs]

def c66 (x : Api_Prefix) : List (AV DD) := [.v (.int .u32 x.addr), .v (.int .i64 x.bits)]

def c68 (x : Api_Irb) : List (AV DD) := [.v (.int .i64 x.row), .v (.int .i64 x.domain), .v (.int .i64 x.vrf), .v (.int .u32 x.net.addr), .v (.int .i64 x.net.bits)]

def c71 (x : Api_Vrf) : List (AV DD) := [.v (.int .i64 x.row), .v (.int .i64 x.dev), .v (.string x.name), .sl 3 x.imports, .sl 3 x.exports]

def c78 (x : Api_Packet) : List (AV DD) := [.v (.int .i64 x.tos), .v (.int .i64 x.id), .v (.int .i64 x.ttl), .v (.int .i64 x.proto), .v (.int .u32 x.src), .v (.int .u32 x.dst), .sl 5 x.body]

def c85 (x : Api_Domain) : List (AV DD) := [.v (.int .i64 x.dev), .v (.int .i64 x.vlan), .v (.int .i64 x.vni), .v (.int .i64 x.irb), .v (.int .i64 x.row), .sl 3 x.peers]

def c96 (x : Api_Port) : List (AV DD) := [.v (.int .i64 x.row), .v (.int .i64 x.dev), .v (.int .i64 x.native), .v (.int .i64 x.cost), .v (.int .i64 x.link), .v (.string x.name), .sl 3 x.tagged]

def c112 (x : Vxlan_outer) : List (AV DD) := [.v (.int .i64 x.packet.tos), .v (.int .i64 x.packet.id), .v (.int .i64 x.packet.ttl), .v (.int .i64 x.packet.proto), .v (.int .u32 x.packet.src), .v (.int .u32 x.packet.dst), .sl 5 x.packet.body, .v (.int .i64 x.vni)]

def c114 (x : Vxlan_reader) : List (AV DD) := [.v (.int .i64 x.outer.packet.tos), .v (.int .i64 x.outer.packet.id), .v (.int .i64 x.outer.packet.ttl), .v (.int .i64 x.outer.packet.proto), .v (.int .u32 x.outer.packet.src), .v (.int .u32 x.outer.packet.dst), .sl 5 x.outer.packet.body, .v (.int .i64 x.outer.vni), .v (.int .i64 x.e)]

def c128 (x : Api_Flood) : List (AV DD) := [.v (.int .i64 x.row), .v (.int .i64 x.dev), .v (.int .i64 x.vni), .sl 34 x.addrs]

def c138 (x : Api_Device) : List (AV DD) := [.v (.int .i64 x.row), .v (.int .i64 x.priority), .v (.string x.name), .v (.int .u64 x.mac), .v (.int .u32 x.vtep)]

def c141 (x : Leave_whole) : List (AV DD) := [.sl 138 x.net.devices, .sl 96 x.net.ports, .sl 153 x.net.links, .sl 85 x.net.domains, .sl 166 x.net.statics, .sl 128 x.net.floods, .sl 71 x.net.vrfs, .sl 68 x.net.irbs]

def c153 (x : Api_Link) : List (AV DD) := [.v (.int .i64 x.row), .v (.int .i64 x.a), .v (.int .i64 x.b)]

def c157 (x : Names_judge) : List (AV DD) := [.sl 138 x.n.devices, .sl 96 x.n.ports, .sl 153 x.n.links, .sl 85 x.n.domains, .sl 166 x.n.statics, .sl 128 x.n.floods, .sl 71 x.n.vrfs, .sl 68 x.n.irbs]

def c166 (x : Api_Static) : List (AV DD) := [.v (.int .i64 x.row), .v (.int .i64 x.domain), .v (.int .i64 x.port), .v (.int .u64 x.mac)]

def cellsD : (t : Nat) → DD t → List (AV DD) := fun t => match t with
  | 3 => fun x => c3 x
  | 5 => fun x => c5 x
  | 34 => fun x => c34 x
  | 37 => fun x => c37 x
  | 61 => fun x => c61 x
  | 66 => fun x => c66 x
  | 68 => fun x => c68 x
  | 71 => fun x => c71 x
  | 78 => fun x => c78 x
  | 85 => fun x => c85 x
  | 96 => fun x => c96 x
  | 112 => fun x => c112 x
  | 114 => fun x => c114 x
  | 128 => fun x => c128 x
  | 138 => fun x => c138 x
  | 141 => fun x => c141 x
  | 153 => fun x => c153 x
  | 157 => fun x => c157 x
  | 166 => fun x => c166 x
  | _ => fun _ => [.v (.bool true)]

def widthD : Nat → Nat := fun t => match t with
  | 3 => 1
  | 5 => 1
  | 34 => 1
  | 37 => 4
  | 61 => 8
  | 66 => 2
  | 68 => 5
  | 71 => 5
  | 78 => 7
  | 85 => 6
  | 96 => 7
  | 112 => 8
  | 114 => 9
  | 128 => 4
  | 138 => 5
  | 141 => 8
  | 153 => 3
  | 157 => 8
  | 166 => 4
  | _ => 1

theorem cellsD_else {t : Nat} (x : DD t) (h : t ≠ 3 ∧ t ≠ 5 ∧ t ≠ 34 ∧ t ≠ 37 ∧ t ≠ 61 ∧ t ≠ 66 ∧ t ≠ 68 ∧ t ≠ 71 ∧ t ≠ 78 ∧ t ≠ 85 ∧ t ≠ 96 ∧ t ≠ 112 ∧ t ≠ 114 ∧ t ≠ 128 ∧ t ≠ 138 ∧ t ≠ 141 ∧ t ≠ 153 ∧ t ≠ 157 ∧ t ≠ 166) : cellsD t x = [.v (.bool true)] ∧ widthD t = 1 := by
  obtain ⟨h3, h5, h34, h37, h61, h66, h68, h71, h78, h85, h96, h112, h114, h128, h138, h141, h153, h157, h166⟩ := h
  unfold cellsD widthD
  constructor
  · split <;> first | (exfalso; omega) | rfl
  · split <;> first | (exfalso; omega) | rfl

def UU : Univ DD where
  width := widthD
  cells := cellsD
  len t x := by
    by_cases h3 : t = 3
    · subst h3; rfl
    by_cases h5 : t = 5
    · subst h5; rfl
    by_cases h34 : t = 34
    · subst h34; rfl
    by_cases h37 : t = 37
    · subst h37; rfl
    by_cases h61 : t = 61
    · subst h61; rfl
    by_cases h66 : t = 66
    · subst h66; rfl
    by_cases h68 : t = 68
    · subst h68; rfl
    by_cases h71 : t = 71
    · subst h71; rfl
    by_cases h78 : t = 78
    · subst h78; rfl
    by_cases h85 : t = 85
    · subst h85; rfl
    by_cases h96 : t = 96
    · subst h96; rfl
    by_cases h112 : t = 112
    · subst h112; rfl
    by_cases h114 : t = 114
    · subst h114; rfl
    by_cases h128 : t = 128
    · subst h128; rfl
    by_cases h138 : t = 138
    · subst h138; rfl
    by_cases h141 : t = 141
    · subst h141; rfl
    by_cases h153 : t = 153
    · subst h153; rfl
    by_cases h157 : t = 157
    · subst h157; rfl
    by_cases h166 : t = 166
    · subst h166; rfl
    rw [(cellsD_else x ⟨h3, h5, h34, h37, h61, h66, h68, h71, h78, h85, h96, h112, h114, h128, h138, h141, h153, h157, h166⟩).1, (cellsD_else x ⟨h3, h5, h34, h37, h61, h66, h68, h71, h78, h85, h96, h112, h114, h128, h138, h141, h153, h157, h166⟩).2]; rfl
  pos t := by
    by_cases h3 : t = 3
    · subst h3; exact Nat.le_of_ble_eq_true rfl
    by_cases h5 : t = 5
    · subst h5; exact Nat.le_of_ble_eq_true rfl
    by_cases h34 : t = 34
    · subst h34; exact Nat.le_of_ble_eq_true rfl
    by_cases h37 : t = 37
    · subst h37; exact Nat.le_of_ble_eq_true rfl
    by_cases h61 : t = 61
    · subst h61; exact Nat.le_of_ble_eq_true rfl
    by_cases h66 : t = 66
    · subst h66; exact Nat.le_of_ble_eq_true rfl
    by_cases h68 : t = 68
    · subst h68; exact Nat.le_of_ble_eq_true rfl
    by_cases h71 : t = 71
    · subst h71; exact Nat.le_of_ble_eq_true rfl
    by_cases h78 : t = 78
    · subst h78; exact Nat.le_of_ble_eq_true rfl
    by_cases h85 : t = 85
    · subst h85; exact Nat.le_of_ble_eq_true rfl
    by_cases h96 : t = 96
    · subst h96; exact Nat.le_of_ble_eq_true rfl
    by_cases h112 : t = 112
    · subst h112; exact Nat.le_of_ble_eq_true rfl
    by_cases h114 : t = 114
    · subst h114; exact Nat.le_of_ble_eq_true rfl
    by_cases h128 : t = 128
    · subst h128; exact Nat.le_of_ble_eq_true rfl
    by_cases h138 : t = 138
    · subst h138; exact Nat.le_of_ble_eq_true rfl
    by_cases h141 : t = 141
    · subst h141; exact Nat.le_of_ble_eq_true rfl
    by_cases h153 : t = 153
    · subst h153; exact Nat.le_of_ble_eq_true rfl
    by_cases h157 : t = 157
    · subst h157; exact Nat.le_of_ble_eq_true rfl
    by_cases h166 : t = 166
    · subst h166; exact Nat.le_of_ble_eq_true rfl
    unfold widthD; split <;> omega
  ok t x := by
    by_cases h3 : t = 3
    · subst h3; rfl
    by_cases h5 : t = 5
    · subst h5; rfl
    by_cases h34 : t = 34
    · subst h34; rfl
    by_cases h37 : t = 37
    · subst h37; rfl
    by_cases h61 : t = 61
    · subst h61; rfl
    by_cases h66 : t = 66
    · subst h66; rfl
    by_cases h68 : t = 68
    · subst h68; rfl
    by_cases h71 : t = 71
    · subst h71; rfl
    by_cases h78 : t = 78
    · subst h78; rfl
    by_cases h85 : t = 85
    · subst h85; rfl
    by_cases h96 : t = 96
    · subst h96; rfl
    by_cases h112 : t = 112
    · subst h112; rfl
    by_cases h114 : t = 114
    · subst h114; rfl
    by_cases h128 : t = 128
    · subst h128; rfl
    by_cases h138 : t = 138
    · subst h138; rfl
    by_cases h141 : t = 141
    · subst h141; rfl
    by_cases h153 : t = 153
    · subst h153; rfl
    by_cases h157 : t = 157
    · subst h157; rfl
    by_cases h166 : t = 166
    · subst h166; rfl
    rw [(cellsD_else x ⟨h3, h5, h34, h37, h61, h66, h68, h71, h78, h85, h96, h112, h114, h128, h138, h141, h153, h157, h166⟩).1]; rfl

theorem im_all {t : Nat} (h : ∀ x : DD t, (UU.cells t x).all immC = true) (l : List (DD t)) : (flatL UU t l).all immC = true := by
  induction l with
  | nil => rfl
  | cons x l ih => simp only [flatL, List.flatMap_cons, List.all_append, Bool.and_eq_true]; exact ⟨h x, ih⟩

theorem im3 (l : List (DD 3)) : (flatL UU 3 l).all immC = true := im_all (fun _ => rfl) l

theorem im5 (l : List (DD 5)) : (flatL UU 5 l).all immC = true := im_all (fun _ => rfl) l

theorem im34 (l : List (DD 34)) : (flatL UU 34 l).all immC = true := im_all (fun _ => rfl) l

theorem im66 (l : List (DD 66)) : (flatL UU 66 l).all immC = true := im_all (fun _ => rfl) l

theorem im68 (l : List (DD 68)) : (flatL UU 68 l).all immC = true := im_all (fun _ => rfl) l

theorem im138 (l : List (DD 138)) : (flatL UU 138 l).all immC = true := im_all (fun _ => rfl) l

theorem im153 (l : List (DD 153)) : (flatL UU 153 l).all immC = true := im_all (fun _ => rfl) l

theorem im166 (l : List (DD 166)) : (flatL UU 166 l).all immC = true := im_all (fun _ => rfl) l

theorem ob3 {l : List (Int)} {i : Int} {v : Int} (h : nth l i = some v) : 0 ≤ i ∧ ∃ x : DD 3, (show List (DD 3) from l)[i.toNat]? = some x ∧ UU.cells 3 x = c3 v := ⟨(nth_out h).1, v, (nth_out h).2, rfl⟩
theorem obn3 {l : List (Int)} {i : Nat} {v : Int} (h : l[i]? = some v) : ∃ x : DD 3, (show List (DD 3) from l)[i]? = some x ∧ UU.cells 3 x = c3 v := ⟨v, h, rfl⟩

theorem ob5 {l : List (Int)} {i : Int} {v : Int} (h : nth l i = some v) : 0 ≤ i ∧ ∃ x : DD 5, (show List (DD 5) from l)[i.toNat]? = some x ∧ UU.cells 5 x = c5 v := ⟨(nth_out h).1, v, (nth_out h).2, rfl⟩
theorem obn5 {l : List (Int)} {i : Nat} {v : Int} (h : l[i]? = some v) : ∃ x : DD 5, (show List (DD 5) from l)[i]? = some x ∧ UU.cells 5 x = c5 v := ⟨v, h, rfl⟩

theorem ob34 {l : List (Int)} {i : Int} {v : Int} (h : nth l i = some v) : 0 ≤ i ∧ ∃ x : DD 34, (show List (DD 34) from l)[i.toNat]? = some x ∧ UU.cells 34 x = c34 v := ⟨(nth_out h).1, v, (nth_out h).2, rfl⟩
theorem obn34 {l : List (Int)} {i : Nat} {v : Int} (h : l[i]? = some v) : ∃ x : DD 34, (show List (DD 34) from l)[i]? = some x ∧ UU.cells 34 x = c34 v := ⟨v, h, rfl⟩

theorem ob37 {l : List (Api_Frame)} {i : Int} {v : Api_Frame} (h : nth l i = some v) : 0 ≤ i ∧ ∃ x : DD 37, (show List (DD 37) from l)[i.toNat]? = some x ∧ UU.cells 37 x = c37 v := ⟨(nth_out h).1, v, (nth_out h).2, rfl⟩
theorem obn37 {l : List (Api_Frame)} {i : Nat} {v : Api_Frame} (h : l[i]? = some v) : ∃ x : DD 37, (show List (DD 37) from l)[i]? = some x ∧ UU.cells 37 x = c37 v := ⟨v, h, rfl⟩

theorem ob61 {l : List (Api_Net)} {i : Int} {v : Api_Net} (h : nth l i = some v) : 0 ≤ i ∧ ∃ x : DD 61, (show List (DD 61) from l)[i.toNat]? = some x ∧ UU.cells 61 x = c61 v := ⟨(nth_out h).1, v, (nth_out h).2, rfl⟩
theorem obn61 {l : List (Api_Net)} {i : Nat} {v : Api_Net} (h : l[i]? = some v) : ∃ x : DD 61, (show List (DD 61) from l)[i]? = some x ∧ UU.cells 61 x = c61 v := ⟨v, h, rfl⟩

theorem ob66 {l : List (Api_Prefix)} {i : Int} {v : Api_Prefix} (h : nth l i = some v) : 0 ≤ i ∧ ∃ x : DD 66, (show List (DD 66) from l)[i.toNat]? = some x ∧ UU.cells 66 x = c66 v := ⟨(nth_out h).1, v, (nth_out h).2, rfl⟩
theorem obn66 {l : List (Api_Prefix)} {i : Nat} {v : Api_Prefix} (h : l[i]? = some v) : ∃ x : DD 66, (show List (DD 66) from l)[i]? = some x ∧ UU.cells 66 x = c66 v := ⟨v, h, rfl⟩

theorem ob68 {l : List (Api_Irb)} {i : Int} {v : Api_Irb} (h : nth l i = some v) : 0 ≤ i ∧ ∃ x : DD 68, (show List (DD 68) from l)[i.toNat]? = some x ∧ UU.cells 68 x = c68 v := ⟨(nth_out h).1, v, (nth_out h).2, rfl⟩
theorem obn68 {l : List (Api_Irb)} {i : Nat} {v : Api_Irb} (h : l[i]? = some v) : ∃ x : DD 68, (show List (DD 68) from l)[i]? = some x ∧ UU.cells 68 x = c68 v := ⟨v, h, rfl⟩

theorem ob71 {l : List (Api_Vrf)} {i : Int} {v : Api_Vrf} (h : nth l i = some v) : 0 ≤ i ∧ ∃ x : DD 71, (show List (DD 71) from l)[i.toNat]? = some x ∧ UU.cells 71 x = c71 v := ⟨(nth_out h).1, v, (nth_out h).2, rfl⟩
theorem obn71 {l : List (Api_Vrf)} {i : Nat} {v : Api_Vrf} (h : l[i]? = some v) : ∃ x : DD 71, (show List (DD 71) from l)[i]? = some x ∧ UU.cells 71 x = c71 v := ⟨v, h, rfl⟩

theorem ob78 {l : List (Api_Packet)} {i : Int} {v : Api_Packet} (h : nth l i = some v) : 0 ≤ i ∧ ∃ x : DD 78, (show List (DD 78) from l)[i.toNat]? = some x ∧ UU.cells 78 x = c78 v := ⟨(nth_out h).1, v, (nth_out h).2, rfl⟩
theorem obn78 {l : List (Api_Packet)} {i : Nat} {v : Api_Packet} (h : l[i]? = some v) : ∃ x : DD 78, (show List (DD 78) from l)[i]? = some x ∧ UU.cells 78 x = c78 v := ⟨v, h, rfl⟩

theorem ob85 {l : List (Api_Domain)} {i : Int} {v : Api_Domain} (h : nth l i = some v) : 0 ≤ i ∧ ∃ x : DD 85, (show List (DD 85) from l)[i.toNat]? = some x ∧ UU.cells 85 x = c85 v := ⟨(nth_out h).1, v, (nth_out h).2, rfl⟩
theorem obn85 {l : List (Api_Domain)} {i : Nat} {v : Api_Domain} (h : l[i]? = some v) : ∃ x : DD 85, (show List (DD 85) from l)[i]? = some x ∧ UU.cells 85 x = c85 v := ⟨v, h, rfl⟩

theorem ob96 {l : List (Api_Port)} {i : Int} {v : Api_Port} (h : nth l i = some v) : 0 ≤ i ∧ ∃ x : DD 96, (show List (DD 96) from l)[i.toNat]? = some x ∧ UU.cells 96 x = c96 v := ⟨(nth_out h).1, v, (nth_out h).2, rfl⟩
theorem obn96 {l : List (Api_Port)} {i : Nat} {v : Api_Port} (h : l[i]? = some v) : ∃ x : DD 96, (show List (DD 96) from l)[i]? = some x ∧ UU.cells 96 x = c96 v := ⟨v, h, rfl⟩

theorem ob112 {l : List (Vxlan_outer)} {i : Int} {v : Vxlan_outer} (h : nth l i = some v) : 0 ≤ i ∧ ∃ x : DD 112, (show List (DD 112) from l)[i.toNat]? = some x ∧ UU.cells 112 x = c112 v := ⟨(nth_out h).1, v, (nth_out h).2, rfl⟩
theorem obn112 {l : List (Vxlan_outer)} {i : Nat} {v : Vxlan_outer} (h : l[i]? = some v) : ∃ x : DD 112, (show List (DD 112) from l)[i]? = some x ∧ UU.cells 112 x = c112 v := ⟨v, h, rfl⟩

theorem ob114 {l : List (Vxlan_reader)} {i : Int} {v : Vxlan_reader} (h : nth l i = some v) : 0 ≤ i ∧ ∃ x : DD 114, (show List (DD 114) from l)[i.toNat]? = some x ∧ UU.cells 114 x = c114 v := ⟨(nth_out h).1, v, (nth_out h).2, rfl⟩
theorem obn114 {l : List (Vxlan_reader)} {i : Nat} {v : Vxlan_reader} (h : l[i]? = some v) : ∃ x : DD 114, (show List (DD 114) from l)[i]? = some x ∧ UU.cells 114 x = c114 v := ⟨v, h, rfl⟩

theorem ob128 {l : List (Api_Flood)} {i : Int} {v : Api_Flood} (h : nth l i = some v) : 0 ≤ i ∧ ∃ x : DD 128, (show List (DD 128) from l)[i.toNat]? = some x ∧ UU.cells 128 x = c128 v := ⟨(nth_out h).1, v, (nth_out h).2, rfl⟩
theorem obn128 {l : List (Api_Flood)} {i : Nat} {v : Api_Flood} (h : l[i]? = some v) : ∃ x : DD 128, (show List (DD 128) from l)[i]? = some x ∧ UU.cells 128 x = c128 v := ⟨v, h, rfl⟩

theorem ob138 {l : List (Api_Device)} {i : Int} {v : Api_Device} (h : nth l i = some v) : 0 ≤ i ∧ ∃ x : DD 138, (show List (DD 138) from l)[i.toNat]? = some x ∧ UU.cells 138 x = c138 v := ⟨(nth_out h).1, v, (nth_out h).2, rfl⟩
theorem obn138 {l : List (Api_Device)} {i : Nat} {v : Api_Device} (h : l[i]? = some v) : ∃ x : DD 138, (show List (DD 138) from l)[i]? = some x ∧ UU.cells 138 x = c138 v := ⟨v, h, rfl⟩

theorem ob141 {l : List (Leave_whole)} {i : Int} {v : Leave_whole} (h : nth l i = some v) : 0 ≤ i ∧ ∃ x : DD 141, (show List (DD 141) from l)[i.toNat]? = some x ∧ UU.cells 141 x = c141 v := ⟨(nth_out h).1, v, (nth_out h).2, rfl⟩
theorem obn141 {l : List (Leave_whole)} {i : Nat} {v : Leave_whole} (h : l[i]? = some v) : ∃ x : DD 141, (show List (DD 141) from l)[i]? = some x ∧ UU.cells 141 x = c141 v := ⟨v, h, rfl⟩

theorem ob153 {l : List (Api_Link)} {i : Int} {v : Api_Link} (h : nth l i = some v) : 0 ≤ i ∧ ∃ x : DD 153, (show List (DD 153) from l)[i.toNat]? = some x ∧ UU.cells 153 x = c153 v := ⟨(nth_out h).1, v, (nth_out h).2, rfl⟩
theorem obn153 {l : List (Api_Link)} {i : Nat} {v : Api_Link} (h : l[i]? = some v) : ∃ x : DD 153, (show List (DD 153) from l)[i]? = some x ∧ UU.cells 153 x = c153 v := ⟨v, h, rfl⟩

theorem ob157 {l : List (Names_judge)} {i : Int} {v : Names_judge} (h : nth l i = some v) : 0 ≤ i ∧ ∃ x : DD 157, (show List (DD 157) from l)[i.toNat]? = some x ∧ UU.cells 157 x = c157 v := ⟨(nth_out h).1, v, (nth_out h).2, rfl⟩
theorem obn157 {l : List (Names_judge)} {i : Nat} {v : Names_judge} (h : l[i]? = some v) : ∃ x : DD 157, (show List (DD 157) from l)[i]? = some x ∧ UU.cells 157 x = c157 v := ⟨v, h, rfl⟩

theorem ob166 {l : List (Api_Static)} {i : Int} {v : Api_Static} (h : nth l i = some v) : 0 ≤ i ∧ ∃ x : DD 166, (show List (DD 166) from l)[i.toNat]? = some x ∧ UU.cells 166 x = c166 v := ⟨(nth_out h).1, v, (nth_out h).2, rfl⟩
theorem obn166 {l : List (Api_Static)} {i : Nat} {v : Api_Static} (h : l[i]? = some v) : ∃ x : DD 166, (show List (DD 166) from l)[i]? = some x ∧ UU.cells 166 x = c166 v := ⟨v, h, rfl⟩

theorem cvb5 (l : List Int) : ∃ ns : List Int, flatL UU 5 (show List (DD 5) from l) = ns.map (fun n => (.v (.int .u8 n) : AV DD)) ∧ bstr l = ⟨(ns.map fun n => UInt8.ofNat n.toNat).toArray⟩ := ⟨l, by
  induction l with
  | nil => rfl
  | cons x l ih => exact congrArg (List.cons _) ih, rfl⟩

theorem cp_ob {n e : Nat} {l l2 : List (DD e)} {a b : Nat} : n = n ∧ ∃ xs : List (DD e), (AObj.arr e (l.take a ++ (l2.take (min l2.length (b - a)) ++ l.drop (a + min l2.length (b - a)))) n false) = .arr e (l.take a ++ (xs ++ l.drop (a + min l2.length (b - a)))) n false ∧ flatL UU e xs = flatL UU e (l2.take (min l2.length (b - a))) := ⟨rfl, _, rfl, rfl⟩
theorem cl_ob {n e : Nat} {l : List (DD e)} {a b : Nat} (y : DD e) : n = n ∧ ∃ y', (AObj.arr e (l.take a ++ (List.replicate (b - a) y ++ l.drop b)) n false) = .arr e (l.take a ++ (List.replicate (b - a) y' ++ l.drop b)) n false ∧ UU.cells e y' = UU.cells e y := ⟨rfl, y, rfl, rfl⟩
theorem st_ob {n e : Nat} {l : List (DD e)} {i : Nat} {A : Prop} (y : DD e) (r : List (AV DD)) (h : A) (hr : UU.cells e y = r) : n = n ∧ A ∧ ∃ y', (AObj.arr e (l.set i y) n false) = .arr e (l.set i y') n false ∧ UU.cells e y' = r := ⟨rfl, h, y, rfl, hr⟩
theorem bs_ob (e : Nat) (l : List (DD e)) : flatL UU e l = flatL UU e l ∧ l.length = l.length ∧ l.length = l.length := ⟨rfl, rfl, rfl⟩
theorem mk_ob {n m : Int} {b : Nat} (e : Nat) (z : DD e) (h : mkok b n m = true) : 0 ≤ n ∧ n ≤ m ∧ m * b ≤ 140737488355328 ∧ m < 9223372036854775808 ∧ ∃ y : DD e, List.replicate n.toNat z = List.replicate n.toNat y ∧ UU.cells e y = UU.cells e z := by
  have h := of_decide_eq_true h
  exact ⟨h.1, h.2.1, h.2.2.1, h.2.2.2, z, rfl, rfl⟩
theorem app_ob (e : Nat) {n b : Nat} {l xs : List (DD e)} (h : roomy b (l ++ xs) = true) : n = n ∧ (l ++ xs).length = (l ++ xs).length ∧ (l.length + xs.length) * b ≤ 140737488355328 ∧ l.length + xs.length < 9223372036854775808 ∧ ∃ xs', (AObj.arr e (l ++ xs) (l ++ xs).length false) = .arr e (l ++ xs') (l ++ xs).length false ∧ flatL UU e xs' = flatL UU e xs := by
  have h := of_decide_eq_true h
  rw [List.length_append] at h
  exact ⟨rfl, rfl, h.1, h.2, xs, rfl, rfl⟩
theorem apn_ob (e : Nat) {b : Nat} {l : List (DD e)} (h : roomy b l = true) : l.length * b ≤ 140737488355328 ∧ l.length < 9223372036854775808 ∧ l.length = l.length ∧ flatL UU e l = flatL UU e l ∧ l.length = l.length := by
  have h := of_decide_eq_true h
  exact ⟨h.1, h.2, rfl, rfl, rfl⟩

theorem mixedOrders : Try.prog.follows .mixedOrders = true := by kernel_rfl
@[reducible] def AV.z : AV DD := .v (.int .i64 0)
@[reducible] def AV.e : AV DD := .v (.string (⟨#[]⟩ : ByteArray))
@[reducible] def AObj.n (t : Nat) : AObj DD := .arr t [] 0 false
end Go.Eng
