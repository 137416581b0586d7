/- Part of the proof of RouteLeads: printed mirrors of the functions, or their contracts. No conditions. -/
import Derived.Test.YtakijieekhbhfaaGreatMAM
import Derived.Test.YtakijieekhbhfaaGreatProg
set_option linter.unusedVariables false
set_option maxRecDepth 100000
namespace Go.Eng
open Go Go.Proofs
def DD : Den := fun t => match t with
  | 3 => Int
  | 5 => Int
  | 31 => Api_Net
  | 32 => Int
  | 36 => Api_Frame
  | 59 => Api_Port
  | 61 => Api_Domain
  | 64 => Api_Flood
  | 66 => Api_Vrf
  | 69 => Api_Packet
  | 74 => Api_Prefix
  | 76 => Api_Irb
  | 89 => Api_Device
  | 92 => Leave_whole
  | 109 => Names_judge
  | 116 => Api_Link
  | 120 => Api_Static
  | 153 => Vxlan_outer
  | 155 => Vxlan_reader
  | _ => Unit

def c3 (x : Int) : List (AV DD) := [.v (.int .i64 x)]

def c5 (x : Int) : List (AV DD) := [.v (.int .u8 x)]

def c31 (x : Api_Net) : List (AV DD) := [.sl 89 x.devices, .sl 59 x.ports, .sl 116 x.links, .sl 61 x.domains, .sl 120 x.statics, .sl 64 x.floods, .sl 66 x.vrfs, .sl 76 x.irbs]

def c32 (x : Int) : List (AV DD) := [.v (.int .u32 x)]

def c36 (x : Api_Frame) : List (AV DD) := [.v (.int .u64 x.dst), .v (.int .u64 x.src), .v (.int .i64 x.type_), .sl 5 x.body]

def c59 (x : Api_Port) : List (AV DD) := [.v (.int .i64 x.row), .v (.int .i64 x.dev), .v (.int .i64 x.native), .v (.int .i64 x.cost), .v (.int .i64 x.link), .v (.string x.name), .sl 3 x.tagged]

def c61 (x : Api_Domain) : List (AV DD) := [.v (.int .i64 x.dev), .v (.int .i64 x.vlan), .v (.int .i64 x.vni), .v (.int .i64 x.irb), .v (.int .i64 x.row), .sl 3 x.peers]

def c64 (x : Api_Flood) : List (AV DD) := [.v (.int .i64 x.row), .v (.int .i64 x.dev), .v (.int .i64 x.vni), .sl 32 x.addrs]

def c66 (x : Api_Vrf) : List (AV DD) := [.v (.int .i64 x.row), .v (.int .i64 x.dev), .v (.string x.name), .sl 3 x.imports, .sl 3 x.exports]

def c69 (x : Api_Packet) : List (AV DD) := [.v (.int .i64 x.tos), .v (.int .i64 x.id), .v (.int .i64 x.ttl), .v (.int .i64 x.proto), .v (.int .u32 x.src), .v (.int .u32 x.dst), .sl 5 x.body]

def c74 (x : Api_Prefix) : List (AV DD) := [.v (.int .u32 x.addr), .v (.int .i64 x.bits)]

def c76 (x : Api_Irb) : List (AV DD) := [.v (.int .i64 x.row), .v (.int .i64 x.domain), .v (.int .i64 x.vrf), .v (.int .u32 x.net.addr), .v (.int .i64 x.net.bits)]

def c89 (x : Api_Device) : List (AV DD) := [.v (.int .i64 x.row), .v (.int .i64 x.priority), .v (.string x.name), .v (.int .u64 x.mac), .v (.int .u32 x.vtep)]

def c92 (x : Leave_whole) : List (AV DD) := [.sl 89 x.net.devices, .sl 59 x.net.ports, .sl 116 x.net.links, .sl 61 x.net.domains, .sl 120 x.net.statics, .sl 64 x.net.floods, .sl 66 x.net.vrfs, .sl 76 x.net.irbs]

def c109 (x : Names_judge) : List (AV DD) := [.sl 89 x.n.devices, .sl 59 x.n.ports, .sl 116 x.n.links, .sl 61 x.n.domains, .sl 120 x.n.statics, .sl 64 x.n.floods, .sl 66 x.n.vrfs, .sl 76 x.n.irbs]

def c116 (x : Api_Link) : List (AV DD) := [.v (.int .i64 x.row), .v (.int .i64 x.a), .v (.int .i64 x.b)]

def c120 (x : Api_Static) : List (AV DD) := [.v (.int .i64 x.row), .v (.int .i64 x.domain), .v (.int .i64 x.port), .v (.int .u64 x.mac)]

def c153 (x : Vxlan_outer) : List (AV DD) := [.v (.int .i64 x.packet.tos), .v (.int .i64 x.packet.id), .v (.int .i64 x.packet.ttl), .v (.int .i64 x.packet.proto), .v (.int .u32 x.packet.src), .v (.int .u32 x.packet.dst), .sl 5 x.packet.body, .v (.int .i64 x.vni)]

def c155 (x : Vxlan_reader) : List (AV DD) := [.v (.int .i64 x.outer.packet.tos), .v (.int .i64 x.outer.packet.id), .v (.int .i64 x.outer.packet.ttl), .v (.int .i64 x.outer.packet.proto), .v (.int .u32 x.outer.packet.src), .v (.int .u32 x.outer.packet.dst), .sl 5 x.outer.packet.body, .v (.int .i64 x.outer.vni), .v (.int .i64 x.e)]

def cellsD : (t : Nat) → DD t → List (AV DD) := fun t => match t with
  | 3 => fun x => c3 x
  | 5 => fun x => c5 x
  | 31 => fun x => c31 x
  | 32 => fun x => c32 x
  | 36 => fun x => c36 x
  | 59 => fun x => c59 x
  | 61 => fun x => c61 x
  | 64 => fun x => c64 x
  | 66 => fun x => c66 x
  | 69 => fun x => c69 x
  | 74 => fun x => c74 x
  | 76 => fun x => c76 x
  | 89 => fun x => c89 x
  | 92 => fun x => c92 x
  | 109 => fun x => c109 x
  | 116 => fun x => c116 x
  | 120 => fun x => c120 x
  | 153 => fun x => c153 x
  | 155 => fun x => c155 x
  | _ => fun _ => [.v (.bool true)]

def widthD : Nat → Nat := fun t => match t with
  | 3 => 1
  | 5 => 1
  | 31 => 8
  | 32 => 1
  | 36 => 4
  | 59 => 7
  | 61 => 6
  | 64 => 4
  | 66 => 5
  | 69 => 7
  | 74 => 2
  | 76 => 5
  | 89 => 5
  | 92 => 8
  | 109 => 8
  | 116 => 3
  | 120 => 4
  | 153 => 8
  | 155 => 9
  | _ => 1

theorem cellsD_else {t : Nat} (x : DD t) (h : t ≠ 3 ∧ t ≠ 5 ∧ t ≠ 31 ∧ t ≠ 32 ∧ t ≠ 36 ∧ t ≠ 59 ∧ t ≠ 61 ∧ t ≠ 64 ∧ t ≠ 66 ∧ t ≠ 69 ∧ t ≠ 74 ∧ t ≠ 76 ∧ t ≠ 89 ∧ t ≠ 92 ∧ t ≠ 109 ∧ t ≠ 116 ∧ t ≠ 120 ∧ t ≠ 153 ∧ t ≠ 155) : cellsD t x = [.v (.bool true)] ∧ widthD t = 1 := by
  obtain ⟨h3, h5, h31, h32, h36, h59, h61, h64, h66, h69, h74, h76, h89, h92, h109, h116, h120, h153, h155⟩ := h
  unfold cellsD widthD
  constructor
  · split <;> first | (exfalso; omega) | rfl
  · split <;> first | (exfalso; omega) | rfl

def UU : Univ DD where
  width := widthD
  cells := cellsD
  len t x := by
    by_cases h3 : t = 3
    · subst h3; rfl
    by_cases h5 : t = 5
    · subst h5; rfl
    by_cases h31 : t = 31
    · subst h31; rfl
    by_cases h32 : t = 32
    · subst h32; rfl
    by_cases h36 : t = 36
    · subst h36; rfl
    by_cases h59 : t = 59
    · subst h59; rfl
    by_cases h61 : t = 61
    · subst h61; rfl
    by_cases h64 : t = 64
    · subst h64; rfl
    by_cases h66 : t = 66
    · subst h66; rfl
    by_cases h69 : t = 69
    · subst h69; rfl
    by_cases h74 : t = 74
    · subst h74; rfl
    by_cases h76 : t = 76
    · subst h76; rfl
    by_cases h89 : t = 89
    · subst h89; rfl
    by_cases h92 : t = 92
    · subst h92; rfl
    by_cases h109 : t = 109
    · subst h109; rfl
    by_cases h116 : t = 116
    · subst h116; rfl
    by_cases h120 : t = 120
    · subst h120; rfl
    by_cases h153 : t = 153
    · subst h153; rfl
    by_cases h155 : t = 155
    · subst h155; rfl
    rw [(cellsD_else x ⟨h3, h5, h31, h32, h36, h59, h61, h64, h66, h69, h74, h76, h89, h92, h109, h116, h120, h153, h155⟩).1, (cellsD_else x ⟨h3, h5, h31, h32, h36, h59, h61, h64, h66, h69, h74, h76, h89, h92, h109, h116, h120, h153, h155⟩).2]; rfl
  pos t := by
    by_cases h3 : t = 3
    · subst h3; exact Nat.le_of_ble_eq_true rfl
    by_cases h5 : t = 5
    · subst h5; exact Nat.le_of_ble_eq_true rfl
    by_cases h31 : t = 31
    · subst h31; exact Nat.le_of_ble_eq_true rfl
    by_cases h32 : t = 32
    · subst h32; exact Nat.le_of_ble_eq_true rfl
    by_cases h36 : t = 36
    · subst h36; exact Nat.le_of_ble_eq_true rfl
    by_cases h59 : t = 59
    · subst h59; exact Nat.le_of_ble_eq_true rfl
    by_cases h61 : t = 61
    · subst h61; exact Nat.le_of_ble_eq_true rfl
    by_cases h64 : t = 64
    · subst h64; exact Nat.le_of_ble_eq_true rfl
    by_cases h66 : t = 66
    · subst h66; exact Nat.le_of_ble_eq_true rfl
    by_cases h69 : t = 69
    · subst h69; exact Nat.le_of_ble_eq_true rfl
    by_cases h74 : t = 74
    · subst h74; exact Nat.le_of_ble_eq_true rfl
    by_cases h76 : t = 76
    · subst h76; exact Nat.le_of_ble_eq_true rfl
    by_cases h89 : t = 89
    · subst h89; exact Nat.le_of_ble_eq_true rfl
    by_cases h92 : t = 92
    · subst h92; exact Nat.le_of_ble_eq_true rfl
    by_cases h109 : t = 109
    · subst h109; exact Nat.le_of_ble_eq_true rfl
    by_cases h116 : t = 116
    · subst h116; exact Nat.le_of_ble_eq_true rfl
    by_cases h120 : t = 120
    · subst h120; exact Nat.le_of_ble_eq_true rfl
    by_cases h153 : t = 153
    · subst h153; exact Nat.le_of_ble_eq_true rfl
    by_cases h155 : t = 155
    · subst h155; exact Nat.le_of_ble_eq_true rfl
    unfold widthD; split <;> omega
  ok t x := by
    by_cases h3 : t = 3
    · subst h3; rfl
    by_cases h5 : t = 5
    · subst h5; rfl
    by_cases h31 : t = 31
    · subst h31; rfl
    by_cases h32 : t = 32
    · subst h32; rfl
    by_cases h36 : t = 36
    · subst h36; rfl
    by_cases h59 : t = 59
    · subst h59; rfl
    by_cases h61 : t = 61
    · subst h61; rfl
    by_cases h64 : t = 64
    · subst h64; rfl
    by_cases h66 : t = 66
    · subst h66; rfl
    by_cases h69 : t = 69
    · subst h69; rfl
    by_cases h74 : t = 74
    · subst h74; rfl
    by_cases h76 : t = 76
    · subst h76; rfl
    by_cases h89 : t = 89
    · subst h89; rfl
    by_cases h92 : t = 92
    · subst h92; rfl
    by_cases h109 : t = 109
    · subst h109; rfl
    by_cases h116 : t = 116
    · subst h116; rfl
    by_cases h120 : t = 120
    · subst h120; rfl
    by_cases h153 : t = 153
    · subst h153; rfl
    by_cases h155 : t = 155
    · subst h155; rfl
    rw [(cellsD_else x ⟨h3, h5, h31, h32, h36, h59, h61, h64, h66, h69, h74, h76, h89, h92, h109, h116, h120, h153, h155⟩).1]; rfl

theorem im_all {t : Nat} (h : ∀ x : DD t, (UU.cells t x).all immC = true) (l : List (DD t)) : (flatL UU t l).all immC = true := by
  induction l with
  | nil => rfl
  | cons x l ih => simp only [flatL, List.flatMap_cons, List.all_append, Bool.and_eq_true]; exact ⟨h x, ih⟩

theorem im3 (l : List (DD 3)) : (flatL UU 3 l).all immC = true := im_all (fun _ => rfl) l

theorem im5 (l : List (DD 5)) : (flatL UU 5 l).all immC = true := im_all (fun _ => rfl) l

theorem im32 (l : List (DD 32)) : (flatL UU 32 l).all immC = true := im_all (fun _ => rfl) l

theorem im74 (l : List (DD 74)) : (flatL UU 74 l).all immC = true := im_all (fun _ => rfl) l

theorem im76 (l : List (DD 76)) : (flatL UU 76 l).all immC = true := im_all (fun _ => rfl) l

theorem im89 (l : List (DD 89)) : (flatL UU 89 l).all immC = true := im_all (fun _ => rfl) l

theorem im116 (l : List (DD 116)) : (flatL UU 116 l).all immC = true := im_all (fun _ => rfl) l

theorem im120 (l : List (DD 120)) : (flatL UU 120 l).all immC = true := im_all (fun _ => rfl) l

theorem ob3 {l : List (Int)} {i : Int} {v : Int} (h : nth l i = some v) : 0 ≤ i ∧ ∃ x : DD 3, (show List (DD 3) from l)[i.toNat]? = some x ∧ UU.cells 3 x = c3 v := ⟨(nth_out h).1, v, (nth_out h).2, rfl⟩
theorem obn3 {l : List (Int)} {i : Nat} {v : Int} (h : l[i]? = some v) : ∃ x : DD 3, (show List (DD 3) from l)[i]? = some x ∧ UU.cells 3 x = c3 v := ⟨v, h, rfl⟩

theorem ob5 {l : List (Int)} {i : Int} {v : Int} (h : nth l i = some v) : 0 ≤ i ∧ ∃ x : DD 5, (show List (DD 5) from l)[i.toNat]? = some x ∧ UU.cells 5 x = c5 v := ⟨(nth_out h).1, v, (nth_out h).2, rfl⟩
theorem obn5 {l : List (Int)} {i : Nat} {v : Int} (h : l[i]? = some v) : ∃ x : DD 5, (show List (DD 5) from l)[i]? = some x ∧ UU.cells 5 x = c5 v := ⟨v, h, rfl⟩

theorem ob31 {l : List (Api_Net)} {i : Int} {v : Api_Net} (h : nth l i = some v) : 0 ≤ i ∧ ∃ x : DD 31, (show List (DD 31) from l)[i.toNat]? = some x ∧ UU.cells 31 x = c31 v := ⟨(nth_out h).1, v, (nth_out h).2, rfl⟩
theorem obn31 {l : List (Api_Net)} {i : Nat} {v : Api_Net} (h : l[i]? = some v) : ∃ x : DD 31, (show List (DD 31) from l)[i]? = some x ∧ UU.cells 31 x = c31 v := ⟨v, h, rfl⟩

theorem ob32 {l : List (Int)} {i : Int} {v : Int} (h : nth l i = some v) : 0 ≤ i ∧ ∃ x : DD 32, (show List (DD 32) from l)[i.toNat]? = some x ∧ UU.cells 32 x = c32 v := ⟨(nth_out h).1, v, (nth_out h).2, rfl⟩
theorem obn32 {l : List (Int)} {i : Nat} {v : Int} (h : l[i]? = some v) : ∃ x : DD 32, (show List (DD 32) from l)[i]? = some x ∧ UU.cells 32 x = c32 v := ⟨v, h, rfl⟩

theorem ob36 {l : List (Api_Frame)} {i : Int} {v : Api_Frame} (h : nth l i = some v) : 0 ≤ i ∧ ∃ x : DD 36, (show List (DD 36) from l)[i.toNat]? = some x ∧ UU.cells 36 x = c36 v := ⟨(nth_out h).1, v, (nth_out h).2, rfl⟩
theorem obn36 {l : List (Api_Frame)} {i : Nat} {v : Api_Frame} (h : l[i]? = some v) : ∃ x : DD 36, (show List (DD 36) from l)[i]? = some x ∧ UU.cells 36 x = c36 v := ⟨v, h, rfl⟩

theorem ob59 {l : List (Api_Port)} {i : Int} {v : Api_Port} (h : nth l i = some v) : 0 ≤ i ∧ ∃ x : DD 59, (show List (DD 59) from l)[i.toNat]? = some x ∧ UU.cells 59 x = c59 v := ⟨(nth_out h).1, v, (nth_out h).2, rfl⟩
theorem obn59 {l : List (Api_Port)} {i : Nat} {v : Api_Port} (h : l[i]? = some v) : ∃ x : DD 59, (show List (DD 59) from l)[i]? = some x ∧ UU.cells 59 x = c59 v := ⟨v, h, rfl⟩

theorem ob61 {l : List (Api_Domain)} {i : Int} {v : Api_Domain} (h : nth l i = some v) : 0 ≤ i ∧ ∃ x : DD 61, (show List (DD 61) from l)[i.toNat]? = some x ∧ UU.cells 61 x = c61 v := ⟨(nth_out h).1, v, (nth_out h).2, rfl⟩
theorem obn61 {l : List (Api_Domain)} {i : Nat} {v : Api_Domain} (h : l[i]? = some v) : ∃ x : DD 61, (show List (DD 61) from l)[i]? = some x ∧ UU.cells 61 x = c61 v := ⟨v, h, rfl⟩

theorem ob64 {l : List (Api_Flood)} {i : Int} {v : Api_Flood} (h : nth l i = some v) : 0 ≤ i ∧ ∃ x : DD 64, (show List (DD 64) from l)[i.toNat]? = some x ∧ UU.cells 64 x = c64 v := ⟨(nth_out h).1, v, (nth_out h).2, rfl⟩
theorem obn64 {l : List (Api_Flood)} {i : Nat} {v : Api_Flood} (h : l[i]? = some v) : ∃ x : DD 64, (show List (DD 64) from l)[i]? = some x ∧ UU.cells 64 x = c64 v := ⟨v, h, rfl⟩

theorem ob66 {l : List (Api_Vrf)} {i : Int} {v : Api_Vrf} (h : nth l i = some v) : 0 ≤ i ∧ ∃ x : DD 66, (show List (DD 66) from l)[i.toNat]? = some x ∧ UU.cells 66 x = c66 v := ⟨(nth_out h).1, v, (nth_out h).2, rfl⟩
theorem obn66 {l : List (Api_Vrf)} {i : Nat} {v : Api_Vrf} (h : l[i]? = some v) : ∃ x : DD 66, (show List (DD 66) from l)[i]? = some x ∧ UU.cells 66 x = c66 v := ⟨v, h, rfl⟩

theorem ob69 {l : List (Api_Packet)} {i : Int} {v : Api_Packet} (h : nth l i = some v) : 0 ≤ i ∧ ∃ x : DD 69, (show List (DD 69) from l)[i.toNat]? = some x ∧ UU.cells 69 x = c69 v := ⟨(nth_out h).1, v, (nth_out h).2, rfl⟩
theorem obn69 {l : List (Api_Packet)} {i : Nat} {v : Api_Packet} (h : l[i]? = some v) : ∃ x : DD 69, (show List (DD 69) from l)[i]? = some x ∧ UU.cells 69 x = c69 v := ⟨v, h, rfl⟩

theorem ob74 {l : List (Api_Prefix)} {i : Int} {v : Api_Prefix} (h : nth l i = some v) : 0 ≤ i ∧ ∃ x : DD 74, (show List (DD 74) from l)[i.toNat]? = some x ∧ UU.cells 74 x = c74 v := ⟨(nth_out h).1, v, (nth_out h).2, rfl⟩
theorem obn74 {l : List (Api_Prefix)} {i : Nat} {v : Api_Prefix} (h : l[i]? = some v) : ∃ x : DD 74, (show List (DD 74) from l)[i]? = some x ∧ UU.cells 74 x = c74 v := ⟨v, h, rfl⟩

theorem ob76 {l : List (Api_Irb)} {i : Int} {v : Api_Irb} (h : nth l i = some v) : 0 ≤ i ∧ ∃ x : DD 76, (show List (DD 76) from l)[i.toNat]? = some x ∧ UU.cells 76 x = c76 v := ⟨(nth_out h).1, v, (nth_out h).2, rfl⟩
theorem obn76 {l : List (Api_Irb)} {i : Nat} {v : Api_Irb} (h : l[i]? = some v) : ∃ x : DD 76, (show List (DD 76) from l)[i]? = some x ∧ UU.cells 76 x = c76 v := ⟨v, h, rfl⟩

theorem ob89 {l : List (Api_Device)} {i : Int} {v : Api_Device} (h : nth l i = some v) : 0 ≤ i ∧ ∃ x : DD 89, (show List (DD 89) from l)[i.toNat]? = some x ∧ UU.cells 89 x = c89 v := ⟨(nth_out h).1, v, (nth_out h).2, rfl⟩
theorem obn89 {l : List (Api_Device)} {i : Nat} {v : Api_Device} (h : l[i]? = some v) : ∃ x : DD 89, (show List (DD 89) from l)[i]? = some x ∧ UU.cells 89 x = c89 v := ⟨v, h, rfl⟩

theorem ob92 {l : List (Leave_whole)} {i : Int} {v : Leave_whole} (h : nth l i = some v) : 0 ≤ i ∧ ∃ x : DD 92, (show List (DD 92) from l)[i.toNat]? = some x ∧ UU.cells 92 x = c92 v := ⟨(nth_out h).1, v, (nth_out h).2, rfl⟩
theorem obn92 {l : List (Leave_whole)} {i : Nat} {v : Leave_whole} (h : l[i]? = some v) : ∃ x : DD 92, (show List (DD 92) from l)[i]? = some x ∧ UU.cells 92 x = c92 v := ⟨v, h, rfl⟩

theorem ob109 {l : List (Names_judge)} {i : Int} {v : Names_judge} (h : nth l i = some v) : 0 ≤ i ∧ ∃ x : DD 109, (show List (DD 109) from l)[i.toNat]? = some x ∧ UU.cells 109 x = c109 v := ⟨(nth_out h).1, v, (nth_out h).2, rfl⟩
theorem obn109 {l : List (Names_judge)} {i : Nat} {v : Names_judge} (h : l[i]? = some v) : ∃ x : DD 109, (show List (DD 109) from l)[i]? = some x ∧ UU.cells 109 x = c109 v := ⟨v, h, rfl⟩

theorem ob116 {l : List (Api_Link)} {i : Int} {v : Api_Link} (h : nth l i = some v) : 0 ≤ i ∧ ∃ x : DD 116, (show List (DD 116) from l)[i.toNat]? = some x ∧ UU.cells 116 x = c116 v := ⟨(nth_out h).1, v, (nth_out h).2, rfl⟩
theorem obn116 {l : List (Api_Link)} {i : Nat} {v : Api_Link} (h : l[i]? = some v) : ∃ x : DD 116, (show List (DD 116) from l)[i]? = some x ∧ UU.cells 116 x = c116 v := ⟨v, h, rfl⟩

theorem ob120 {l : List (Api_Static)} {i : Int} {v : Api_Static} (h : nth l i = some v) : 0 ≤ i ∧ ∃ x : DD 120, (show List (DD 120) from l)[i.toNat]? = some x ∧ UU.cells 120 x = c120 v := ⟨(nth_out h).1, v, (nth_out h).2, rfl⟩
theorem obn120 {l : List (Api_Static)} {i : Nat} {v : Api_Static} (h : l[i]? = some v) : ∃ x : DD 120, (show List (DD 120) from l)[i]? = some x ∧ UU.cells 120 x = c120 v := ⟨v, h, rfl⟩

theorem ob153 {l : List (Vxlan_outer)} {i : Int} {v : Vxlan_outer} (h : nth l i = some v) : 0 ≤ i ∧ ∃ x : DD 153, (show List (DD 153) from l)[i.toNat]? = some x ∧ UU.cells 153 x = c153 v := ⟨(nth_out h).1, v, (nth_out h).2, rfl⟩
theorem obn153 {l : List (Vxlan_outer)} {i : Nat} {v : Vxlan_outer} (h : l[i]? = some v) : ∃ x : DD 153, (show List (DD 153) from l)[i]? = some x ∧ UU.cells 153 x = c153 v := ⟨v, h, rfl⟩

theorem ob155 {l : List (Vxlan_reader)} {i : Int} {v : Vxlan_reader} (h : nth l i = some v) : 0 ≤ i ∧ ∃ x : DD 155, (show List (DD 155) from l)[i.toNat]? = some x ∧ UU.cells 155 x = c155 v := ⟨(nth_out h).1, v, (nth_out h).2, rfl⟩
theorem obn155 {l : List (Vxlan_reader)} {i : Nat} {v : Vxlan_reader} (h : l[i]? = some v) : ∃ x : DD 155, (show List (DD 155) from l)[i]? = some x ∧ UU.cells 155 x = c155 v := ⟨v, h, rfl⟩

theorem cvb5 (l : List Int) : ∃ ns : List Int, flatL UU 5 (show List (DD 5) from l) = ns.map (fun n => (.v (.int .u8 n) : AV DD)) ∧ bstr l = ⟨(ns.map fun n => UInt8.ofNat n.toNat).toArray⟩ := ⟨l, by
  induction l with
  | nil => rfl
  | cons x l ih => exact congrArg (List.cons _) ih, rfl⟩

theorem cp_ob {n e : Nat} {l l2 : List (DD e)} {a b : Nat} : n = n ∧ ∃ xs : List (DD e), (AObj.arr e (l.take a ++ (l2.take (min l2.length (b - a)) ++ l.drop (a + min l2.length (b - a)))) n false) = .arr e (l.take a ++ (xs ++ l.drop (a + min l2.length (b - a)))) n false ∧ flatL UU e xs = flatL UU e (l2.take (min l2.length (b - a))) := ⟨rfl, _, rfl, rfl⟩
theorem cl_ob {n e : Nat} {l : List (DD e)} {a b : Nat} (y : DD e) : n = n ∧ ∃ y', (AObj.arr e (l.take a ++ (List.replicate (b - a) y ++ l.drop b)) n false) = .arr e (l.take a ++ (List.replicate (b - a) y' ++ l.drop b)) n false ∧ UU.cells e y' = UU.cells e y := ⟨rfl, y, rfl, rfl⟩
theorem st_ob {n e : Nat} {l : List (DD e)} {i : Nat} {A : Prop} (y : DD e) (r : List (AV DD)) (h : A) (hr : UU.cells e y = r) : n = n ∧ A ∧ ∃ y', (AObj.arr e (l.set i y) n false) = .arr e (l.set i y') n false ∧ UU.cells e y' = r := ⟨rfl, h, y, rfl, hr⟩
theorem bs_ob (e : Nat) (l : List (DD e)) : flatL UU e l = flatL UU e l ∧ l.length = l.length ∧ l.length = l.length := ⟨rfl, rfl, rfl⟩
theorem mk_ob {n m : Int} {b : Nat} (e : Nat) (z : DD e) (h : mkok b n m = true) : 0 ≤ n ∧ n ≤ m ∧ m * b ≤ 140737488355328 ∧ m < 9223372036854775808 ∧ ∃ y : DD e, List.replicate n.toNat z = List.replicate n.toNat y ∧ UU.cells e y = UU.cells e z := by
  have h := of_decide_eq_true h
  exact ⟨h.1, h.2.1, h.2.2.1, h.2.2.2, z, rfl, rfl⟩
theorem app_ob (e : Nat) {n b : Nat} {l xs : List (DD e)} (h : roomy b (l ++ xs) = true) : n = n ∧ (l ++ xs).length = (l ++ xs).length ∧ (l.length + xs.length) * b ≤ 140737488355328 ∧ l.length + xs.length < 9223372036854775808 ∧ ∃ xs', (AObj.arr e (l ++ xs) (l ++ xs).length false) = .arr e (l ++ xs') (l ++ xs).length false ∧ flatL UU e xs' = flatL UU e xs := by
  have h := of_decide_eq_true h
  rw [List.length_append] at h
  exact ⟨rfl, rfl, h.1, h.2, xs, rfl, rfl⟩
theorem apn_ob (e : Nat) {b : Nat} {l : List (DD e)} (h : roomy b l = true) : l.length * b ≤ 140737488355328 ∧ l.length < 9223372036854775808 ∧ l.length = l.length ∧ flatL UU e l = flatL UU e l ∧ l.length = l.length := by
  have h := of_decide_eq_true h
  exact ⟨h.1, h.2, rfl, rfl, rfl⟩

theorem mixedOrders : Tryz.prog.follows .mixedOrders = true := by kernel_rfl
@[reducible] def AV.z : AV DD := .v (.int .i64 0)
@[reducible] def AV.e : AV DD := .v (.string (⟨#[]⟩ : ByteArray))
@[reducible] def AObj.n (t : Nat) : AObj DD := .arr t [] 0 false
end Go.Eng
