/- Part of the proof of PortsKeeps: printed mirrors of the functions, or their contracts. No conditions. -/
import Derived.Test.YtgemllooojijnaaGreatMAM
import Derived.Test.YtgemllooojijnaaGreatProg
set_option linter.unusedVariables false
set_option maxRecDepth 100000
namespace Go.Eng
open Go Go.Proofs
def DD : Den := fun t => match t with
  | 3 => Int
  | 9 => ByteArray
  | 31 => Api_Net
  | 33 => Int
  | 37 => Api_Line
  | 57 => Api_Domain
  | 64 => Api_Device
  | 71 => Api_Port
  | 80 => Ports_draft
  | 87 => Api_Flood
  | 90 => Api_Vrf
  | 93 => Names_judge
  | 100 => Api_Link
  | 104 => Api_Static
  | 114 => Api_Prefix
  | 116 => Api_Irb
  | _ => Unit

def c3 (x : Int) : List (AV DD) := [.v (.int .i64 x)]

def c9 (x : ByteArray) : List (AV DD) := [.v (.string x)]

def c31 (x : Api_Net) : List (AV DD) := [.sl 64 x.devices, .sl 71 x.ports, .sl 100 x.links, .sl 57 x.domains, .sl 104 x.statics, .sl 87 x.floods, .sl 90 x.vrfs, .sl 116 x.irbs]

def c33 (x : Int) : List (AV DD) := [.v (.int .u32 x)]

def c37 (x : Api_Line) : List (AV DD) := [.v (.int .i64 x.row), .v (.int .i64 x.kind), .v (.string x.dev), .v (.string x.port), .v (.string x.peer), .v (.string x.far), .v (.string x.name), .v (.int .u64 x.mac), .v (.int .u32 x.addr), .v (.int .i64 x.bits), .v (.int .i64 x.vlan), .v (.int .i64 x.num), .v (.int .i64 x.cost), .sl 3 x.tagged, .sl 3 x.imports, .sl 3 x.exports, .sl 33 x.addrs]

def c57 (x : Api_Domain) : List (AV DD) := [.v (.int .i64 x.dev), .v (.int .i64 x.vlan), .v (.int .i64 x.vni), .v (.int .i64 x.irb), .v (.int .i64 x.row), .sl 3 x.peers]

def c64 (x : Api_Device) : List (AV DD) := [.v (.int .i64 x.row), .v (.int .i64 x.priority), .v (.string x.name), .v (.int .u64 x.mac), .v (.int .u32 x.vtep)]

def c71 (x : Api_Port) : List (AV DD) := [.v (.int .i64 x.row), .v (.int .i64 x.dev), .v (.int .i64 x.native), .v (.int .i64 x.cost), .v (.int .i64 x.link), .v (.string x.name), .sl 3 x.tagged]

def c80 (x : Ports_draft) : List (AV DD) := [.sl 64 x.net.devices, .sl 71 x.net.ports, .sl 100 x.net.links, .sl 57 x.net.domains, .sl 104 x.net.statics, .sl 87 x.net.floods, .sl 90 x.net.vrfs, .sl 116 x.net.irbs]

def c87 (x : Api_Flood) : List (AV DD) := [.v (.int .i64 x.row), .v (.int .i64 x.dev), .v (.int .i64 x.vni), .sl 33 x.addrs]

def c90 (x : Api_Vrf) : List (AV DD) := [.v (.int .i64 x.row), .v (.int .i64 x.dev), .v (.string x.name), .sl 3 x.imports, .sl 3 x.exports]

def c93 (x : Names_judge) : List (AV DD) := [.sl 64 x.n.devices, .sl 71 x.n.ports, .sl 100 x.n.links, .sl 57 x.n.domains, .sl 104 x.n.statics, .sl 87 x.n.floods, .sl 90 x.n.vrfs, .sl 116 x.n.irbs]

def c100 (x : Api_Link) : List (AV DD) := [.v (.int .i64 x.row), .v (.int .i64 x.a), .v (.int .i64 x.b)]

def c104 (x : Api_Static) : List (AV DD) := [.v (.int .i64 x.row), .v (.int .i64 x.domain), .v (.int .i64 x.port), .v (.int .u64 x.mac)]

def c114 (x : Api_Prefix) : List (AV DD) := [.v (.int .u32 x.addr), .v (.int .i64 x.bits)]

def c116 (x : Api_Irb) : List (AV DD) := [.v (.int .i64 x.row), .v (.int .i64 x.domain), .v (.int .i64 x.vrf), .v (.int .u32 x.net.addr), .v (.int .i64 x.net.bits)]

def cellsD : (t : Nat) → DD t → List (AV DD) := fun t => match t with
  | 3 => fun x => c3 x
  | 9 => fun x => c9 x
  | 31 => fun x => c31 x
  | 33 => fun x => c33 x
  | 37 => fun x => c37 x
  | 57 => fun x => c57 x
  | 64 => fun x => c64 x
  | 71 => fun x => c71 x
  | 80 => fun x => c80 x
  | 87 => fun x => c87 x
  | 90 => fun x => c90 x
  | 93 => fun x => c93 x
  | 100 => fun x => c100 x
  | 104 => fun x => c104 x
  | 114 => fun x => c114 x
  | 116 => fun x => c116 x
  | _ => fun _ => [.v (.bool true)]

def widthD : Nat → Nat := fun t => match t with
  | 3 => 1
  | 9 => 1
  | 31 => 8
  | 33 => 1
  | 37 => 17
  | 57 => 6
  | 64 => 5
  | 71 => 7
  | 80 => 8
  | 87 => 4
  | 90 => 5
  | 93 => 8
  | 100 => 3
  | 104 => 4
  | 114 => 2
  | 116 => 5
  | _ => 1

theorem cellsD_else {t : Nat} (x : DD t) (h : t ≠ 3 ∧ t ≠ 9 ∧ t ≠ 31 ∧ t ≠ 33 ∧ t ≠ 37 ∧ t ≠ 57 ∧ t ≠ 64 ∧ t ≠ 71 ∧ t ≠ 80 ∧ t ≠ 87 ∧ t ≠ 90 ∧ t ≠ 93 ∧ t ≠ 100 ∧ t ≠ 104 ∧ t ≠ 114 ∧ t ≠ 116) : cellsD t x = [.v (.bool true)] ∧ widthD t = 1 := by
  obtain ⟨h3, h9, h31, h33, h37, h57, h64, h71, h80, h87, h90, h93, h100, h104, h114, h116⟩ := h
  unfold cellsD widthD
  constructor
  · split <;> first | (exfalso; omega) | rfl
  · split <;> first | (exfalso; omega) | rfl

def UU : Univ DD where
  width := widthD
  cells := cellsD
  len t x := by
    by_cases h3 : t = 3
    · subst h3; rfl
    by_cases h9 : t = 9
    · subst h9; rfl
    by_cases h31 : t = 31
    · subst h31; rfl
    by_cases h33 : t = 33
    · subst h33; rfl
    by_cases h37 : t = 37
    · subst h37; rfl
    by_cases h57 : t = 57
    · subst h57; rfl
    by_cases h64 : t = 64
    · subst h64; rfl
    by_cases h71 : t = 71
    · subst h71; rfl
    by_cases h80 : t = 80
    · subst h80; rfl
    by_cases h87 : t = 87
    · subst h87; rfl
    by_cases h90 : t = 90
    · subst h90; rfl
    by_cases h93 : t = 93
    · subst h93; rfl
    by_cases h100 : t = 100
    · subst h100; rfl
    by_cases h104 : t = 104
    · subst h104; rfl
    by_cases h114 : t = 114
    · subst h114; rfl
    by_cases h116 : t = 116
    · subst h116; rfl
    rw [(cellsD_else x ⟨h3, h9, h31, h33, h37, h57, h64, h71, h80, h87, h90, h93, h100, h104, h114, h116⟩).1, (cellsD_else x ⟨h3, h9, h31, h33, h37, h57, h64, h71, h80, h87, h90, h93, h100, h104, h114, h116⟩).2]; rfl
  pos t := by
    by_cases h3 : t = 3
    · subst h3; exact Nat.le_of_ble_eq_true rfl
    by_cases h9 : t = 9
    · subst h9; exact Nat.le_of_ble_eq_true rfl
    by_cases h31 : t = 31
    · subst h31; exact Nat.le_of_ble_eq_true rfl
    by_cases h33 : t = 33
    · subst h33; exact Nat.le_of_ble_eq_true rfl
    by_cases h37 : t = 37
    · subst h37; exact Nat.le_of_ble_eq_true rfl
    by_cases h57 : t = 57
    · subst h57; exact Nat.le_of_ble_eq_true rfl
    by_cases h64 : t = 64
    · subst h64; exact Nat.le_of_ble_eq_true rfl
    by_cases h71 : t = 71
    · subst h71; exact Nat.le_of_ble_eq_true rfl
    by_cases h80 : t = 80
    · subst h80; exact Nat.le_of_ble_eq_true rfl
    by_cases h87 : t = 87
    · subst h87; exact Nat.le_of_ble_eq_true rfl
    by_cases h90 : t = 90
    · subst h90; exact Nat.le_of_ble_eq_true rfl
    by_cases h93 : t = 93
    · subst h93; exact Nat.le_of_ble_eq_true rfl
    by_cases h100 : t = 100
    · subst h100; exact Nat.le_of_ble_eq_true rfl
    by_cases h104 : t = 104
    · subst h104; exact Nat.le_of_ble_eq_true rfl
    by_cases h114 : t = 114
    · subst h114; exact Nat.le_of_ble_eq_true rfl
    by_cases h116 : t = 116
    · subst h116; exact Nat.le_of_ble_eq_true rfl
    unfold widthD; split <;> omega
  ok t x := by
    by_cases h3 : t = 3
    · subst h3; rfl
    by_cases h9 : t = 9
    · subst h9; rfl
    by_cases h31 : t = 31
    · subst h31; rfl
    by_cases h33 : t = 33
    · subst h33; rfl
    by_cases h37 : t = 37
    · subst h37; rfl
    by_cases h57 : t = 57
    · subst h57; rfl
    by_cases h64 : t = 64
    · subst h64; rfl
    by_cases h71 : t = 71
    · subst h71; rfl
    by_cases h80 : t = 80
    · subst h80; rfl
    by_cases h87 : t = 87
    · subst h87; rfl
    by_cases h90 : t = 90
    · subst h90; rfl
    by_cases h93 : t = 93
    · subst h93; rfl
    by_cases h100 : t = 100
    · subst h100; rfl
    by_cases h104 : t = 104
    · subst h104; rfl
    by_cases h114 : t = 114
    · subst h114; rfl
    by_cases h116 : t = 116
    · subst h116; rfl
    rw [(cellsD_else x ⟨h3, h9, h31, h33, h37, h57, h64, h71, h80, h87, h90, h93, h100, h104, h114, h116⟩).1]; rfl

theorem im_all {t : Nat} (h : ∀ x : DD t, (UU.cells t x).all immC = true) (l : List (DD t)) : (flatL UU t l).all immC = true := by
  induction l with
  | nil => rfl
  | cons x l ih => simp only [flatL, List.flatMap_cons, List.all_append, Bool.and_eq_true]; exact ⟨h x, ih⟩

theorem im3 (l : List (DD 3)) : (flatL UU 3 l).all immC = true := im_all (fun _ => rfl) l

theorem im9 (l : List (DD 9)) : (flatL UU 9 l).all immC = true := im_all (fun _ => rfl) l

theorem im33 (l : List (DD 33)) : (flatL UU 33 l).all immC = true := im_all (fun _ => rfl) l

theorem im64 (l : List (DD 64)) : (flatL UU 64 l).all immC = true := im_all (fun _ => rfl) l

theorem im100 (l : List (DD 100)) : (flatL UU 100 l).all immC = true := im_all (fun _ => rfl) l

theorem im104 (l : List (DD 104)) : (flatL UU 104 l).all immC = true := im_all (fun _ => rfl) l

theorem im114 (l : List (DD 114)) : (flatL UU 114 l).all immC = true := im_all (fun _ => rfl) l

theorem im116 (l : List (DD 116)) : (flatL UU 116 l).all immC = true := im_all (fun _ => rfl) l

theorem ob3 {l : List (Int)} {i : Int} {v : Int} (h : nth l i = some v) : 0 ≤ i ∧ ∃ x : DD 3, (show List (DD 3) from l)[i.toNat]? = some x ∧ UU.cells 3 x = c3 v := ⟨(nth_out h).1, v, (nth_out h).2, rfl⟩
theorem obn3 {l : List (Int)} {i : Nat} {v : Int} (h : l[i]? = some v) : ∃ x : DD 3, (show List (DD 3) from l)[i]? = some x ∧ UU.cells 3 x = c3 v := ⟨v, h, rfl⟩

theorem ob9 {l : List (ByteArray)} {i : Int} {v : ByteArray} (h : nth l i = some v) : 0 ≤ i ∧ ∃ x : DD 9, (show List (DD 9) from l)[i.toNat]? = some x ∧ UU.cells 9 x = c9 v := ⟨(nth_out h).1, v, (nth_out h).2, rfl⟩
theorem obn9 {l : List (ByteArray)} {i : Nat} {v : ByteArray} (h : l[i]? = some v) : ∃ x : DD 9, (show List (DD 9) from l)[i]? = some x ∧ UU.cells 9 x = c9 v := ⟨v, h, rfl⟩

theorem ob31 {l : List (Api_Net)} {i : Int} {v : Api_Net} (h : nth l i = some v) : 0 ≤ i ∧ ∃ x : DD 31, (show List (DD 31) from l)[i.toNat]? = some x ∧ UU.cells 31 x = c31 v := ⟨(nth_out h).1, v, (nth_out h).2, rfl⟩
theorem obn31 {l : List (Api_Net)} {i : Nat} {v : Api_Net} (h : l[i]? = some v) : ∃ x : DD 31, (show List (DD 31) from l)[i]? = some x ∧ UU.cells 31 x = c31 v := ⟨v, h, rfl⟩

theorem ob33 {l : List (Int)} {i : Int} {v : Int} (h : nth l i = some v) : 0 ≤ i ∧ ∃ x : DD 33, (show List (DD 33) from l)[i.toNat]? = some x ∧ UU.cells 33 x = c33 v := ⟨(nth_out h).1, v, (nth_out h).2, rfl⟩
theorem obn33 {l : List (Int)} {i : Nat} {v : Int} (h : l[i]? = some v) : ∃ x : DD 33, (show List (DD 33) from l)[i]? = some x ∧ UU.cells 33 x = c33 v := ⟨v, h, rfl⟩

theorem ob37 {l : List (Api_Line)} {i : Int} {v : Api_Line} (h : nth l i = some v) : 0 ≤ i ∧ ∃ x : DD 37, (show List (DD 37) from l)[i.toNat]? = some x ∧ UU.cells 37 x = c37 v := ⟨(nth_out h).1, v, (nth_out h).2, rfl⟩
theorem obn37 {l : List (Api_Line)} {i : Nat} {v : Api_Line} (h : l[i]? = some v) : ∃ x : DD 37, (show List (DD 37) from l)[i]? = some x ∧ UU.cells 37 x = c37 v := ⟨v, h, rfl⟩

theorem ob57 {l : List (Api_Domain)} {i : Int} {v : Api_Domain} (h : nth l i = some v) : 0 ≤ i ∧ ∃ x : DD 57, (show List (DD 57) from l)[i.toNat]? = some x ∧ UU.cells 57 x = c57 v := ⟨(nth_out h).1, v, (nth_out h).2, rfl⟩
theorem obn57 {l : List (Api_Domain)} {i : Nat} {v : Api_Domain} (h : l[i]? = some v) : ∃ x : DD 57, (show List (DD 57) from l)[i]? = some x ∧ UU.cells 57 x = c57 v := ⟨v, h, rfl⟩

theorem ob64 {l : List (Api_Device)} {i : Int} {v : Api_Device} (h : nth l i = some v) : 0 ≤ i ∧ ∃ x : DD 64, (show List (DD 64) from l)[i.toNat]? = some x ∧ UU.cells 64 x = c64 v := ⟨(nth_out h).1, v, (nth_out h).2, rfl⟩
theorem obn64 {l : List (Api_Device)} {i : Nat} {v : Api_Device} (h : l[i]? = some v) : ∃ x : DD 64, (show List (DD 64) from l)[i]? = some x ∧ UU.cells 64 x = c64 v := ⟨v, h, rfl⟩

theorem ob71 {l : List (Api_Port)} {i : Int} {v : Api_Port} (h : nth l i = some v) : 0 ≤ i ∧ ∃ x : DD 71, (show List (DD 71) from l)[i.toNat]? = some x ∧ UU.cells 71 x = c71 v := ⟨(nth_out h).1, v, (nth_out h).2, rfl⟩
theorem obn71 {l : List (Api_Port)} {i : Nat} {v : Api_Port} (h : l[i]? = some v) : ∃ x : DD 71, (show List (DD 71) from l)[i]? = some x ∧ UU.cells 71 x = c71 v := ⟨v, h, rfl⟩

theorem ob80 {l : List (Ports_draft)} {i : Int} {v : Ports_draft} (h : nth l i = some v) : 0 ≤ i ∧ ∃ x : DD 80, (show List (DD 80) from l)[i.toNat]? = some x ∧ UU.cells 80 x = c80 v := ⟨(nth_out h).1, v, (nth_out h).2, rfl⟩
theorem obn80 {l : List (Ports_draft)} {i : Nat} {v : Ports_draft} (h : l[i]? = some v) : ∃ x : DD 80, (show List (DD 80) from l)[i]? = some x ∧ UU.cells 80 x = c80 v := ⟨v, h, rfl⟩

theorem ob87 {l : List (Api_Flood)} {i : Int} {v : Api_Flood} (h : nth l i = some v) : 0 ≤ i ∧ ∃ x : DD 87, (show List (DD 87) from l)[i.toNat]? = some x ∧ UU.cells 87 x = c87 v := ⟨(nth_out h).1, v, (nth_out h).2, rfl⟩
theorem obn87 {l : List (Api_Flood)} {i : Nat} {v : Api_Flood} (h : l[i]? = some v) : ∃ x : DD 87, (show List (DD 87) from l)[i]? = some x ∧ UU.cells 87 x = c87 v := ⟨v, h, rfl⟩

theorem ob90 {l : List (Api_Vrf)} {i : Int} {v : Api_Vrf} (h : nth l i = some v) : 0 ≤ i ∧ ∃ x : DD 90, (show List (DD 90) from l)[i.toNat]? = some x ∧ UU.cells 90 x = c90 v := ⟨(nth_out h).1, v, (nth_out h).2, rfl⟩
theorem obn90 {l : List (Api_Vrf)} {i : Nat} {v : Api_Vrf} (h : l[i]? = some v) : ∃ x : DD 90, (show List (DD 90) from l)[i]? = some x ∧ UU.cells 90 x = c90 v := ⟨v, h, rfl⟩

theorem ob93 {l : List (Names_judge)} {i : Int} {v : Names_judge} (h : nth l i = some v) : 0 ≤ i ∧ ∃ x : DD 93, (show List (DD 93) from l)[i.toNat]? = some x ∧ UU.cells 93 x = c93 v := ⟨(nth_out h).1, v, (nth_out h).2, rfl⟩
theorem obn93 {l : List (Names_judge)} {i : Nat} {v : Names_judge} (h : l[i]? = some v) : ∃ x : DD 93, (show List (DD 93) from l)[i]? = some x ∧ UU.cells 93 x = c93 v := ⟨v, h, rfl⟩

theorem ob100 {l : List (Api_Link)} {i : Int} {v : Api_Link} (h : nth l i = some v) : 0 ≤ i ∧ ∃ x : DD 100, (show List (DD 100) from l)[i.toNat]? = some x ∧ UU.cells 100 x = c100 v := ⟨(nth_out h).1, v, (nth_out h).2, rfl⟩
theorem obn100 {l : List (Api_Link)} {i : Nat} {v : Api_Link} (h : l[i]? = some v) : ∃ x : DD 100, (show List (DD 100) from l)[i]? = some x ∧ UU.cells 100 x = c100 v := ⟨v, h, rfl⟩

theorem ob104 {l : List (Api_Static)} {i : Int} {v : Api_Static} (h : nth l i = some v) : 0 ≤ i ∧ ∃ x : DD 104, (show List (DD 104) from l)[i.toNat]? = some x ∧ UU.cells 104 x = c104 v := ⟨(nth_out h).1, v, (nth_out h).2, rfl⟩
theorem obn104 {l : List (Api_Static)} {i : Nat} {v : Api_Static} (h : l[i]? = some v) : ∃ x : DD 104, (show List (DD 104) from l)[i]? = some x ∧ UU.cells 104 x = c104 v := ⟨v, h, rfl⟩

theorem ob114 {l : List (Api_Prefix)} {i : Int} {v : Api_Prefix} (h : nth l i = some v) : 0 ≤ i ∧ ∃ x : DD 114, (show List (DD 114) from l)[i.toNat]? = some x ∧ UU.cells 114 x = c114 v := ⟨(nth_out h).1, v, (nth_out h).2, rfl⟩
theorem obn114 {l : List (Api_Prefix)} {i : Nat} {v : Api_Prefix} (h : l[i]? = some v) : ∃ x : DD 114, (show List (DD 114) from l)[i]? = some x ∧ UU.cells 114 x = c114 v := ⟨v, h, rfl⟩

theorem ob116 {l : List (Api_Irb)} {i : Int} {v : Api_Irb} (h : nth l i = some v) : 0 ≤ i ∧ ∃ x : DD 116, (show List (DD 116) from l)[i.toNat]? = some x ∧ UU.cells 116 x = c116 v := ⟨(nth_out h).1, v, (nth_out h).2, rfl⟩
theorem obn116 {l : List (Api_Irb)} {i : Nat} {v : Api_Irb} (h : l[i]? = some v) : ∃ x : DD 116, (show List (DD 116) from l)[i]? = some x ∧ UU.cells 116 x = c116 v := ⟨v, h, rfl⟩

theorem cp_ob {n e : Nat} {l l2 : List (DD e)} {a b : Nat} : n = n ∧ ∃ xs : List (DD e), (AObj.arr e (l.take a ++ (l2.take (min l2.length (b - a)) ++ l.drop (a + min l2.length (b - a)))) n false) = .arr e (l.take a ++ (xs ++ l.drop (a + min l2.length (b - a)))) n false ∧ flatL UU e xs = flatL UU e (l2.take (min l2.length (b - a))) := ⟨rfl, _, rfl, rfl⟩
theorem cl_ob {n e : Nat} {l : List (DD e)} {a b : Nat} (y : DD e) : n = n ∧ ∃ y', (AObj.arr e (l.take a ++ (List.replicate (b - a) y ++ l.drop b)) n false) = .arr e (l.take a ++ (List.replicate (b - a) y' ++ l.drop b)) n false ∧ UU.cells e y' = UU.cells e y := ⟨rfl, y, rfl, rfl⟩
theorem st_ob {n e : Nat} {l : List (DD e)} {i : Nat} {A : Prop} (y : DD e) (r : List (AV DD)) (h : A) (hr : UU.cells e y = r) : n = n ∧ A ∧ ∃ y', (AObj.arr e (l.set i y) n false) = .arr e (l.set i y') n false ∧ UU.cells e y' = r := ⟨rfl, h, y, rfl, hr⟩
theorem bs_ob (e : Nat) (l : List (DD e)) : flatL UU e l = flatL UU e l ∧ l.length = l.length ∧ l.length = l.length := ⟨rfl, rfl, rfl⟩
theorem mk_ob {n m : Int} {b : Nat} (e : Nat) (z : DD e) (h : mkok b n m = true) : 0 ≤ n ∧ n ≤ m ∧ m * b ≤ 140737488355328 ∧ m < 9223372036854775808 ∧ ∃ y : DD e, List.replicate n.toNat z = List.replicate n.toNat y ∧ UU.cells e y = UU.cells e z := by
  have h := of_decide_eq_true h
  exact ⟨h.1, h.2.1, h.2.2.1, h.2.2.2, z, rfl, rfl⟩
theorem app_ob (e : Nat) {n b : Nat} {l xs : List (DD e)} (h : roomy b (l ++ xs) = true) : n = n ∧ (l ++ xs).length = (l ++ xs).length ∧ (l.length + xs.length) * b ≤ 140737488355328 ∧ l.length + xs.length < 9223372036854775808 ∧ ∃ xs', (AObj.arr e (l ++ xs) (l ++ xs).length false) = .arr e (l ++ xs') (l ++ xs).length false ∧ flatL UU e xs' = flatL UU e xs := by
  have h := of_decide_eq_true h
  rw [List.length_append] at h
  exact ⟨rfl, rfl, h.1, h.2, xs, rfl, rfl⟩
theorem apn_ob (e : Nat) {b : Nat} {l : List (DD e)} (h : roomy b l = true) : l.length * b ≤ 140737488355328 ∧ l.length < 9223372036854775808 ∧ l.length = l.length ∧ flatL UU e l = flatL UU e l ∧ l.length = l.length := by
  have h := of_decide_eq_true h
  exact ⟨h.1, h.2, rfl, rfl, rfl⟩

theorem mixedOrders : Tryz.prog.follows .mixedOrders = true := by kernel_rfl
@[reducible] def AV.z : AV DD := .v (.int .i64 0)
@[reducible] def AV.e : AV DD := .v (.string (⟨#[]⟩ : ByteArray))
@[reducible] def AObj.n (t : Nat) : AObj DD := .arr t [] 0 false
end Go.Eng
