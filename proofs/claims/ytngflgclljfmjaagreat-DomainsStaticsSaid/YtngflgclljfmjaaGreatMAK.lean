/- Part of the proof of DomainsStatics: printed mirrors of the functions, or their contracts. No conditions. -/
import Derived.Test.YtngflgclljfmjaaGreatMAM
import Derived.Test.YtngflgclljfmjaaGreatProg
import Derived.Test.YtngflgclljfmjaaGreatEngJ
set_option linter.unusedVariables false
set_option maxRecDepth 100000
namespace Go.Eng
open Go Go.Proofs
def DD : Den := fun t => match t with
  | 3 => Int
  | 5 => Int
  | 9 => ByteArray
  | 31 => Api_Net
  | 32 => Int
  | 33 => Int
  | 37 => Api_Line
  | 56 => Api_Port
  | 91 => Api_Device
  | 93 => Api_Domain
  | 97 => Api_Static
  | 100 => Api_Flood
  | 103 => Api_Vrf
  | 112 => Api_Link
  | 116 => Api_Prefix
  | 118 => Api_Irb
  | 132 => Names_judge
  | _ => Unit

def c3 (x : Int) : List (AV DD) := [.v (.int .i64 x)]

def c5 (x : Int) : List (AV DD) := [.v (.int .u8 x)]

def c9 (x : ByteArray) : List (AV DD) := [.v (.string x)]

def c31 (x : Api_Net) : List (AV DD) := [.sl 91 x.devices, .sl 56 x.ports, .sl 112 x.links, .sl 93 x.domains, .sl 97 x.statics, .sl 100 x.floods, .sl 103 x.vrfs, .sl 118 x.irbs]

def c32 (x : Int) : List (AV DD) := [.v (.int .u64 x)]

def c33 (x : Int) : List (AV DD) := [.v (.int .u32 x)]

def c37 (x : Api_Line) : List (AV DD) := [.v (.int .i64 x.row), .v (.int .i64 x.kind), .v (.string x.dev), .v (.string x.port), .v (.string x.peer), .v (.string x.far), .v (.string x.name), .v (.int .u64 x.mac), .v (.int .u32 x.addr), .v (.int .i64 x.bits), .v (.int .i64 x.vlan), .v (.int .i64 x.num), .v (.int .i64 x.cost), .sl 3 x.tagged, .sl 3 x.imports, .sl 3 x.exports, .sl 33 x.addrs]

def c56 (x : Api_Port) : List (AV DD) := [.v (.int .i64 x.row), .v (.int .i64 x.dev), .v (.int .i64 x.native), .v (.int .i64 x.cost), .v (.int .i64 x.link), .v (.string x.name), .sl 3 x.tagged]

def c91 (x : Api_Device) : List (AV DD) := [.v (.int .i64 x.row), .v (.int .i64 x.priority), .v (.string x.name), .v (.int .u64 x.mac), .v (.int .u32 x.vtep)]

def c93 (x : Api_Domain) : List (AV DD) := [.v (.int .i64 x.dev), .v (.int .i64 x.vlan), .v (.int .i64 x.vni), .v (.int .i64 x.irb), .v (.int .i64 x.row), .sl 3 x.peers]

def c97 (x : Api_Static) : List (AV DD) := [.v (.int .i64 x.row), .v (.int .i64 x.domain), .v (.int .i64 x.port), .v (.int .u64 x.mac)]

def c100 (x : Api_Flood) : List (AV DD) := [.v (.int .i64 x.row), .v (.int .i64 x.dev), .v (.int .i64 x.vni), .sl 33 x.addrs]

def c103 (x : Api_Vrf) : List (AV DD) := [.v (.int .i64 x.row), .v (.int .i64 x.dev), .v (.string x.name), .sl 3 x.imports, .sl 3 x.exports]

def c112 (x : Api_Link) : List (AV DD) := [.v (.int .i64 x.row), .v (.int .i64 x.a), .v (.int .i64 x.b)]

def c116 (x : Api_Prefix) : List (AV DD) := [.v (.int .u32 x.addr), .v (.int .i64 x.bits)]

def c118 (x : Api_Irb) : List (AV DD) := [.v (.int .i64 x.row), .v (.int .i64 x.domain), .v (.int .i64 x.vrf), .v (.int .u32 x.net.addr), .v (.int .i64 x.net.bits)]

def c132 (x : Names_judge) : List (AV DD) := [.sl 91 x.n.devices, .sl 56 x.n.ports, .sl 112 x.n.links, .sl 93 x.n.domains, .sl 97 x.n.statics, .sl 100 x.n.floods, .sl 103 x.n.vrfs, .sl 118 x.n.irbs]

def cellsD : (t : Nat) → DD t → List (AV DD) := fun t => match t with
  | 3 => fun x => c3 x
  | 5 => fun x => c5 x
  | 9 => fun x => c9 x
  | 31 => fun x => c31 x
  | 32 => fun x => c32 x
  | 33 => fun x => c33 x
  | 37 => fun x => c37 x
  | 56 => fun x => c56 x
  | 91 => fun x => c91 x
  | 93 => fun x => c93 x
  | 97 => fun x => c97 x
  | 100 => fun x => c100 x
  | 103 => fun x => c103 x
  | 112 => fun x => c112 x
  | 116 => fun x => c116 x
  | 118 => fun x => c118 x
  | 132 => fun x => c132 x
  | _ => fun _ => [.v (.bool true)]

def widthD : Nat → Nat := fun t => match t with
  | 3 => 1
  | 5 => 1
  | 9 => 1
  | 31 => 8
  | 32 => 1
  | 33 => 1
  | 37 => 17
  | 56 => 7
  | 91 => 5
  | 93 => 6
  | 97 => 4
  | 100 => 4
  | 103 => 5
  | 112 => 3
  | 116 => 2
  | 118 => 5
  | 132 => 8
  | _ => 1

theorem cellsD_else {t : Nat} (x : DD t) (h : t ≠ 3 ∧ t ≠ 5 ∧ t ≠ 9 ∧ t ≠ 31 ∧ t ≠ 32 ∧ t ≠ 33 ∧ t ≠ 37 ∧ t ≠ 56 ∧ t ≠ 91 ∧ t ≠ 93 ∧ t ≠ 97 ∧ t ≠ 100 ∧ t ≠ 103 ∧ t ≠ 112 ∧ t ≠ 116 ∧ t ≠ 118 ∧ t ≠ 132) : cellsD t x = [.v (.bool true)] ∧ widthD t = 1 := by
  obtain ⟨h3, h5, h9, h31, h32, h33, h37, h56, h91, h93, h97, h100, h103, h112, h116, h118, h132⟩ := h
  unfold cellsD widthD
  constructor
  · split <;> first | (exfalso; omega) | rfl
  · split <;> first | (exfalso; omega) | rfl

def UU : Univ DD where
  width := widthD
  cells := cellsD
  len t x := by
    by_cases h3 : t = 3
    · subst h3; rfl
    by_cases h5 : t = 5
    · subst h5; rfl
    by_cases h9 : t = 9
    · subst h9; rfl
    by_cases h31 : t = 31
    · subst h31; rfl
    by_cases h32 : t = 32
    · subst h32; rfl
    by_cases h33 : t = 33
    · subst h33; rfl
    by_cases h37 : t = 37
    · subst h37; rfl
    by_cases h56 : t = 56
    · subst h56; rfl
    by_cases h91 : t = 91
    · subst h91; rfl
    by_cases h93 : t = 93
    · subst h93; rfl
    by_cases h97 : t = 97
    · subst h97; rfl
    by_cases h100 : t = 100
    · subst h100; rfl
    by_cases h103 : t = 103
    · subst h103; rfl
    by_cases h112 : t = 112
    · subst h112; rfl
    by_cases h116 : t = 116
    · subst h116; rfl
    by_cases h118 : t = 118
    · subst h118; rfl
    by_cases h132 : t = 132
    · subst h132; rfl
    rw [(cellsD_else x ⟨h3, h5, h9, h31, h32, h33, h37, h56, h91, h93, h97, h100, h103, h112, h116, h118, h132⟩).1, (cellsD_else x ⟨h3, h5, h9, h31, h32, h33, h37, h56, h91, h93, h97, h100, h103, h112, h116, h118, h132⟩).2]; rfl
  pos t := by
    by_cases h3 : t = 3
    · subst h3; exact Nat.le_of_ble_eq_true rfl
    by_cases h5 : t = 5
    · subst h5; exact Nat.le_of_ble_eq_true rfl
    by_cases h9 : t = 9
    · subst h9; exact Nat.le_of_ble_eq_true rfl
    by_cases h31 : t = 31
    · subst h31; exact Nat.le_of_ble_eq_true rfl
    by_cases h32 : t = 32
    · subst h32; exact Nat.le_of_ble_eq_true rfl
    by_cases h33 : t = 33
    · subst h33; exact Nat.le_of_ble_eq_true rfl
    by_cases h37 : t = 37
    · subst h37; exact Nat.le_of_ble_eq_true rfl
    by_cases h56 : t = 56
    · subst h56; exact Nat.le_of_ble_eq_true rfl
    by_cases h91 : t = 91
    · subst h91; exact Nat.le_of_ble_eq_true rfl
    by_cases h93 : t = 93
    · subst h93; exact Nat.le_of_ble_eq_true rfl
    by_cases h97 : t = 97
    · subst h97; exact Nat.le_of_ble_eq_true rfl
    by_cases h100 : t = 100
    · subst h100; exact Nat.le_of_ble_eq_true rfl
    by_cases h103 : t = 103
    · subst h103; exact Nat.le_of_ble_eq_true rfl
    by_cases h112 : t = 112
    · subst h112; exact Nat.le_of_ble_eq_true rfl
    by_cases h116 : t = 116
    · subst h116; exact Nat.le_of_ble_eq_true rfl
    by_cases h118 : t = 118
    · subst h118; exact Nat.le_of_ble_eq_true rfl
    by_cases h132 : t = 132
    · subst h132; exact Nat.le_of_ble_eq_true rfl
    unfold widthD; split <;> omega
  ok t x := by
    by_cases h3 : t = 3
    · subst h3; rfl
    by_cases h5 : t = 5
    · subst h5; rfl
    by_cases h9 : t = 9
    · subst h9; rfl
    by_cases h31 : t = 31
    · subst h31; rfl
    by_cases h32 : t = 32
    · subst h32; rfl
    by_cases h33 : t = 33
    · subst h33; rfl
    by_cases h37 : t = 37
    · subst h37; rfl
    by_cases h56 : t = 56
    · subst h56; rfl
    by_cases h91 : t = 91
    · subst h91; rfl
    by_cases h93 : t = 93
    · subst h93; rfl
    by_cases h97 : t = 97
    · subst h97; rfl
    by_cases h100 : t = 100
    · subst h100; rfl
    by_cases h103 : t = 103
    · subst h103; rfl
    by_cases h112 : t = 112
    · subst h112; rfl
    by_cases h116 : t = 116
    · subst h116; rfl
    by_cases h118 : t = 118
    · subst h118; rfl
    by_cases h132 : t = 132
    · subst h132; rfl
    rw [(cellsD_else x ⟨h3, h5, h9, h31, h32, h33, h37, h56, h91, h93, h97, h100, h103, h112, h116, h118, h132⟩).1]; rfl

theorem im_all {t : Nat} (h : ∀ x : DD t, (UU.cells t x).all immC = true) (l : List (DD t)) : (flatL UU t l).all immC = true := by
  induction l with
  | nil => rfl
  | cons x l ih => simp only [flatL, List.flatMap_cons, List.all_append, Bool.and_eq_true]; exact ⟨h x, ih⟩

theorem im3 (l : List (DD 3)) : (flatL UU 3 l).all immC = true := im_all (fun _ => rfl) l

theorem im5 (l : List (DD 5)) : (flatL UU 5 l).all immC = true := im_all (fun _ => rfl) l

theorem im9 (l : List (DD 9)) : (flatL UU 9 l).all immC = true := im_all (fun _ => rfl) l

theorem im32 (l : List (DD 32)) : (flatL UU 32 l).all immC = true := im_all (fun _ => rfl) l

theorem im33 (l : List (DD 33)) : (flatL UU 33 l).all immC = true := im_all (fun _ => rfl) l

theorem im91 (l : List (DD 91)) : (flatL UU 91 l).all immC = true := im_all (fun _ => rfl) l

theorem im97 (l : List (DD 97)) : (flatL UU 97 l).all immC = true := im_all (fun _ => rfl) l

theorem im112 (l : List (DD 112)) : (flatL UU 112 l).all immC = true := im_all (fun _ => rfl) l

theorem im116 (l : List (DD 116)) : (flatL UU 116 l).all immC = true := im_all (fun _ => rfl) l

theorem im118 (l : List (DD 118)) : (flatL UU 118 l).all immC = true := im_all (fun _ => rfl) l

theorem ob3 {l : List (Int)} {i : Int} {v : Int} (h : nth l i = some v) : 0 ≤ i ∧ ∃ x : DD 3, (show List (DD 3) from l)[i.toNat]? = some x ∧ UU.cells 3 x = c3 v := ⟨(nth_out h).1, v, (nth_out h).2, rfl⟩
theorem obn3 {l : List (Int)} {i : Nat} {v : Int} (h : l[i]? = some v) : ∃ x : DD 3, (show List (DD 3) from l)[i]? = some x ∧ UU.cells 3 x = c3 v := ⟨v, h, rfl⟩

theorem ob5 {l : List (Int)} {i : Int} {v : Int} (h : nth l i = some v) : 0 ≤ i ∧ ∃ x : DD 5, (show List (DD 5) from l)[i.toNat]? = some x ∧ UU.cells 5 x = c5 v := ⟨(nth_out h).1, v, (nth_out h).2, rfl⟩
theorem obn5 {l : List (Int)} {i : Nat} {v : Int} (h : l[i]? = some v) : ∃ x : DD 5, (show List (DD 5) from l)[i]? = some x ∧ UU.cells 5 x = c5 v := ⟨v, h, rfl⟩

theorem ob9 {l : List (ByteArray)} {i : Int} {v : ByteArray} (h : nth l i = some v) : 0 ≤ i ∧ ∃ x : DD 9, (show List (DD 9) from l)[i.toNat]? = some x ∧ UU.cells 9 x = c9 v := ⟨(nth_out h).1, v, (nth_out h).2, rfl⟩
theorem obn9 {l : List (ByteArray)} {i : Nat} {v : ByteArray} (h : l[i]? = some v) : ∃ x : DD 9, (show List (DD 9) from l)[i]? = some x ∧ UU.cells 9 x = c9 v := ⟨v, h, rfl⟩

theorem ob31 {l : List (Api_Net)} {i : Int} {v : Api_Net} (h : nth l i = some v) : 0 ≤ i ∧ ∃ x : DD 31, (show List (DD 31) from l)[i.toNat]? = some x ∧ UU.cells 31 x = c31 v := ⟨(nth_out h).1, v, (nth_out h).2, rfl⟩
theorem obn31 {l : List (Api_Net)} {i : Nat} {v : Api_Net} (h : l[i]? = some v) : ∃ x : DD 31, (show List (DD 31) from l)[i]? = some x ∧ UU.cells 31 x = c31 v := ⟨v, h, rfl⟩

theorem ob32 {l : List (Int)} {i : Int} {v : Int} (h : nth l i = some v) : 0 ≤ i ∧ ∃ x : DD 32, (show List (DD 32) from l)[i.toNat]? = some x ∧ UU.cells 32 x = c32 v := ⟨(nth_out h).1, v, (nth_out h).2, rfl⟩
theorem obn32 {l : List (Int)} {i : Nat} {v : Int} (h : l[i]? = some v) : ∃ x : DD 32, (show List (DD 32) from l)[i]? = some x ∧ UU.cells 32 x = c32 v := ⟨v, h, rfl⟩

theorem ob33 {l : List (Int)} {i : Int} {v : Int} (h : nth l i = some v) : 0 ≤ i ∧ ∃ x : DD 33, (show List (DD 33) from l)[i.toNat]? = some x ∧ UU.cells 33 x = c33 v := ⟨(nth_out h).1, v, (nth_out h).2, rfl⟩
theorem obn33 {l : List (Int)} {i : Nat} {v : Int} (h : l[i]? = some v) : ∃ x : DD 33, (show List (DD 33) from l)[i]? = some x ∧ UU.cells 33 x = c33 v := ⟨v, h, rfl⟩

theorem ob37 {l : List (Api_Line)} {i : Int} {v : Api_Line} (h : nth l i = some v) : 0 ≤ i ∧ ∃ x : DD 37, (show List (DD 37) from l)[i.toNat]? = some x ∧ UU.cells 37 x = c37 v := ⟨(nth_out h).1, v, (nth_out h).2, rfl⟩
theorem obn37 {l : List (Api_Line)} {i : Nat} {v : Api_Line} (h : l[i]? = some v) : ∃ x : DD 37, (show List (DD 37) from l)[i]? = some x ∧ UU.cells 37 x = c37 v := ⟨v, h, rfl⟩

theorem ob56 {l : List (Api_Port)} {i : Int} {v : Api_Port} (h : nth l i = some v) : 0 ≤ i ∧ ∃ x : DD 56, (show List (DD 56) from l)[i.toNat]? = some x ∧ UU.cells 56 x = c56 v := ⟨(nth_out h).1, v, (nth_out h).2, rfl⟩
theorem obn56 {l : List (Api_Port)} {i : Nat} {v : Api_Port} (h : l[i]? = some v) : ∃ x : DD 56, (show List (DD 56) from l)[i]? = some x ∧ UU.cells 56 x = c56 v := ⟨v, h, rfl⟩

theorem ob91 {l : List (Api_Device)} {i : Int} {v : Api_Device} (h : nth l i = some v) : 0 ≤ i ∧ ∃ x : DD 91, (show List (DD 91) from l)[i.toNat]? = some x ∧ UU.cells 91 x = c91 v := ⟨(nth_out h).1, v, (nth_out h).2, rfl⟩
theorem obn91 {l : List (Api_Device)} {i : Nat} {v : Api_Device} (h : l[i]? = some v) : ∃ x : DD 91, (show List (DD 91) from l)[i]? = some x ∧ UU.cells 91 x = c91 v := ⟨v, h, rfl⟩

theorem ob93 {l : List (Api_Domain)} {i : Int} {v : Api_Domain} (h : nth l i = some v) : 0 ≤ i ∧ ∃ x : DD 93, (show List (DD 93) from l)[i.toNat]? = some x ∧ UU.cells 93 x = c93 v := ⟨(nth_out h).1, v, (nth_out h).2, rfl⟩
theorem obn93 {l : List (Api_Domain)} {i : Nat} {v : Api_Domain} (h : l[i]? = some v) : ∃ x : DD 93, (show List (DD 93) from l)[i]? = some x ∧ UU.cells 93 x = c93 v := ⟨v, h, rfl⟩

theorem ob97 {l : List (Api_Static)} {i : Int} {v : Api_Static} (h : nth l i = some v) : 0 ≤ i ∧ ∃ x : DD 97, (show List (DD 97) from l)[i.toNat]? = some x ∧ UU.cells 97 x = c97 v := ⟨(nth_out h).1, v, (nth_out h).2, rfl⟩
theorem obn97 {l : List (Api_Static)} {i : Nat} {v : Api_Static} (h : l[i]? = some v) : ∃ x : DD 97, (show List (DD 97) from l)[i]? = some x ∧ UU.cells 97 x = c97 v := ⟨v, h, rfl⟩

theorem ob100 {l : List (Api_Flood)} {i : Int} {v : Api_Flood} (h : nth l i = some v) : 0 ≤ i ∧ ∃ x : DD 100, (show List (DD 100) from l)[i.toNat]? = some x ∧ UU.cells 100 x = c100 v := ⟨(nth_out h).1, v, (nth_out h).2, rfl⟩
theorem obn100 {l : List (Api_Flood)} {i : Nat} {v : Api_Flood} (h : l[i]? = some v) : ∃ x : DD 100, (show List (DD 100) from l)[i]? = some x ∧ UU.cells 100 x = c100 v := ⟨v, h, rfl⟩

theorem ob103 {l : List (Api_Vrf)} {i : Int} {v : Api_Vrf} (h : nth l i = some v) : 0 ≤ i ∧ ∃ x : DD 103, (show List (DD 103) from l)[i.toNat]? = some x ∧ UU.cells 103 x = c103 v := ⟨(nth_out h).1, v, (nth_out h).2, rfl⟩
theorem obn103 {l : List (Api_Vrf)} {i : Nat} {v : Api_Vrf} (h : l[i]? = some v) : ∃ x : DD 103, (show List (DD 103) from l)[i]? = some x ∧ UU.cells 103 x = c103 v := ⟨v, h, rfl⟩

theorem ob112 {l : List (Api_Link)} {i : Int} {v : Api_Link} (h : nth l i = some v) : 0 ≤ i ∧ ∃ x : DD 112, (show List (DD 112) from l)[i.toNat]? = some x ∧ UU.cells 112 x = c112 v := ⟨(nth_out h).1, v, (nth_out h).2, rfl⟩
theorem obn112 {l : List (Api_Link)} {i : Nat} {v : Api_Link} (h : l[i]? = some v) : ∃ x : DD 112, (show List (DD 112) from l)[i]? = some x ∧ UU.cells 112 x = c112 v := ⟨v, h, rfl⟩

theorem ob116 {l : List (Api_Prefix)} {i : Int} {v : Api_Prefix} (h : nth l i = some v) : 0 ≤ i ∧ ∃ x : DD 116, (show List (DD 116) from l)[i.toNat]? = some x ∧ UU.cells 116 x = c116 v := ⟨(nth_out h).1, v, (nth_out h).2, rfl⟩
theorem obn116 {l : List (Api_Prefix)} {i : Nat} {v : Api_Prefix} (h : l[i]? = some v) : ∃ x : DD 116, (show List (DD 116) from l)[i]? = some x ∧ UU.cells 116 x = c116 v := ⟨v, h, rfl⟩

theorem ob118 {l : List (Api_Irb)} {i : Int} {v : Api_Irb} (h : nth l i = some v) : 0 ≤ i ∧ ∃ x : DD 118, (show List (DD 118) from l)[i.toNat]? = some x ∧ UU.cells 118 x = c118 v := ⟨(nth_out h).1, v, (nth_out h).2, rfl⟩
theorem obn118 {l : List (Api_Irb)} {i : Nat} {v : Api_Irb} (h : l[i]? = some v) : ∃ x : DD 118, (show List (DD 118) from l)[i]? = some x ∧ UU.cells 118 x = c118 v := ⟨v, h, rfl⟩

theorem ob132 {l : List (Names_judge)} {i : Int} {v : Names_judge} (h : nth l i = some v) : 0 ≤ i ∧ ∃ x : DD 132, (show List (DD 132) from l)[i.toNat]? = some x ∧ UU.cells 132 x = c132 v := ⟨(nth_out h).1, v, (nth_out h).2, rfl⟩
theorem obn132 {l : List (Names_judge)} {i : Nat} {v : Names_judge} (h : l[i]? = some v) : ∃ x : DD 132, (show List (DD 132) from l)[i]? = some x ∧ UU.cells 132 x = c132 v := ⟨v, h, rfl⟩

theorem cvb5 (l : List Int) : ∃ ns : List Int, flatL UU 5 (show List (DD 5) from l) = ns.map (fun n => (.v (.int .u8 n) : AV DD)) ∧ bstr l = ⟨(ns.map fun n => UInt8.ofNat n.toNat).toArray⟩ := ⟨l, by
  induction l with
  | nil => rfl
  | cons x l ih => exact congrArg (List.cons _) ih, rfl⟩

theorem app_pt (e : Nat) {n b : Nat} {l xs : List (DD e)} (h : ptok l.length b xs.length = true) : n = n ∧ n = n ∧ 0 < l.length ∧ b + xs.length ≤ l.length ∧ (([] : List Nat) = [] ∨ b + xs.length = l.length) ∧ ∃ xs', (AObj.arr e (l.take b ++ (xs ++ l.drop (b + xs.length))) n false) = .arr e (l.take b ++ (xs' ++ l.drop (b + xs.length))) n false ∧ flatL UU e xs' = flatL UU e xs := by
  have h := of_decide_eq_true h
  exact ⟨rfl, rfl, h.1, h.2, .inl rfl, xs, rfl, rfl⟩
theorem apw_ob (e : Nat) {n b : Nat} {l xs : List (DD e)} (h : ptwok l.length b xs.length = true) : n = n ∧ n = n ∧ 0 < l.length ∧ b + xs.length ≤ l.length ∧ (([0] : List Nat) = [] ∨ b + xs.length = l.length) ∧ ∃ xs', (AObj.arr e (l.take b ++ (xs ++ l.drop (b + xs.length))) n false) = .arr e (l.take b ++ (xs' ++ l.drop (b + xs.length))) n false ∧ flatL UU e xs' = flatL UU e xs := by
  have h := of_decide_eq_true h
  exact ⟨rfl, rfl, h.1, Nat.le_of_eq h.2, .inr h.2, xs, rfl, rfl⟩

theorem cp_ob {n e : Nat} {l l2 : List (DD e)} {a b : Nat} : n = n ∧ ∃ xs : List (DD e), (AObj.arr e (l.take a ++ (l2.take (min l2.length (b - a)) ++ l.drop (a + min l2.length (b - a)))) n false) = .arr e (l.take a ++ (xs ++ l.drop (a + min l2.length (b - a)))) n false ∧ flatL UU e xs = flatL UU e (l2.take (min l2.length (b - a))) := ⟨rfl, _, rfl, rfl⟩
theorem cl_ob {n e : Nat} {l : List (DD e)} {a b : Nat} (y : DD e) : n = n ∧ ∃ y', (AObj.arr e (l.take a ++ (List.replicate (b - a) y ++ l.drop b)) n false) = .arr e (l.take a ++ (List.replicate (b - a) y' ++ l.drop b)) n false ∧ UU.cells e y' = UU.cells e y := ⟨rfl, y, rfl, rfl⟩
theorem st_ob {n e : Nat} {l : List (DD e)} {i : Nat} {A : Prop} (y : DD e) (r : List (AV DD)) (h : A) (hr : UU.cells e y = r) : n = n ∧ A ∧ ∃ y', (AObj.arr e (l.set i y) n false) = .arr e (l.set i y') n false ∧ UU.cells e y' = r := ⟨rfl, h, y, rfl, hr⟩
theorem bs_ob (e : Nat) (l : List (DD e)) : flatL UU e l = flatL UU e l ∧ l.length = l.length ∧ l.length = l.length := ⟨rfl, rfl, rfl⟩
theorem mk_ob {n m : Int} {b : Nat} (e : Nat) (z : DD e) (h : mkok b n m = true) : 0 ≤ n ∧ n ≤ m ∧ m * b ≤ 140737488355328 ∧ m < 9223372036854775808 ∧ ∃ y : DD e, List.replicate n.toNat z = List.replicate n.toNat y ∧ UU.cells e y = UU.cells e z := by
  have h := of_decide_eq_true h
  exact ⟨h.1, h.2.1, h.2.2.1, h.2.2.2, z, rfl, rfl⟩
theorem app_ob (e : Nat) {n b : Nat} {l xs : List (DD e)} (h : roomy b (l ++ xs) = true) : n = n ∧ (l ++ xs).length = (l ++ xs).length ∧ (l.length + xs.length) * b ≤ 140737488355328 ∧ l.length + xs.length < 9223372036854775808 ∧ ∃ xs', (AObj.arr e (l ++ xs) (l ++ xs).length false) = .arr e (l ++ xs') (l ++ xs).length false ∧ flatL UU e xs' = flatL UU e xs := by
  have h := of_decide_eq_true h
  rw [List.length_append] at h
  exact ⟨rfl, rfl, h.1, h.2, xs, rfl, rfl⟩
theorem apn_ob (e : Nat) {b : Nat} {l : List (DD e)} (h : roomy b l = true) : l.length * b ≤ 140737488355328 ∧ l.length < 9223372036854775808 ∧ l.length = l.length ∧ flatL UU e l = flatL UU e l ∧ l.length = l.length := by
  have h := of_decide_eq_true h
  exact ⟨h.1, h.2, rfl, rfl, rfl⟩

def joinRen : Go.Shelf.Ren := ⟨fun | 156 => 157 | 165 => 217 | 166 => 218 | 169 => 219 | 240 => 265 | 241 => 266 | 276 => 288 | 277 => 289 | n => n, fun | 31 => 199 | 9 => 9 | 3 => 3 | 4 => 4 | 0 => 0 | 20 => 20 | 72 => 260 | 76 => 264 | 70 => 258 | 37 => 60 | 75 => 263 | 127 => 298 | 164 => 311 | 5 => 5 | 80 => 266 | n => n, fun n => n⟩
theorem joinLays : Lays.n156 Tryz.prog joinRen where
  mixed := by kernel_rfl
  f156 := Tryz.func157.trans (congrArg some (by kernel_rfl))
  f165 := Tryz.func217.trans (congrArg some (by kernel_rfl))
  f166 := Tryz.func218.trans (congrArg some (by kernel_rfl))
  f169 := Tryz.func219.trans (congrArg some (by kernel_rfl))
  f240 := Tryz.func265.trans (congrArg some (by kernel_rfl))
  f241 := Tryz.func266.trans (congrArg some (by kernel_rfl))
  f276 := Tryz.func288.trans (congrArg some (by kernel_rfl))
  f277 := Tryz.func289.trans (congrArg some (by kernel_rfl))
  t0 := Tryz.underlying0
  a0 := Tryz.isAgg0
  z0 := Tryz.sizeOf0
  v0 := Tryz.zeroValue0
  t3 := Tryz.underlying3
  a3 := Tryz.isAgg3
  z3 := Tryz.sizeOf3
  v3 := Tryz.zeroValue3
  t4 := Tryz.underlying4
  a4 := Tryz.isAgg4
  z4 := Tryz.sizeOf4
  v4 := Tryz.zeroValue4
  t9 := Tryz.underlying9
  a9 := Tryz.isAgg9
  z9 := Tryz.sizeOf9
  v9 := Tryz.zeroValue9
  t20 := Tryz.underlying20
  a20 := Tryz.isAgg20
  z20 := Tryz.sizeOf20
  v20 := Tryz.zeroValue20
  t31 := Tryz.underlying199
  a31 := Tryz.isAgg199
  z31 := Tryz.sizeOf199
  v31 := Tryz.zeroValue199
  t37 := Tryz.underlying60
  a37 := Tryz.isAgg60
  z37 := Tryz.sizeOf60
  v37 := Tryz.zeroValue60
  t70 := Tryz.underlying258
  a70 := Tryz.isAgg258
  z70 := Tryz.sizeOf258
  v70 := Tryz.zeroValue258
  t72 := Tryz.underlying260
  a72 := Tryz.isAgg260
  z72 := Tryz.sizeOf260
  v72 := Tryz.zeroValue260
  t75 := Tryz.underlying263
  a75 := Tryz.isAgg263
  z75 := Tryz.sizeOf263
  v75 := Tryz.zeroValue263
  t76 := Tryz.underlying264
  a76 := Tryz.isAgg264
  z76 := Tryz.sizeOf264
  v76 := Tryz.zeroValue264
  t127 := Tryz.underlying298
  a127 := Tryz.isAgg298
  z127 := Tryz.sizeOf298
  v127 := Tryz.zeroValue298
  t164 := Tryz.underlying311
  a164 := Tryz.isAgg311
  z164 := Tryz.sizeOf311
  v164 := Tryz.zeroValue311
theorem joinExtra : Builder.Extra Tryz.prog joinRen where
  sizeBuilder := by kernel_rfl
  liesBuilder := by kernel_rfl
  t5 := Tryz.underlying5
  a5 := Tryz.isAgg5
  z5 := Tryz.sizeOf5
  v5 := Tryz.zeroValue5
  infoByte := by kernel_rfl
  cellsByte := by kernel_rfl
  sizeByte := by kernel_rfl
  neB5 := by decide
theorem mixedOrders : Tryz.prog.follows .mixedOrders = true := by kernel_rfl
@[reducible] def AV.z : AV DD := .v (.int .i64 0)
@[reducible] def AV.e : AV DD := .v (.string (⟨#[]⟩ : ByteArray))
@[reducible] def AObj.n (t : Nat) : AObj DD := .arr t [] 0 false
theorem rl {k N : Nat} {c : Code} {fr fr' : Fr DD} {hp h' : Heap DD} {ps : List Prop} {ex : Ex} (live ids : List Nat) (π : List (Ans DD)) (hps : AllP ps) (hx : runLp Tryz.prog UU k N c fr hp live ids π = some (ps, ex, fr', h') := by kernel_rfl) : ExecOK Tryz.prog UU k N c fr hp ex fr' h' := runLp_sound mixedOrders hx hps
theorem rf {f : FuncId} {fn : Func} {args : List (AV DD)} {h h' : Heap DD} {ps : List Prop} {r : AV DD} (hfn : Tryz.prog.funcs[f]? = some fn) (keep : Option (List Nat)) (π : List (Ans DD)) (hps : AllP ps) (hname : (fn.name == "runtime.NumGoroutine") = false := by rfl) (hrun : runFn Tryz.prog UU fn args h keep π = some (ps, r, h') := by kernel_rfl) : CallsOK Tryz.prog UU f args h r h' := runFn_sound mixedOrders hfn hname hrun hps
theorem rn (n : Nat) : n = n := rfl
theorem an (n : Nat) {p : Prop} (h : p) : n = n ∧ p := ⟨rfl, h⟩
@[reducible] def AV.j (n : Int) : AV DD := .v (.int .i64 n)
@[reducible] def Ans.t : Ans DD := .dec true
@[reducible] def Ans.f : Ans DD := .dec false
@[reducible] def Ans.b (x : Bool) : Ans DD := .callv (.v (.bool x))
theorem bo {α β : Type} {o : Option α} {f : α → Option β} {r : β} (h : o.bind f = some r) : ∃ v, o = some v ∧ f v = some r := bind_out h
end Go.Eng
