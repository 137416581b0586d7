/- Part of the proof of OverlayPuts: printed mirrors of the functions, or their contracts. No conditions. -/
import Derived.Test.YtgohlmiaddkkeaaGreatMAM
import Derived.Test.YtgohlmiaddkkeaaGreatProg
set_option linter.unusedVariables false
set_option maxRecDepth 100000
namespace Go.Eng
open Go Go.Proofs
def DD : Den := fun t => match t with
  | 3 => Int
  | 5 => Int
  | 9 => ByteArray
  | 31 => Api_Net
  | 33 => Int
  | 37 => Api_Line
  | 50 => Api_Domain
  | 56 => Api_Device
  | 66 => Api_Port
  | 72 => Api_Flood
  | 75 => Api_Vrf
  | 93 => Api_Link
  | 95 => Api_Static
  | 97 => Api_Prefix
  | 99 => Api_Irb
  | 120 => Names_judge
  | _ => Unit

def c3 (x : Int) : List (AV DD) := [.v (.int .i64 x)]

def c5 (x : Int) : List (AV DD) := [.v (.int .u8 x)]

def c9 (x : ByteArray) : List (AV DD) := [.v (.string x)]

def c31 (x : Api_Net) : List (AV DD) := [.sl 56 x.devices, .sl 66 x.ports, .sl 93 x.links, .sl 50 x.domains, .sl 95 x.statics, .sl 72 x.floods, .sl 75 x.vrfs, .sl 99 x.irbs]

def c33 (x : Int) : List (AV DD) := [.v (.int .u32 x)]

def c37 (x : Api_Line) : List (AV DD) := [.v (.int .i64 x.row), .v (.int .i64 x.kind), .v (.string x.dev), .v (.string x.port), .v (.string x.peer), .v (.string x.far), .v (.string x.name), .v (.int .u64 x.mac), .v (.int .u32 x.addr), .v (.int .i64 x.bits), .v (.int .i64 x.vlan), .v (.int .i64 x.num), .v (.int .i64 x.cost), .sl 3 x.tagged, .sl 3 x.imports, .sl 3 x.exports, .sl 33 x.addrs]

def c50 (x : Api_Domain) : List (AV DD) := [.v (.int .i64 x.dev), .v (.int .i64 x.vlan), .v (.int .i64 x.vni), .v (.int .i64 x.irb), .v (.int .i64 x.row), .sl 3 x.peers]

def c56 (x : Api_Device) : List (AV DD) := [.v (.int .i64 x.row), .v (.int .i64 x.priority), .v (.string x.name), .v (.int .u64 x.mac), .v (.int .u32 x.vtep)]

def c66 (x : Api_Port) : List (AV DD) := [.v (.int .i64 x.row), .v (.int .i64 x.dev), .v (.int .i64 x.native), .v (.int .i64 x.cost), .v (.int .i64 x.link), .v (.string x.name), .sl 3 x.tagged]

def c72 (x : Api_Flood) : List (AV DD) := [.v (.int .i64 x.row), .v (.int .i64 x.dev), .v (.int .i64 x.vni), .sl 33 x.addrs]

def c75 (x : Api_Vrf) : List (AV DD) := [.v (.int .i64 x.row), .v (.int .i64 x.dev), .v (.string x.name), .sl 3 x.imports, .sl 3 x.exports]

def c93 (x : Api_Link) : List (AV DD) := [.v (.int .i64 x.row), .v (.int .i64 x.a), .v (.int .i64 x.b)]

def c95 (x : Api_Static) : List (AV DD) := [.v (.int .i64 x.row), .v (.int .i64 x.domain), .v (.int .i64 x.port), .v (.int .u64 x.mac)]

def c97 (x : Api_Prefix) : List (AV DD) := [.v (.int .u32 x.addr), .v (.int .i64 x.bits)]

def c99 (x : Api_Irb) : List (AV DD) := [.v (.int .i64 x.row), .v (.int .i64 x.domain), .v (.int .i64 x.vrf), .v (.int .u32 x.net.addr), .v (.int .i64 x.net.bits)]

def c120 (x : Names_judge) : List (AV DD) := [.sl 56 x.n.devices, .sl 66 x.n.ports, .sl 93 x.n.links, .sl 50 x.n.domains, .sl 95 x.n.statics, .sl 72 x.n.floods, .sl 75 x.n.vrfs, .sl 99 x.n.irbs]

def cellsD : (t : Nat) → DD t → List (AV DD) := fun t => match t with
  | 3 => fun x => c3 x
  | 5 => fun x => c5 x
  | 9 => fun x => c9 x
  | 31 => fun x => c31 x
  | 33 => fun x => c33 x
  | 37 => fun x => c37 x
  | 50 => fun x => c50 x
  | 56 => fun x => c56 x
  | 66 => fun x => c66 x
  | 72 => fun x => c72 x
  | 75 => fun x => c75 x
  | 93 => fun x => c93 x
  | 95 => fun x => c95 x
  | 97 => fun x => c97 x
  | 99 => fun x => c99 x
  | 120 => fun x => c120 x
  | _ => fun _ => [.v (.bool true)]

def widthD : Nat → Nat := fun t => match t with
  | 3 => 1
  | 5 => 1
  | 9 => 1
  | 31 => 8
  | 33 => 1
  | 37 => 17
  | 50 => 6
  | 56 => 5
  | 66 => 7
  | 72 => 4
  | 75 => 5
  | 93 => 3
  | 95 => 4
  | 97 => 2
  | 99 => 5
  | 120 => 8
  | _ => 1

theorem cellsD_else {t : Nat} (x : DD t) (h : t ≠ 3 ∧ t ≠ 5 ∧ t ≠ 9 ∧ t ≠ 31 ∧ t ≠ 33 ∧ t ≠ 37 ∧ t ≠ 50 ∧ t ≠ 56 ∧ t ≠ 66 ∧ t ≠ 72 ∧ t ≠ 75 ∧ t ≠ 93 ∧ t ≠ 95 ∧ t ≠ 97 ∧ t ≠ 99 ∧ t ≠ 120) : cellsD t x = [.v (.bool true)] ∧ widthD t = 1 := by
  obtain ⟨h3, h5, h9, h31, h33, h37, h50, h56, h66, h72, h75, h93, h95, h97, h99, h120⟩ := h
  unfold cellsD widthD
  constructor
  · split <;> first | (exfalso; omega) | rfl
  · split <;> first | (exfalso; omega) | rfl

def UU : Univ DD where
  width := widthD
  cells := cellsD
  len t x := by
    by_cases h3 : t = 3
    · subst h3; rfl
    by_cases h5 : t = 5
    · subst h5; rfl
    by_cases h9 : t = 9
    · subst h9; rfl
    by_cases h31 : t = 31
    · subst h31; rfl
    by_cases h33 : t = 33
    · subst h33; rfl
    by_cases h37 : t = 37
    · subst h37; rfl
    by_cases h50 : t = 50
    · subst h50; rfl
    by_cases h56 : t = 56
    · subst h56; rfl
    by_cases h66 : t = 66
    · subst h66; rfl
    by_cases h72 : t = 72
    · subst h72; rfl
    by_cases h75 : t = 75
    · subst h75; rfl
    by_cases h93 : t = 93
    · subst h93; rfl
    by_cases h95 : t = 95
    · subst h95; rfl
    by_cases h97 : t = 97
    · subst h97; rfl
    by_cases h99 : t = 99
    · subst h99; rfl
    by_cases h120 : t = 120
    · subst h120; rfl
    rw [(cellsD_else x ⟨h3, h5, h9, h31, h33, h37, h50, h56, h66, h72, h75, h93, h95, h97, h99, h120⟩).1, (cellsD_else x ⟨h3, h5, h9, h31, h33, h37, h50, h56, h66, h72, h75, h93, h95, h97, h99, h120⟩).2]; rfl
  pos t := by
    by_cases h3 : t = 3
    · subst h3; exact Nat.le_of_ble_eq_true rfl
    by_cases h5 : t = 5
    · subst h5; exact Nat.le_of_ble_eq_true rfl
    by_cases h9 : t = 9
    · subst h9; exact Nat.le_of_ble_eq_true rfl
    by_cases h31 : t = 31
    · subst h31; exact Nat.le_of_ble_eq_true rfl
    by_cases h33 : t = 33
    · subst h33; exact Nat.le_of_ble_eq_true rfl
    by_cases h37 : t = 37
    · subst h37; exact Nat.le_of_ble_eq_true rfl
    by_cases h50 : t = 50
    · subst h50; exact Nat.le_of_ble_eq_true rfl
    by_cases h56 : t = 56
    · subst h56; exact Nat.le_of_ble_eq_true rfl
    by_cases h66 : t = 66
    · subst h66; exact Nat.le_of_ble_eq_true rfl
    by_cases h72 : t = 72
    · subst h72; exact Nat.le_of_ble_eq_true rfl
    by_cases h75 : t = 75
    · subst h75; exact Nat.le_of_ble_eq_true rfl
    by_cases h93 : t = 93
    · subst h93; exact Nat.le_of_ble_eq_true rfl
    by_cases h95 : t = 95
    · subst h95; exact Nat.le_of_ble_eq_true rfl
    by_cases h97 : t = 97
    · subst h97; exact Nat.le_of_ble_eq_true rfl
    by_cases h99 : t = 99
    · subst h99; exact Nat.le_of_ble_eq_true rfl
    by_cases h120 : t = 120
    · subst h120; exact Nat.le_of_ble_eq_true rfl
    unfold widthD; split <;> omega
  ok t x := by
    by_cases h3 : t = 3
    · subst h3; rfl
    by_cases h5 : t = 5
    · subst h5; rfl
    by_cases h9 : t = 9
    · subst h9; rfl
    by_cases h31 : t = 31
    · subst h31; rfl
    by_cases h33 : t = 33
    · subst h33; rfl
    by_cases h37 : t = 37
    · subst h37; rfl
    by_cases h50 : t = 50
    · subst h50; rfl
    by_cases h56 : t = 56
    · subst h56; rfl
    by_cases h66 : t = 66
    · subst h66; rfl
    by_cases h72 : t = 72
    · subst h72; rfl
    by_cases h75 : t = 75
    · subst h75; rfl
    by_cases h93 : t = 93
    · subst h93; rfl
    by_cases h95 : t = 95
    · subst h95; rfl
    by_cases h97 : t = 97
    · subst h97; rfl
    by_cases h99 : t = 99
    · subst h99; rfl
    by_cases h120 : t = 120
    · subst h120; rfl
    rw [(cellsD_else x ⟨h3, h5, h9, h31, h33, h37, h50, h56, h66, h72, h75, h93, h95, h97, h99, h120⟩).1]; rfl

theorem im_all {t : Nat} (h : ∀ x : DD t, (UU.cells t x).all immC = true) (l : List (DD t)) : (flatL UU t l).all immC = true := by
  induction l with
  | nil => rfl
  | cons x l ih => simp only [flatL, List.flatMap_cons, List.all_append, Bool.and_eq_true]; exact ⟨h x, ih⟩

theorem im3 (l : List (DD 3)) : (flatL UU 3 l).all immC = true := im_all (fun _ => rfl) l

theorem im5 (l : List (DD 5)) : (flatL UU 5 l).all immC = true := im_all (fun _ => rfl) l

theorem im9 (l : List (DD 9)) : (flatL UU 9 l).all immC = true := im_all (fun _ => rfl) l

theorem im33 (l : List (DD 33)) : (flatL UU 33 l).all immC = true := im_all (fun _ => rfl) l

theorem im56 (l : List (DD 56)) : (flatL UU 56 l).all immC = true := im_all (fun _ => rfl) l

theorem im93 (l : List (DD 93)) : (flatL UU 93 l).all immC = true := im_all (fun _ => rfl) l

theorem im95 (l : List (DD 95)) : (flatL UU 95 l).all immC = true := im_all (fun _ => rfl) l

theorem im97 (l : List (DD 97)) : (flatL UU 97 l).all immC = true := im_all (fun _ => rfl) l

theorem im99 (l : List (DD 99)) : (flatL UU 99 l).all immC = true := im_all (fun _ => rfl) l

theorem ob3 {l : List (Int)} {i : Int} {v : Int} (h : nth l i = some v) : 0 ≤ i ∧ ∃ x : DD 3, (show List (DD 3) from l)[i.toNat]? = some x ∧ UU.cells 3 x = c3 v := ⟨(nth_out h).1, v, (nth_out h).2, rfl⟩
theorem obn3 {l : List (Int)} {i : Nat} {v : Int} (h : l[i]? = some v) : ∃ x : DD 3, (show List (DD 3) from l)[i]? = some x ∧ UU.cells 3 x = c3 v := ⟨v, h, rfl⟩

theorem ob5 {l : List (Int)} {i : Int} {v : Int} (h : nth l i = some v) : 0 ≤ i ∧ ∃ x : DD 5, (show List (DD 5) from l)[i.toNat]? = some x ∧ UU.cells 5 x = c5 v := ⟨(nth_out h).1, v, (nth_out h).2, rfl⟩
theorem obn5 {l : List (Int)} {i : Nat} {v : Int} (h : l[i]? = some v) : ∃ x : DD 5, (show List (DD 5) from l)[i]? = some x ∧ UU.cells 5 x = c5 v := ⟨v, h, rfl⟩

theorem ob9 {l : List (ByteArray)} {i : Int} {v : ByteArray} (h : nth l i = some v) : 0 ≤ i ∧ ∃ x : DD 9, (show List (DD 9) from l)[i.toNat]? = some x ∧ UU.cells 9 x = c9 v := ⟨(nth_out h).1, v, (nth_out h).2, rfl⟩
theorem obn9 {l : List (ByteArray)} {i : Nat} {v : ByteArray} (h : l[i]? = some v) : ∃ x : DD 9, (show List (DD 9) from l)[i]? = some x ∧ UU.cells 9 x = c9 v := ⟨v, h, rfl⟩

theorem ob31 {l : List (Api_Net)} {i : Int} {v : Api_Net} (h : nth l i = some v) : 0 ≤ i ∧ ∃ x : DD 31, (show List (DD 31) from l)[i.toNat]? = some x ∧ UU.cells 31 x = c31 v := ⟨(nth_out h).1, v, (nth_out h).2, rfl⟩
theorem obn31 {l : List (Api_Net)} {i : Nat} {v : Api_Net} (h : l[i]? = some v) : ∃ x : DD 31, (show List (DD 31) from l)[i]? = some x ∧ UU.cells 31 x = c31 v := ⟨v, h, rfl⟩

theorem ob33 {l : List (Int)} {i : Int} {v : Int} (h : nth l i = some v) : 0 ≤ i ∧ ∃ x : DD 33, (show List (DD 33) from l)[i.toNat]? = some x ∧ UU.cells 33 x = c33 v := ⟨(nth_out h).1, v, (nth_out h).2, rfl⟩
theorem obn33 {l : List (Int)} {i : Nat} {v : Int} (h : l[i]? = some v) : ∃ x : DD 33, (show List (DD 33) from l)[i]? = some x ∧ UU.cells 33 x = c33 v := ⟨v, h, rfl⟩

theorem ob37 {l : List (Api_Line)} {i : Int} {v : Api_Line} (h : nth l i = some v) : 0 ≤ i ∧ ∃ x : DD 37, (show List (DD 37) from l)[i.toNat]? = some x ∧ UU.cells 37 x = c37 v := ⟨(nth_out h).1, v, (nth_out h).2, rfl⟩
theorem obn37 {l : List (Api_Line)} {i : Nat} {v : Api_Line} (h : l[i]? = some v) : ∃ x : DD 37, (show List (DD 37) from l)[i]? = some x ∧ UU.cells 37 x = c37 v := ⟨v, h, rfl⟩

theorem ob50 {l : List (Api_Domain)} {i : Int} {v : Api_Domain} (h : nth l i = some v) : 0 ≤ i ∧ ∃ x : DD 50, (show List (DD 50) from l)[i.toNat]? = some x ∧ UU.cells 50 x = c50 v := ⟨(nth_out h).1, v, (nth_out h).2, rfl⟩
theorem obn50 {l : List (Api_Domain)} {i : Nat} {v : Api_Domain} (h : l[i]? = some v) : ∃ x : DD 50, (show List (DD 50) from l)[i]? = some x ∧ UU.cells 50 x = c50 v := ⟨v, h, rfl⟩

theorem ob56 {l : List (Api_Device)} {i : Int} {v : Api_Device} (h : nth l i = some v) : 0 ≤ i ∧ ∃ x : DD 56, (show List (DD 56) from l)[i.toNat]? = some x ∧ UU.cells 56 x = c56 v := ⟨(nth_out h).1, v, (nth_out h).2, rfl⟩
theorem obn56 {l : List (Api_Device)} {i : Nat} {v : Api_Device} (h : l[i]? = some v) : ∃ x : DD 56, (show List (DD 56) from l)[i]? = some x ∧ UU.cells 56 x = c56 v := ⟨v, h, rfl⟩

theorem ob66 {l : List (Api_Port)} {i : Int} {v : Api_Port} (h : nth l i = some v) : 0 ≤ i ∧ ∃ x : DD 66, (show List (DD 66) from l)[i.toNat]? = some x ∧ UU.cells 66 x = c66 v := ⟨(nth_out h).1, v, (nth_out h).2, rfl⟩
theorem obn66 {l : List (Api_Port)} {i : Nat} {v : Api_Port} (h : l[i]? = some v) : ∃ x : DD 66, (show List (DD 66) from l)[i]? = some x ∧ UU.cells 66 x = c66 v := ⟨v, h, rfl⟩

theorem ob72 {l : List (Api_Flood)} {i : Int} {v : Api_Flood} (h : nth l i = some v) : 0 ≤ i ∧ ∃ x : DD 72, (show List (DD 72) from l)[i.toNat]? = some x ∧ UU.cells 72 x = c72 v := ⟨(nth_out h).1, v, (nth_out h).2, rfl⟩
theorem obn72 {l : List (Api_Flood)} {i : Nat} {v : Api_Flood} (h : l[i]? = some v) : ∃ x : DD 72, (show List (DD 72) from l)[i]? = some x ∧ UU.cells 72 x = c72 v := ⟨v, h, rfl⟩

theorem ob75 {l : List (Api_Vrf)} {i : Int} {v : Api_Vrf} (h : nth l i = some v) : 0 ≤ i ∧ ∃ x : DD 75, (show List (DD 75) from l)[i.toNat]? = some x ∧ UU.cells 75 x = c75 v := ⟨(nth_out h).1, v, (nth_out h).2, rfl⟩
theorem obn75 {l : List (Api_Vrf)} {i : Nat} {v : Api_Vrf} (h : l[i]? = some v) : ∃ x : DD 75, (show List (DD 75) from l)[i]? = some x ∧ UU.cells 75 x = c75 v := ⟨v, h, rfl⟩

theorem ob93 {l : List (Api_Link)} {i : Int} {v : Api_Link} (h : nth l i = some v) : 0 ≤ i ∧ ∃ x : DD 93, (show List (DD 93) from l)[i.toNat]? = some x ∧ UU.cells 93 x = c93 v := ⟨(nth_out h).1, v, (nth_out h).2, rfl⟩
theorem obn93 {l : List (Api_Link)} {i : Nat} {v : Api_Link} (h : l[i]? = some v) : ∃ x : DD 93, (show List (DD 93) from l)[i]? = some x ∧ UU.cells 93 x = c93 v := ⟨v, h, rfl⟩

theorem ob95 {l : List (Api_Static)} {i : Int} {v : Api_Static} (h : nth l i = some v) : 0 ≤ i ∧ ∃ x : DD 95, (show List (DD 95) from l)[i.toNat]? = some x ∧ UU.cells 95 x = c95 v := ⟨(nth_out h).1, v, (nth_out h).2, rfl⟩
theorem obn95 {l : List (Api_Static)} {i : Nat} {v : Api_Static} (h : l[i]? = some v) : ∃ x : DD 95, (show List (DD 95) from l)[i]? = some x ∧ UU.cells 95 x = c95 v := ⟨v, h, rfl⟩

theorem ob97 {l : List (Api_Prefix)} {i : Int} {v : Api_Prefix} (h : nth l i = some v) : 0 ≤ i ∧ ∃ x : DD 97, (show List (DD 97) from l)[i.toNat]? = some x ∧ UU.cells 97 x = c97 v := ⟨(nth_out h).1, v, (nth_out h).2, rfl⟩
theorem obn97 {l : List (Api_Prefix)} {i : Nat} {v : Api_Prefix} (h : l[i]? = some v) : ∃ x : DD 97, (show List (DD 97) from l)[i]? = some x ∧ UU.cells 97 x = c97 v := ⟨v, h, rfl⟩

theorem ob99 {l : List (Api_Irb)} {i : Int} {v : Api_Irb} (h : nth l i = some v) : 0 ≤ i ∧ ∃ x : DD 99, (show List (DD 99) from l)[i.toNat]? = some x ∧ UU.cells 99 x = c99 v := ⟨(nth_out h).1, v, (nth_out h).2, rfl⟩
theorem obn99 {l : List (Api_Irb)} {i : Nat} {v : Api_Irb} (h : l[i]? = some v) : ∃ x : DD 99, (show List (DD 99) from l)[i]? = some x ∧ UU.cells 99 x = c99 v := ⟨v, h, rfl⟩

theorem ob120 {l : List (Names_judge)} {i : Int} {v : Names_judge} (h : nth l i = some v) : 0 ≤ i ∧ ∃ x : DD 120, (show List (DD 120) from l)[i.toNat]? = some x ∧ UU.cells 120 x = c120 v := ⟨(nth_out h).1, v, (nth_out h).2, rfl⟩
theorem obn120 {l : List (Names_judge)} {i : Nat} {v : Names_judge} (h : l[i]? = some v) : ∃ x : DD 120, (show List (DD 120) from l)[i]? = some x ∧ UU.cells 120 x = c120 v := ⟨v, h, rfl⟩

theorem cvb5 (l : List Int) : ∃ ns : List Int, flatL UU 5 (show List (DD 5) from l) = ns.map (fun n => (.v (.int .u8 n) : AV DD)) ∧ bstr l = ⟨(ns.map fun n => UInt8.ofNat n.toNat).toArray⟩ := ⟨l, by
  induction l with
  | nil => rfl
  | cons x l ih => exact congrArg (List.cons _) ih, rfl⟩

theorem app_pt (e : Nat) {n b : Nat} {l xs : List (DD e)} (h : ptok l.length b xs.length = true) : n = n ∧ n = n ∧ 0 < l.length ∧ b + xs.length ≤ l.length ∧ (([] : List Nat) = [] ∨ b + xs.length = l.length) ∧ ∃ xs', (AObj.arr e (l.take b ++ (xs ++ l.drop (b + xs.length))) n false) = .arr e (l.take b ++ (xs' ++ l.drop (b + xs.length))) n false ∧ flatL UU e xs' = flatL UU e xs := by
  have h := of_decide_eq_true h
  exact ⟨rfl, rfl, h.1, h.2, .inl rfl, xs, rfl, rfl⟩
theorem apw_ob (e : Nat) {n b : Nat} {l xs : List (DD e)} (h : ptwok l.length b xs.length = true) : n = n ∧ n = n ∧ 0 < l.length ∧ b + xs.length ≤ l.length ∧ (([0] : List Nat) = [] ∨ b + xs.length = l.length) ∧ ∃ xs', (AObj.arr e (l.take b ++ (xs ++ l.drop (b + xs.length))) n false) = .arr e (l.take b ++ (xs' ++ l.drop (b + xs.length))) n false ∧ flatL UU e xs' = flatL UU e xs := by
  have h := of_decide_eq_true h
  exact ⟨rfl, rfl, h.1, Nat.le_of_eq h.2, .inr h.2, xs, rfl, rfl⟩

theorem cp_ob {n e : Nat} {l l2 : List (DD e)} {a b : Nat} : n = n ∧ ∃ xs : List (DD e), (AObj.arr e (l.take a ++ (l2.take (min l2.length (b - a)) ++ l.drop (a + min l2.length (b - a)))) n false) = .arr e (l.take a ++ (xs ++ l.drop (a + min l2.length (b - a)))) n false ∧ flatL UU e xs = flatL UU e (l2.take (min l2.length (b - a))) := ⟨rfl, _, rfl, rfl⟩
theorem cl_ob {n e : Nat} {l : List (DD e)} {a b : Nat} (y : DD e) : n = n ∧ ∃ y', (AObj.arr e (l.take a ++ (List.replicate (b - a) y ++ l.drop b)) n false) = .arr e (l.take a ++ (List.replicate (b - a) y' ++ l.drop b)) n false ∧ UU.cells e y' = UU.cells e y := ⟨rfl, y, rfl, rfl⟩
theorem st_ob {n e : Nat} {l : List (DD e)} {i : Nat} {A : Prop} (y : DD e) (r : List (AV DD)) (h : A) (hr : UU.cells e y = r) : n = n ∧ A ∧ ∃ y', (AObj.arr e (l.set i y) n false) = .arr e (l.set i y') n false ∧ UU.cells e y' = r := ⟨rfl, h, y, rfl, hr⟩
theorem bs_ob (e : Nat) (l : List (DD e)) : flatL UU e l = flatL UU e l ∧ l.length = l.length ∧ l.length = l.length := ⟨rfl, rfl, rfl⟩
theorem mk_ob {n m : Int} {b : Nat} (e : Nat) (z : DD e) (h : mkok b n m = true) : 0 ≤ n ∧ n ≤ m ∧ m * b ≤ 140737488355328 ∧ m < 9223372036854775808 ∧ ∃ y : DD e, List.replicate n.toNat z = List.replicate n.toNat y ∧ UU.cells e y = UU.cells e z := by
  have h := of_decide_eq_true h
  exact ⟨h.1, h.2.1, h.2.2.1, h.2.2.2, z, rfl, rfl⟩
theorem app_ob (e : Nat) {n b : Nat} {l xs : List (DD e)} (h : roomy b (l ++ xs) = true) : n = n ∧ (l ++ xs).length = (l ++ xs).length ∧ (l.length + xs.length) * b ≤ 140737488355328 ∧ l.length + xs.length < 9223372036854775808 ∧ ∃ xs', (AObj.arr e (l ++ xs) (l ++ xs).length false) = .arr e (l ++ xs') (l ++ xs).length false ∧ flatL UU e xs' = flatL UU e xs := by
  have h := of_decide_eq_true h
  rw [List.length_append] at h
  exact ⟨rfl, rfl, h.1, h.2, xs, rfl, rfl⟩
theorem apn_ob (e : Nat) {b : Nat} {l : List (DD e)} (h : roomy b l = true) : l.length * b ≤ 140737488355328 ∧ l.length < 9223372036854775808 ∧ l.length = l.length ∧ flatL UU e l = flatL UU e l ∧ l.length = l.length := by
  have h := of_decide_eq_true h
  exact ⟨h.1, h.2, rfl, rfl, rfl⟩

theorem mixedOrders : Tryz.prog.follows .mixedOrders = true := by kernel_rfl
@[reducible] def AV.z : AV DD := .v (.int .i64 0)
@[reducible] def AV.e : AV DD := .v (.string (⟨#[]⟩ : ByteArray))
@[reducible] def AObj.n (t : Nat) : AObj DD := .arr t [] 0 false
theorem rl {k N : Nat} {c : Code} {fr fr' : Fr DD} {hp h' : Heap DD} {ps : List Prop} {ex : Ex} (live ids : List Nat) (π : List (Ans DD)) (hps : AllP ps) (hx : runLp Tryz.prog UU k N c fr hp live ids π = some (ps, ex, fr', h') := by kernel_rfl) : ExecOK Tryz.prog UU k N c fr hp ex fr' h' := runLp_sound mixedOrders hx hps
theorem rf {f : FuncId} {fn : Func} {args : List (AV DD)} {h h' : Heap DD} {ps : List Prop} {r : AV DD} (hfn : Tryz.prog.funcs[f]? = some fn) (keep : Option (List Nat)) (π : List (Ans DD)) (hps : AllP ps) (hname : (fn.name == "runtime.NumGoroutine") = false := by rfl) (hrun : runFn Tryz.prog UU fn args h keep π = some (ps, r, h') := by kernel_rfl) : CallsOK Tryz.prog UU f args h r h' := runFn_sound mixedOrders hfn hname hrun hps
theorem rn (n : Nat) : n = n := rfl
theorem an (n : Nat) {p : Prop} (h : p) : n = n ∧ p := ⟨rfl, h⟩
@[reducible] def AV.j (n : Int) : AV DD := .v (.int .i64 n)
theorem oi {α : Type} {a b : α} (h : some a = some b) : a = b := by injection h
theorem rr (x : AV DD) : x = x := rfl
theorem rh (x : Heap DD) : x = x := rfl
theorem ro (x : AObj DD) : x = x := rfl
theorem rl2 (x : List (AV DD)) : x = x := rfl
theorem pd {p : Prop} {ps : List Prop} (h : p) (hs : AllP ps) : AllP (p :: p :: ps) := pc h (pc h hs)
@[reducible] def AObj.w {D : Den} (t : Nat) (l : List (D t)) : AObj D := .arr t l l.length false
@[reducible] def AObj.wt {D : Den} (t : Nat) (l : List (D t)) : AObj D := .arr t l l.length true
@[reducible] def AV.x (s : ByteArray) : AV DD := .v (.string s)
@[reducible] def AV.y (b : Bool) : AV DD := .v (.bool b)
@[reducible] def AV.o (k : Nat) : AV DD := .op k 1 0 0
@[reducible] def Ans.t : Ans DD := .dec true
@[reducible] def Ans.f : Ans DD := .dec false
@[reducible] def Ans.b (x : Bool) : Ans DD := .callv (.v (.bool x))
theorem bo {α β : Type} {o : Option α} {f : α → Option β} {r : β} (h : o.bind f = some r) : ∃ v, o = some v ∧ f v = some r := bind_out h
end Go.Eng
