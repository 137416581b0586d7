/- Part of the proof of OverlayFull: printed mirrors of the functions, or their contracts. No conditions. -/
import Derived.Test.YtgemllooojijnaaMAM
import Derived.Test.YtgemllooojijnaaProg
set_option linter.unusedVariables false
set_option maxRecDepth 100000
namespace Go.Eng
open Go Go.Proofs
def DD : Den := fun t => match t with
  | 3 => Int
  | 9 => ByteArray
  | 31 => Api_Net
  | 33 => Int
  | 37 => Api_Line
  | 49 => Api_Port
  | 54 => Api_Domain
  | 57 => Api_Device
  | 59 => Api_Link
  | 65 => Api_Flood
  | 67 => Api_Vrf
  | 75 => Api_Static
  | 78 => Api_Prefix
  | 80 => Api_Irb
  | 96 => Names_judge
  | _ => Unit

def c3 (x : Int) : List (AV DD) := [.v (.int .i64 x)]

def c9 (x : ByteArray) : List (AV DD) := [.v (.string x)]

def c31 (x : Api_Net) : List (AV DD) := [.sl 57 x.devices, .sl 49 x.ports, .sl 59 x.links, .sl 54 x.domains, .sl 75 x.statics, .sl 65 x.floods, .sl 67 x.vrfs, .sl 80 x.irbs]

def c33 (x : Int) : List (AV DD) := [.v (.int .u32 x)]

def c37 (x : Api_Line) : List (AV DD) := [.v (.int .i64 x.row), .v (.int .i64 x.kind), .v (.string x.dev), .v (.string x.port), .v (.string x.peer), .v (.string x.far), .v (.string x.name), .v (.int .u64 x.mac), .v (.int .u32 x.addr), .v (.int .i64 x.bits), .v (.int .i64 x.vlan), .v (.int .i64 x.num), .v (.int .i64 x.cost), .sl 3 x.tagged, .sl 3 x.imports, .sl 3 x.exports, .sl 33 x.addrs]

def c49 (x : Api_Port) : List (AV DD) := [.v (.int .i64 x.row), .v (.int .i64 x.dev), .v (.int .i64 x.native), .v (.int .i64 x.cost), .v (.int .i64 x.link), .v (.string x.name), .sl 3 x.tagged]

def c54 (x : Api_Domain) : List (AV DD) := [.v (.int .i64 x.dev), .v (.int .i64 x.vlan), .v (.int .i64 x.vni), .v (.int .i64 x.irb), .v (.int .i64 x.row), .sl 3 x.peers]

def c57 (x : Api_Device) : List (AV DD) := [.v (.int .i64 x.row), .v (.int .i64 x.priority), .v (.string x.name), .v (.int .u64 x.mac), .v (.int .u32 x.vtep)]

def c59 (x : Api_Link) : List (AV DD) := [.v (.int .i64 x.row), .v (.int .i64 x.a), .v (.int .i64 x.b)]

def c65 (x : Api_Flood) : List (AV DD) := [.v (.int .i64 x.row), .v (.int .i64 x.dev), .v (.int .i64 x.vni), .sl 33 x.addrs]

def c67 (x : Api_Vrf) : List (AV DD) := [.v (.int .i64 x.row), .v (.int .i64 x.dev), .v (.string x.name), .sl 3 x.imports, .sl 3 x.exports]

def c75 (x : Api_Static) : List (AV DD) := [.v (.int .i64 x.row), .v (.int .i64 x.domain), .v (.int .i64 x.port), .v (.int .u64 x.mac)]

def c78 (x : Api_Prefix) : List (AV DD) := [.v (.int .u32 x.addr), .v (.int .i64 x.bits)]

def c80 (x : Api_Irb) : List (AV DD) := [.v (.int .i64 x.row), .v (.int .i64 x.domain), .v (.int .i64 x.vrf), .v (.int .u32 x.net.addr), .v (.int .i64 x.net.bits)]

def c96 (x : Names_judge) : List (AV DD) := [.sl 57 x.n.devices, .sl 49 x.n.ports, .sl 59 x.n.links, .sl 54 x.n.domains, .sl 75 x.n.statics, .sl 65 x.n.floods, .sl 67 x.n.vrfs, .sl 80 x.n.irbs]

def cellsD : (t : Nat) → DD t → List (AV DD) := fun t => match t with
  | 3 => fun x => c3 x
  | 9 => fun x => c9 x
  | 31 => fun x => c31 x
  | 33 => fun x => c33 x
  | 37 => fun x => c37 x
  | 49 => fun x => c49 x
  | 54 => fun x => c54 x
  | 57 => fun x => c57 x
  | 59 => fun x => c59 x
  | 65 => fun x => c65 x
  | 67 => fun x => c67 x
  | 75 => fun x => c75 x
  | 78 => fun x => c78 x
  | 80 => fun x => c80 x
  | 96 => fun x => c96 x
  | _ => fun _ => [.v (.bool true)]

def widthD : Nat → Nat := fun t => match t with
  | 3 => 1
  | 9 => 1
  | 31 => 8
  | 33 => 1
  | 37 => 17
  | 49 => 7
  | 54 => 6
  | 57 => 5
  | 59 => 3
  | 65 => 4
  | 67 => 5
  | 75 => 4
  | 78 => 2
  | 80 => 5
  | 96 => 8
  | _ => 1

theorem cellsD_else {t : Nat} (x : DD t) (h : t ≠ 3 ∧ t ≠ 9 ∧ t ≠ 31 ∧ t ≠ 33 ∧ t ≠ 37 ∧ t ≠ 49 ∧ t ≠ 54 ∧ t ≠ 57 ∧ t ≠ 59 ∧ t ≠ 65 ∧ t ≠ 67 ∧ t ≠ 75 ∧ t ≠ 78 ∧ t ≠ 80 ∧ t ≠ 96) : cellsD t x = [.v (.bool true)] ∧ widthD t = 1 := by
  obtain ⟨h3, h9, h31, h33, h37, h49, h54, h57, h59, h65, h67, h75, h78, h80, h96⟩ := h
  unfold cellsD widthD
  constructor
  · split <;> first | (exfalso; omega) | rfl
  · split <;> first | (exfalso; omega) | rfl

def UU : Univ DD where
  width := widthD
  cells := cellsD
  len t x := by
    by_cases h3 : t = 3
    · subst h3; rfl
    by_cases h9 : t = 9
    · subst h9; rfl
    by_cases h31 : t = 31
    · subst h31; rfl
    by_cases h33 : t = 33
    · subst h33; rfl
    by_cases h37 : t = 37
    · subst h37; rfl
    by_cases h49 : t = 49
    · subst h49; rfl
    by_cases h54 : t = 54
    · subst h54; rfl
    by_cases h57 : t = 57
    · subst h57; rfl
    by_cases h59 : t = 59
    · subst h59; rfl
    by_cases h65 : t = 65
    · subst h65; rfl
    by_cases h67 : t = 67
    · subst h67; rfl
    by_cases h75 : t = 75
    · subst h75; rfl
    by_cases h78 : t = 78
    · subst h78; rfl
    by_cases h80 : t = 80
    · subst h80; rfl
    by_cases h96 : t = 96
    · subst h96; rfl
    rw [(cellsD_else x ⟨h3, h9, h31, h33, h37, h49, h54, h57, h59, h65, h67, h75, h78, h80, h96⟩).1, (cellsD_else x ⟨h3, h9, h31, h33, h37, h49, h54, h57, h59, h65, h67, h75, h78, h80, h96⟩).2]; rfl
  pos t := by
    by_cases h3 : t = 3
    · subst h3; exact Nat.le_of_ble_eq_true rfl
    by_cases h9 : t = 9
    · subst h9; exact Nat.le_of_ble_eq_true rfl
    by_cases h31 : t = 31
    · subst h31; exact Nat.le_of_ble_eq_true rfl
    by_cases h33 : t = 33
    · subst h33; exact Nat.le_of_ble_eq_true rfl
    by_cases h37 : t = 37
    · subst h37; exact Nat.le_of_ble_eq_true rfl
    by_cases h49 : t = 49
    · subst h49; exact Nat.le_of_ble_eq_true rfl
    by_cases h54 : t = 54
    · subst h54; exact Nat.le_of_ble_eq_true rfl
    by_cases h57 : t = 57
    · subst h57; exact Nat.le_of_ble_eq_true rfl
    by_cases h59 : t = 59
    · subst h59; exact Nat.le_of_ble_eq_true rfl
    by_cases h65 : t = 65
    · subst h65; exact Nat.le_of_ble_eq_true rfl
    by_cases h67 : t = 67
    · subst h67; exact Nat.le_of_ble_eq_true rfl
    by_cases h75 : t = 75
    · subst h75; exact Nat.le_of_ble_eq_true rfl
    by_cases h78 : t = 78
    · subst h78; exact Nat.le_of_ble_eq_true rfl
    by_cases h80 : t = 80
    · subst h80; exact Nat.le_of_ble_eq_true rfl
    by_cases h96 : t = 96
    · subst h96; exact Nat.le_of_ble_eq_true rfl
    unfold widthD; split <;> omega
  ok t x := by
    by_cases h3 : t = 3
    · subst h3; rfl
    by_cases h9 : t = 9
    · subst h9; rfl
    by_cases h31 : t = 31
    · subst h31; rfl
    by_cases h33 : t = 33
    · subst h33; rfl
    by_cases h37 : t = 37
    · subst h37; rfl
    by_cases h49 : t = 49
    · subst h49; rfl
    by_cases h54 : t = 54
    · subst h54; rfl
    by_cases h57 : t = 57
    · subst h57; rfl
    by_cases h59 : t = 59
    · subst h59; rfl
    by_cases h65 : t = 65
    · subst h65; rfl
    by_cases h67 : t = 67
    · subst h67; rfl
    by_cases h75 : t = 75
    · subst h75; rfl
    by_cases h78 : t = 78
    · subst h78; rfl
    by_cases h80 : t = 80
    · subst h80; rfl
    by_cases h96 : t = 96
    · subst h96; rfl
    rw [(cellsD_else x ⟨h3, h9, h31, h33, h37, h49, h54, h57, h59, h65, h67, h75, h78, h80, h96⟩).1]; rfl

theorem im_all {t : Nat} (h : ∀ x : DD t, (UU.cells t x).all immC = true) (l : List (DD t)) : (flatL UU t l).all immC = true := by
  induction l with
  | nil => rfl
  | cons x l ih => simp only [flatL, List.flatMap_cons, List.all_append, Bool.and_eq_true]; exact ⟨h x, ih⟩

theorem im3 (l : List (DD 3)) : (flatL UU 3 l).all immC = true := im_all (fun _ => rfl) l

theorem im9 (l : List (DD 9)) : (flatL UU 9 l).all immC = true := im_all (fun _ => rfl) l

theorem im33 (l : List (DD 33)) : (flatL UU 33 l).all immC = true := im_all (fun _ => rfl) l

theorem im57 (l : List (DD 57)) : (flatL UU 57 l).all immC = true := im_all (fun _ => rfl) l

theorem im59 (l : List (DD 59)) : (flatL UU 59 l).all immC = true := im_all (fun _ => rfl) l

theorem im75 (l : List (DD 75)) : (flatL UU 75 l).all immC = true := im_all (fun _ => rfl) l

theorem im78 (l : List (DD 78)) : (flatL UU 78 l).all immC = true := im_all (fun _ => rfl) l

theorem im80 (l : List (DD 80)) : (flatL UU 80 l).all immC = true := im_all (fun _ => rfl) l

theorem ob3 {l : List (Int)} {i : Int} {v : Int} (h : nth l i = some v) : 0 ≤ i ∧ ∃ x : DD 3, (show List (DD 3) from l)[i.toNat]? = some x ∧ UU.cells 3 x = c3 v := ⟨(nth_out h).1, v, (nth_out h).2, rfl⟩
theorem obn3 {l : List (Int)} {i : Nat} {v : Int} (h : l[i]? = some v) : ∃ x : DD 3, (show List (DD 3) from l)[i]? = some x ∧ UU.cells 3 x = c3 v := ⟨v, h, rfl⟩

theorem ob9 {l : List (ByteArray)} {i : Int} {v : ByteArray} (h : nth l i = some v) : 0 ≤ i ∧ ∃ x : DD 9, (show List (DD 9) from l)[i.toNat]? = some x ∧ UU.cells 9 x = c9 v := ⟨(nth_out h).1, v, (nth_out h).2, rfl⟩
theorem obn9 {l : List (ByteArray)} {i : Nat} {v : ByteArray} (h : l[i]? = some v) : ∃ x : DD 9, (show List (DD 9) from l)[i]? = some x ∧ UU.cells 9 x = c9 v := ⟨v, h, rfl⟩

theorem ob31 {l : List (Api_Net)} {i : Int} {v : Api_Net} (h : nth l i = some v) : 0 ≤ i ∧ ∃ x : DD 31, (show List (DD 31) from l)[i.toNat]? = some x ∧ UU.cells 31 x = c31 v := ⟨(nth_out h).1, v, (nth_out h).2, rfl⟩
theorem obn31 {l : List (Api_Net)} {i : Nat} {v : Api_Net} (h : l[i]? = some v) : ∃ x : DD 31, (show List (DD 31) from l)[i]? = some x ∧ UU.cells 31 x = c31 v := ⟨v, h, rfl⟩

theorem ob33 {l : List (Int)} {i : Int} {v : Int} (h : nth l i = some v) : 0 ≤ i ∧ ∃ x : DD 33, (show List (DD 33) from l)[i.toNat]? = some x ∧ UU.cells 33 x = c33 v := ⟨(nth_out h).1, v, (nth_out h).2, rfl⟩
theorem obn33 {l : List (Int)} {i : Nat} {v : Int} (h : l[i]? = some v) : ∃ x : DD 33, (show List (DD 33) from l)[i]? = some x ∧ UU.cells 33 x = c33 v := ⟨v, h, rfl⟩

theorem ob37 {l : List (Api_Line)} {i : Int} {v : Api_Line} (h : nth l i = some v) : 0 ≤ i ∧ ∃ x : DD 37, (show List (DD 37) from l)[i.toNat]? = some x ∧ UU.cells 37 x = c37 v := ⟨(nth_out h).1, v, (nth_out h).2, rfl⟩
theorem obn37 {l : List (Api_Line)} {i : Nat} {v : Api_Line} (h : l[i]? = some v) : ∃ x : DD 37, (show List (DD 37) from l)[i]? = some x ∧ UU.cells 37 x = c37 v := ⟨v, h, rfl⟩

theorem ob49 {l : List (Api_Port)} {i : Int} {v : Api_Port} (h : nth l i = some v) : 0 ≤ i ∧ ∃ x : DD 49, (show List (DD 49) from l)[i.toNat]? = some x ∧ UU.cells 49 x = c49 v := ⟨(nth_out h).1, v, (nth_out h).2, rfl⟩
theorem obn49 {l : List (Api_Port)} {i : Nat} {v : Api_Port} (h : l[i]? = some v) : ∃ x : DD 49, (show List (DD 49) from l)[i]? = some x ∧ UU.cells 49 x = c49 v := ⟨v, h, rfl⟩

theorem ob54 {l : List (Api_Domain)} {i : Int} {v : Api_Domain} (h : nth l i = some v) : 0 ≤ i ∧ ∃ x : DD 54, (show List (DD 54) from l)[i.toNat]? = some x ∧ UU.cells 54 x = c54 v := ⟨(nth_out h).1, v, (nth_out h).2, rfl⟩
theorem obn54 {l : List (Api_Domain)} {i : Nat} {v : Api_Domain} (h : l[i]? = some v) : ∃ x : DD 54, (show List (DD 54) from l)[i]? = some x ∧ UU.cells 54 x = c54 v := ⟨v, h, rfl⟩

theorem ob57 {l : List (Api_Device)} {i : Int} {v : Api_Device} (h : nth l i = some v) : 0 ≤ i ∧ ∃ x : DD 57, (show List (DD 57) from l)[i.toNat]? = some x ∧ UU.cells 57 x = c57 v := ⟨(nth_out h).1, v, (nth_out h).2, rfl⟩
theorem obn57 {l : List (Api_Device)} {i : Nat} {v : Api_Device} (h : l[i]? = some v) : ∃ x : DD 57, (show List (DD 57) from l)[i]? = some x ∧ UU.cells 57 x = c57 v := ⟨v, h, rfl⟩

theorem ob59 {l : List (Api_Link)} {i : Int} {v : Api_Link} (h : nth l i = some v) : 0 ≤ i ∧ ∃ x : DD 59, (show List (DD 59) from l)[i.toNat]? = some x ∧ UU.cells 59 x = c59 v := ⟨(nth_out h).1, v, (nth_out h).2, rfl⟩
theorem obn59 {l : List (Api_Link)} {i : Nat} {v : Api_Link} (h : l[i]? = some v) : ∃ x : DD 59, (show List (DD 59) from l)[i]? = some x ∧ UU.cells 59 x = c59 v := ⟨v, h, rfl⟩

theorem ob65 {l : List (Api_Flood)} {i : Int} {v : Api_Flood} (h : nth l i = some v) : 0 ≤ i ∧ ∃ x : DD 65, (show List (DD 65) from l)[i.toNat]? = some x ∧ UU.cells 65 x = c65 v := ⟨(nth_out h).1, v, (nth_out h).2, rfl⟩
theorem obn65 {l : List (Api_Flood)} {i : Nat} {v : Api_Flood} (h : l[i]? = some v) : ∃ x : DD 65, (show List (DD 65) from l)[i]? = some x ∧ UU.cells 65 x = c65 v := ⟨v, h, rfl⟩

theorem ob67 {l : List (Api_Vrf)} {i : Int} {v : Api_Vrf} (h : nth l i = some v) : 0 ≤ i ∧ ∃ x : DD 67, (show List (DD 67) from l)[i.toNat]? = some x ∧ UU.cells 67 x = c67 v := ⟨(nth_out h).1, v, (nth_out h).2, rfl⟩
theorem obn67 {l : List (Api_Vrf)} {i : Nat} {v : Api_Vrf} (h : l[i]? = some v) : ∃ x : DD 67, (show List (DD 67) from l)[i]? = some x ∧ UU.cells 67 x = c67 v := ⟨v, h, rfl⟩

theorem ob75 {l : List (Api_Static)} {i : Int} {v : Api_Static} (h : nth l i = some v) : 0 ≤ i ∧ ∃ x : DD 75, (show List (DD 75) from l)[i.toNat]? = some x ∧ UU.cells 75 x = c75 v := ⟨(nth_out h).1, v, (nth_out h).2, rfl⟩
theorem obn75 {l : List (Api_Static)} {i : Nat} {v : Api_Static} (h : l[i]? = some v) : ∃ x : DD 75, (show List (DD 75) from l)[i]? = some x ∧ UU.cells 75 x = c75 v := ⟨v, h, rfl⟩

theorem ob78 {l : List (Api_Prefix)} {i : Int} {v : Api_Prefix} (h : nth l i = some v) : 0 ≤ i ∧ ∃ x : DD 78, (show List (DD 78) from l)[i.toNat]? = some x ∧ UU.cells 78 x = c78 v := ⟨(nth_out h).1, v, (nth_out h).2, rfl⟩
theorem obn78 {l : List (Api_Prefix)} {i : Nat} {v : Api_Prefix} (h : l[i]? = some v) : ∃ x : DD 78, (show List (DD 78) from l)[i]? = some x ∧ UU.cells 78 x = c78 v := ⟨v, h, rfl⟩

theorem ob80 {l : List (Api_Irb)} {i : Int} {v : Api_Irb} (h : nth l i = some v) : 0 ≤ i ∧ ∃ x : DD 80, (show List (DD 80) from l)[i.toNat]? = some x ∧ UU.cells 80 x = c80 v := ⟨(nth_out h).1, v, (nth_out h).2, rfl⟩
theorem obn80 {l : List (Api_Irb)} {i : Nat} {v : Api_Irb} (h : l[i]? = some v) : ∃ x : DD 80, (show List (DD 80) from l)[i]? = some x ∧ UU.cells 80 x = c80 v := ⟨v, h, rfl⟩

theorem ob96 {l : List (Names_judge)} {i : Int} {v : Names_judge} (h : nth l i = some v) : 0 ≤ i ∧ ∃ x : DD 96, (show List (DD 96) from l)[i.toNat]? = some x ∧ UU.cells 96 x = c96 v := ⟨(nth_out h).1, v, (nth_out h).2, rfl⟩
theorem obn96 {l : List (Names_judge)} {i : Nat} {v : Names_judge} (h : l[i]? = some v) : ∃ x : DD 96, (show List (DD 96) from l)[i]? = some x ∧ UU.cells 96 x = c96 v := ⟨v, h, rfl⟩

theorem cp_ob {n e : Nat} {l l2 : List (DD e)} {a b : Nat} : n = n ∧ ∃ xs : List (DD e), (AObj.arr e (l.take a ++ (l2.take (min l2.length (b - a)) ++ l.drop (a + min l2.length (b - a)))) n false) = .arr e (l.take a ++ (xs ++ l.drop (a + min l2.length (b - a)))) n false ∧ flatL UU e xs = flatL UU e (l2.take (min l2.length (b - a))) := ⟨rfl, _, rfl, rfl⟩
theorem cl_ob {n e : Nat} {l : List (DD e)} {a b : Nat} (y : DD e) : n = n ∧ ∃ y', (AObj.arr e (l.take a ++ (List.replicate (b - a) y ++ l.drop b)) n false) = .arr e (l.take a ++ (List.replicate (b - a) y' ++ l.drop b)) n false ∧ UU.cells e y' = UU.cells e y := ⟨rfl, y, rfl, rfl⟩
theorem st_ob {n e : Nat} {l : List (DD e)} {i : Nat} {A : Prop} (y : DD e) (r : List (AV DD)) (h : A) (hr : UU.cells e y = r) : n = n ∧ A ∧ ∃ y', (AObj.arr e (l.set i y) n false) = .arr e (l.set i y') n false ∧ UU.cells e y' = r := ⟨rfl, h, y, rfl, hr⟩
theorem bs_ob (e : Nat) (l : List (DD e)) : flatL UU e l = flatL UU e l ∧ l.length = l.length ∧ l.length = l.length := ⟨rfl, rfl, rfl⟩
theorem mk_ob {n m : Int} {b : Nat} (e : Nat) (z : DD e) (h : mkok b n m = true) : 0 ≤ n ∧ n ≤ m ∧ m * b ≤ 140737488355328 ∧ m < 9223372036854775808 ∧ ∃ y : DD e, List.replicate n.toNat z = List.replicate n.toNat y ∧ UU.cells e y = UU.cells e z := by
  have h := of_decide_eq_true h
  exact ⟨h.1, h.2.1, h.2.2.1, h.2.2.2, z, rfl, rfl⟩
theorem app_ob (e : Nat) {n b : Nat} {l xs : List (DD e)} (h : roomy b (l ++ xs) = true) : n = n ∧ (l ++ xs).length = (l ++ xs).length ∧ (l.length + xs.length) * b ≤ 140737488355328 ∧ l.length + xs.length < 9223372036854775808 ∧ ∃ xs', (AObj.arr e (l ++ xs) (l ++ xs).length false) = .arr e (l ++ xs') (l ++ xs).length false ∧ flatL UU e xs' = flatL UU e xs := by
  have h := of_decide_eq_true h
  rw [List.length_append] at h
  exact ⟨rfl, rfl, h.1, h.2, xs, rfl, rfl⟩
theorem apn_ob (e : Nat) {b : Nat} {l : List (DD e)} (h : roomy b l = true) : l.length * b ≤ 140737488355328 ∧ l.length < 9223372036854775808 ∧ l.length = l.length ∧ flatL UU e l = flatL UU e l ∧ l.length = l.length := by
  have h := of_decide_eq_true h
  exact ⟨h.1, h.2, rfl, rfl, rfl⟩

theorem mixedOrders : Try.prog.follows .mixedOrders = true := by kernel_rfl
@[reducible] def AV.z : AV DD := .v (.int .i64 0)
@[reducible] def AV.e : AV DD := .v (.string (⟨#[]⟩ : ByteArray))
@[reducible] def AObj.n (t : Nat) : AObj DD := .arr t [] 0 false
end Go.Eng
