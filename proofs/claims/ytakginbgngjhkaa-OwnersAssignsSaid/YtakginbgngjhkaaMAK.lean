/- Part of the proof of OwnersAssigns: printed mirrors of the functions, or their contracts. No conditions. -/
import Derived.Test.YtakginbgngjhkaaMAM
import Derived.Test.YtakginbgngjhkaaProg
set_option linter.unusedVariables false
set_option maxRecDepth 100000
namespace Go.Eng
open Go Go.Proofs
def DD : Den := fun t => match t with
  | 3 => Int
  | 5 => Int
  | 9 => ByteArray
  | 31 => Api_Net
  | 40 => Api_Domain
  | 56 => Api_Tenant
  | 60 => Api_Port
  | 73 => Int
  | 75 => Reach_Hop
  | 79 => Api_Frame
  | 92 => Api_Flood
  | 94 => Api_Vrf
  | 96 => Api_Device
  | 98 => Api_Link
  | 109 => Names_judge
  | 118 => Api_Static
  | 128 => Api_Prefix
  | 130 => Api_Irb
  | _ => Unit

def c3 (x : Int) : List (AV DD) := [.v (.int .i64 x)]

def c5 (x : Int) : List (AV DD) := [.v (.int .u8 x)]

def c9 (x : ByteArray) : List (AV DD) := [.v (.string x)]

def c31 (x : Api_Net) : List (AV DD) := [.sl 96 x.devices, .sl 60 x.ports, .sl 98 x.links, .sl 40 x.domains, .sl 118 x.statics, .sl 92 x.floods, .sl 94 x.vrfs, .sl 130 x.irbs]

def c40 (x : Api_Domain) : List (AV DD) := [.v (.int .i64 x.dev), .v (.int .i64 x.vlan), .v (.int .i64 x.vni), .v (.int .i64 x.irb), .v (.int .i64 x.row), .sl 3 x.peers]

def c56 (x : Api_Tenant) : List (AV DD) := [.v (.int .i64 x.row), .v (.string x.name), .sl 9 x.devs, .sl 9 x.ports]

def c60 (x : Api_Port) : List (AV DD) := [.v (.int .i64 x.row), .v (.int .i64 x.dev), .v (.int .i64 x.native), .v (.int .i64 x.cost), .v (.int .i64 x.link), .v (.string x.name), .sl 3 x.tagged]

def c73 (x : Int) : List (AV DD) := [.v (.int .u32 x)]

def c75 (x : Reach_Hop) : List (AV DD) := [.v (.int .i64 x.kind), .v (.int .i64 x.port), .v (.int .i64 x.domain), .v (.int .u32 x.addr)]

def c79 (x : Api_Frame) : List (AV DD) := [.v (.int .u64 x.dst), .v (.int .u64 x.src), .v (.int .i64 x.type_), .sl 5 x.body]

def c92 (x : Api_Flood) : List (AV DD) := [.v (.int .i64 x.row), .v (.int .i64 x.dev), .v (.int .i64 x.vni), .sl 73 x.addrs]

def c94 (x : Api_Vrf) : List (AV DD) := [.v (.int .i64 x.row), .v (.int .i64 x.dev), .v (.string x.name), .sl 3 x.imports, .sl 3 x.exports]

def c96 (x : Api_Device) : List (AV DD) := [.v (.int .i64 x.row), .v (.int .i64 x.priority), .v (.string x.name), .v (.int .u64 x.mac), .v (.int .u32 x.vtep)]

def c98 (x : Api_Link) : List (AV DD) := [.v (.int .i64 x.row), .v (.int .i64 x.a), .v (.int .i64 x.b)]

def c109 (x : Names_judge) : List (AV DD) := [.sl 96 x.n.devices, .sl 60 x.n.ports, .sl 98 x.n.links, .sl 40 x.n.domains, .sl 118 x.n.statics, .sl 92 x.n.floods, .sl 94 x.n.vrfs, .sl 130 x.n.irbs]

def c118 (x : Api_Static) : List (AV DD) := [.v (.int .i64 x.row), .v (.int .i64 x.domain), .v (.int .i64 x.port), .v (.int .u64 x.mac)]

def c128 (x : Api_Prefix) : List (AV DD) := [.v (.int .u32 x.addr), .v (.int .i64 x.bits)]

def c130 (x : Api_Irb) : List (AV DD) := [.v (.int .i64 x.row), .v (.int .i64 x.domain), .v (.int .i64 x.vrf), .v (.int .u32 x.net.addr), .v (.int .i64 x.net.bits)]

def cellsD : (t : Nat) → DD t → List (AV DD) := fun t => match t with
  | 3 => fun x => c3 x
  | 5 => fun x => c5 x
  | 9 => fun x => c9 x
  | 31 => fun x => c31 x
  | 40 => fun x => c40 x
  | 56 => fun x => c56 x
  | 60 => fun x => c60 x
  | 73 => fun x => c73 x
  | 75 => fun x => c75 x
  | 79 => fun x => c79 x
  | 92 => fun x => c92 x
  | 94 => fun x => c94 x
  | 96 => fun x => c96 x
  | 98 => fun x => c98 x
  | 109 => fun x => c109 x
  | 118 => fun x => c118 x
  | 128 => fun x => c128 x
  | 130 => fun x => c130 x
  | _ => fun _ => [.v (.bool true)]

def widthD : Nat → Nat := fun t => match t with
  | 3 => 1
  | 5 => 1
  | 9 => 1
  | 31 => 8
  | 40 => 6
  | 56 => 4
  | 60 => 7
  | 73 => 1
  | 75 => 4
  | 79 => 4
  | 92 => 4
  | 94 => 5
  | 96 => 5
  | 98 => 3
  | 109 => 8
  | 118 => 4
  | 128 => 2
  | 130 => 5
  | _ => 1

theorem cellsD_else {t : Nat} (x : DD t) (h : t ≠ 3 ∧ t ≠ 5 ∧ t ≠ 9 ∧ t ≠ 31 ∧ t ≠ 40 ∧ t ≠ 56 ∧ t ≠ 60 ∧ t ≠ 73 ∧ t ≠ 75 ∧ t ≠ 79 ∧ t ≠ 92 ∧ t ≠ 94 ∧ t ≠ 96 ∧ t ≠ 98 ∧ t ≠ 109 ∧ t ≠ 118 ∧ t ≠ 128 ∧ t ≠ 130) : cellsD t x = [.v (.bool true)] ∧ widthD t = 1 := by
  obtain ⟨h3, h5, h9, h31, h40, h56, h60, h73, h75, h79, h92, h94, h96, h98, h109, h118, h128, h130⟩ := h
  unfold cellsD widthD
  constructor
  · split <;> first | (exfalso; omega) | rfl
  · split <;> first | (exfalso; omega) | rfl

def UU : Univ DD where
  width := widthD
  cells := cellsD
  len t x := by
    by_cases h3 : t = 3
    · subst h3; rfl
    by_cases h5 : t = 5
    · subst h5; rfl
    by_cases h9 : t = 9
    · subst h9; rfl
    by_cases h31 : t = 31
    · subst h31; rfl
    by_cases h40 : t = 40
    · subst h40; rfl
    by_cases h56 : t = 56
    · subst h56; rfl
    by_cases h60 : t = 60
    · subst h60; rfl
    by_cases h73 : t = 73
    · subst h73; rfl
    by_cases h75 : t = 75
    · subst h75; rfl
    by_cases h79 : t = 79
    · subst h79; rfl
    by_cases h92 : t = 92
    · subst h92; rfl
    by_cases h94 : t = 94
    · subst h94; rfl
    by_cases h96 : t = 96
    · subst h96; rfl
    by_cases h98 : t = 98
    · subst h98; rfl
    by_cases h109 : t = 109
    · subst h109; rfl
    by_cases h118 : t = 118
    · subst h118; rfl
    by_cases h128 : t = 128
    · subst h128; rfl
    by_cases h130 : t = 130
    · subst h130; rfl
    rw [(cellsD_else x ⟨h3, h5, h9, h31, h40, h56, h60, h73, h75, h79, h92, h94, h96, h98, h109, h118, h128, h130⟩).1, (cellsD_else x ⟨h3, h5, h9, h31, h40, h56, h60, h73, h75, h79, h92, h94, h96, h98, h109, h118, h128, h130⟩).2]; rfl
  pos t := by
    by_cases h3 : t = 3
    · subst h3; exact Nat.le_of_ble_eq_true rfl
    by_cases h5 : t = 5
    · subst h5; exact Nat.le_of_ble_eq_true rfl
    by_cases h9 : t = 9
    · subst h9; exact Nat.le_of_ble_eq_true rfl
    by_cases h31 : t = 31
    · subst h31; exact Nat.le_of_ble_eq_true rfl
    by_cases h40 : t = 40
    · subst h40; exact Nat.le_of_ble_eq_true rfl
    by_cases h56 : t = 56
    · subst h56; exact Nat.le_of_ble_eq_true rfl
    by_cases h60 : t = 60
    · subst h60; exact Nat.le_of_ble_eq_true rfl
    by_cases h73 : t = 73
    · subst h73; exact Nat.le_of_ble_eq_true rfl
    by_cases h75 : t = 75
    · subst h75; exact Nat.le_of_ble_eq_true rfl
    by_cases h79 : t = 79
    · subst h79; exact Nat.le_of_ble_eq_true rfl
    by_cases h92 : t = 92
    · subst h92; exact Nat.le_of_ble_eq_true rfl
    by_cases h94 : t = 94
    · subst h94; exact Nat.le_of_ble_eq_true rfl
    by_cases h96 : t = 96
    · subst h96; exact Nat.le_of_ble_eq_true rfl
    by_cases h98 : t = 98
    · subst h98; exact Nat.le_of_ble_eq_true rfl
    by_cases h109 : t = 109
    · subst h109; exact Nat.le_of_ble_eq_true rfl
    by_cases h118 : t = 118
    · subst h118; exact Nat.le_of_ble_eq_true rfl
    by_cases h128 : t = 128
    · subst h128; exact Nat.le_of_ble_eq_true rfl
    by_cases h130 : t = 130
    · subst h130; exact Nat.le_of_ble_eq_true rfl
    unfold widthD; split <;> omega
  ok t x := by
    by_cases h3 : t = 3
    · subst h3; rfl
    by_cases h5 : t = 5
    · subst h5; rfl
    by_cases h9 : t = 9
    · subst h9; rfl
    by_cases h31 : t = 31
    · subst h31; rfl
    by_cases h40 : t = 40
    · subst h40; rfl
    by_cases h56 : t = 56
    · subst h56; rfl
    by_cases h60 : t = 60
    · subst h60; rfl
    by_cases h73 : t = 73
    · subst h73; rfl
    by_cases h75 : t = 75
    · subst h75; rfl
    by_cases h79 : t = 79
    · subst h79; rfl
    by_cases h92 : t = 92
    · subst h92; rfl
    by_cases h94 : t = 94
    · subst h94; rfl
    by_cases h96 : t = 96
    · subst h96; rfl
    by_cases h98 : t = 98
    · subst h98; rfl
    by_cases h109 : t = 109
    · subst h109; rfl
    by_cases h118 : t = 118
    · subst h118; rfl
    by_cases h128 : t = 128
    · subst h128; rfl
    by_cases h130 : t = 130
    · subst h130; rfl
    rw [(cellsD_else x ⟨h3, h5, h9, h31, h40, h56, h60, h73, h75, h79, h92, h94, h96, h98, h109, h118, h128, h130⟩).1]; rfl

theorem im_all {t : Nat} (h : ∀ x : DD t, (UU.cells t x).all immC = true) (l : List (DD t)) : (flatL UU t l).all immC = true := by
  induction l with
  | nil => rfl
  | cons x l ih => simp only [flatL, List.flatMap_cons, List.all_append, Bool.and_eq_true]; exact ⟨h x, ih⟩

theorem im3 (l : List (DD 3)) : (flatL UU 3 l).all immC = true := im_all (fun _ => rfl) l

theorem im5 (l : List (DD 5)) : (flatL UU 5 l).all immC = true := im_all (fun _ => rfl) l

theorem im9 (l : List (DD 9)) : (flatL UU 9 l).all immC = true := im_all (fun _ => rfl) l

theorem im73 (l : List (DD 73)) : (flatL UU 73 l).all immC = true := im_all (fun _ => rfl) l

theorem im75 (l : List (DD 75)) : (flatL UU 75 l).all immC = true := im_all (fun _ => rfl) l

theorem im96 (l : List (DD 96)) : (flatL UU 96 l).all immC = true := im_all (fun _ => rfl) l

theorem im98 (l : List (DD 98)) : (flatL UU 98 l).all immC = true := im_all (fun _ => rfl) l

theorem im118 (l : List (DD 118)) : (flatL UU 118 l).all immC = true := im_all (fun _ => rfl) l

theorem im128 (l : List (DD 128)) : (flatL UU 128 l).all immC = true := im_all (fun _ => rfl) l

theorem im130 (l : List (DD 130)) : (flatL UU 130 l).all immC = true := im_all (fun _ => rfl) l

theorem ob3 {l : List (Int)} {i : Int} {v : Int} (h : nth l i = some v) : 0 ≤ i ∧ ∃ x : DD 3, (show List (DD 3) from l)[i.toNat]? = some x ∧ UU.cells 3 x = c3 v := ⟨(nth_out h).1, v, (nth_out h).2, rfl⟩
theorem obn3 {l : List (Int)} {i : Nat} {v : Int} (h : l[i]? = some v) : ∃ x : DD 3, (show List (DD 3) from l)[i]? = some x ∧ UU.cells 3 x = c3 v := ⟨v, h, rfl⟩

theorem ob5 {l : List (Int)} {i : Int} {v : Int} (h : nth l i = some v) : 0 ≤ i ∧ ∃ x : DD 5, (show List (DD 5) from l)[i.toNat]? = some x ∧ UU.cells 5 x = c5 v := ⟨(nth_out h).1, v, (nth_out h).2, rfl⟩
theorem obn5 {l : List (Int)} {i : Nat} {v : Int} (h : l[i]? = some v) : ∃ x : DD 5, (show List (DD 5) from l)[i]? = some x ∧ UU.cells 5 x = c5 v := ⟨v, h, rfl⟩

theorem ob9 {l : List (ByteArray)} {i : Int} {v : ByteArray} (h : nth l i = some v) : 0 ≤ i ∧ ∃ x : DD 9, (show List (DD 9) from l)[i.toNat]? = some x ∧ UU.cells 9 x = c9 v := ⟨(nth_out h).1, v, (nth_out h).2, rfl⟩
theorem obn9 {l : List (ByteArray)} {i : Nat} {v : ByteArray} (h : l[i]? = some v) : ∃ x : DD 9, (show List (DD 9) from l)[i]? = some x ∧ UU.cells 9 x = c9 v := ⟨v, h, rfl⟩

theorem ob31 {l : List (Api_Net)} {i : Int} {v : Api_Net} (h : nth l i = some v) : 0 ≤ i ∧ ∃ x : DD 31, (show List (DD 31) from l)[i.toNat]? = some x ∧ UU.cells 31 x = c31 v := ⟨(nth_out h).1, v, (nth_out h).2, rfl⟩
theorem obn31 {l : List (Api_Net)} {i : Nat} {v : Api_Net} (h : l[i]? = some v) : ∃ x : DD 31, (show List (DD 31) from l)[i]? = some x ∧ UU.cells 31 x = c31 v := ⟨v, h, rfl⟩

theorem ob40 {l : List (Api_Domain)} {i : Int} {v : Api_Domain} (h : nth l i = some v) : 0 ≤ i ∧ ∃ x : DD 40, (show List (DD 40) from l)[i.toNat]? = some x ∧ UU.cells 40 x = c40 v := ⟨(nth_out h).1, v, (nth_out h).2, rfl⟩
theorem obn40 {l : List (Api_Domain)} {i : Nat} {v : Api_Domain} (h : l[i]? = some v) : ∃ x : DD 40, (show List (DD 40) from l)[i]? = some x ∧ UU.cells 40 x = c40 v := ⟨v, h, rfl⟩

theorem ob56 {l : List (Api_Tenant)} {i : Int} {v : Api_Tenant} (h : nth l i = some v) : 0 ≤ i ∧ ∃ x : DD 56, (show List (DD 56) from l)[i.toNat]? = some x ∧ UU.cells 56 x = c56 v := ⟨(nth_out h).1, v, (nth_out h).2, rfl⟩
theorem obn56 {l : List (Api_Tenant)} {i : Nat} {v : Api_Tenant} (h : l[i]? = some v) : ∃ x : DD 56, (show List (DD 56) from l)[i]? = some x ∧ UU.cells 56 x = c56 v := ⟨v, h, rfl⟩

theorem ob60 {l : List (Api_Port)} {i : Int} {v : Api_Port} (h : nth l i = some v) : 0 ≤ i ∧ ∃ x : DD 60, (show List (DD 60) from l)[i.toNat]? = some x ∧ UU.cells 60 x = c60 v := ⟨(nth_out h).1, v, (nth_out h).2, rfl⟩
theorem obn60 {l : List (Api_Port)} {i : Nat} {v : Api_Port} (h : l[i]? = some v) : ∃ x : DD 60, (show List (DD 60) from l)[i]? = some x ∧ UU.cells 60 x = c60 v := ⟨v, h, rfl⟩

theorem ob73 {l : List (Int)} {i : Int} {v : Int} (h : nth l i = some v) : 0 ≤ i ∧ ∃ x : DD 73, (show List (DD 73) from l)[i.toNat]? = some x ∧ UU.cells 73 x = c73 v := ⟨(nth_out h).1, v, (nth_out h).2, rfl⟩
theorem obn73 {l : List (Int)} {i : Nat} {v : Int} (h : l[i]? = some v) : ∃ x : DD 73, (show List (DD 73) from l)[i]? = some x ∧ UU.cells 73 x = c73 v := ⟨v, h, rfl⟩

theorem ob75 {l : List (Reach_Hop)} {i : Int} {v : Reach_Hop} (h : nth l i = some v) : 0 ≤ i ∧ ∃ x : DD 75, (show List (DD 75) from l)[i.toNat]? = some x ∧ UU.cells 75 x = c75 v := ⟨(nth_out h).1, v, (nth_out h).2, rfl⟩
theorem obn75 {l : List (Reach_Hop)} {i : Nat} {v : Reach_Hop} (h : l[i]? = some v) : ∃ x : DD 75, (show List (DD 75) from l)[i]? = some x ∧ UU.cells 75 x = c75 v := ⟨v, h, rfl⟩

theorem ob79 {l : List (Api_Frame)} {i : Int} {v : Api_Frame} (h : nth l i = some v) : 0 ≤ i ∧ ∃ x : DD 79, (show List (DD 79) from l)[i.toNat]? = some x ∧ UU.cells 79 x = c79 v := ⟨(nth_out h).1, v, (nth_out h).2, rfl⟩
theorem obn79 {l : List (Api_Frame)} {i : Nat} {v : Api_Frame} (h : l[i]? = some v) : ∃ x : DD 79, (show List (DD 79) from l)[i]? = some x ∧ UU.cells 79 x = c79 v := ⟨v, h, rfl⟩

theorem ob92 {l : List (Api_Flood)} {i : Int} {v : Api_Flood} (h : nth l i = some v) : 0 ≤ i ∧ ∃ x : DD 92, (show List (DD 92) from l)[i.toNat]? = some x ∧ UU.cells 92 x = c92 v := ⟨(nth_out h).1, v, (nth_out h).2, rfl⟩
theorem obn92 {l : List (Api_Flood)} {i : Nat} {v : Api_Flood} (h : l[i]? = some v) : ∃ x : DD 92, (show List (DD 92) from l)[i]? = some x ∧ UU.cells 92 x = c92 v := ⟨v, h, rfl⟩

theorem ob94 {l : List (Api_Vrf)} {i : Int} {v : Api_Vrf} (h : nth l i = some v) : 0 ≤ i ∧ ∃ x : DD 94, (show List (DD 94) from l)[i.toNat]? = some x ∧ UU.cells 94 x = c94 v := ⟨(nth_out h).1, v, (nth_out h).2, rfl⟩
theorem obn94 {l : List (Api_Vrf)} {i : Nat} {v : Api_Vrf} (h : l[i]? = some v) : ∃ x : DD 94, (show List (DD 94) from l)[i]? = some x ∧ UU.cells 94 x = c94 v := ⟨v, h, rfl⟩

theorem ob96 {l : List (Api_Device)} {i : Int} {v : Api_Device} (h : nth l i = some v) : 0 ≤ i ∧ ∃ x : DD 96, (show List (DD 96) from l)[i.toNat]? = some x ∧ UU.cells 96 x = c96 v := ⟨(nth_out h).1, v, (nth_out h).2, rfl⟩
theorem obn96 {l : List (Api_Device)} {i : Nat} {v : Api_Device} (h : l[i]? = some v) : ∃ x : DD 96, (show List (DD 96) from l)[i]? = some x ∧ UU.cells 96 x = c96 v := ⟨v, h, rfl⟩

theorem ob98 {l : List (Api_Link)} {i : Int} {v : Api_Link} (h : nth l i = some v) : 0 ≤ i ∧ ∃ x : DD 98, (show List (DD 98) from l)[i.toNat]? = some x ∧ UU.cells 98 x = c98 v := ⟨(nth_out h).1, v, (nth_out h).2, rfl⟩
theorem obn98 {l : List (Api_Link)} {i : Nat} {v : Api_Link} (h : l[i]? = some v) : ∃ x : DD 98, (show List (DD 98) from l)[i]? = some x ∧ UU.cells 98 x = c98 v := ⟨v, h, rfl⟩

theorem ob109 {l : List (Names_judge)} {i : Int} {v : Names_judge} (h : nth l i = some v) : 0 ≤ i ∧ ∃ x : DD 109, (show List (DD 109) from l)[i.toNat]? = some x ∧ UU.cells 109 x = c109 v := ⟨(nth_out h).1, v, (nth_out h).2, rfl⟩
theorem obn109 {l : List (Names_judge)} {i : Nat} {v : Names_judge} (h : l[i]? = some v) : ∃ x : DD 109, (show List (DD 109) from l)[i]? = some x ∧ UU.cells 109 x = c109 v := ⟨v, h, rfl⟩

theorem ob118 {l : List (Api_Static)} {i : Int} {v : Api_Static} (h : nth l i = some v) : 0 ≤ i ∧ ∃ x : DD 118, (show List (DD 118) from l)[i.toNat]? = some x ∧ UU.cells 118 x = c118 v := ⟨(nth_out h).1, v, (nth_out h).2, rfl⟩
theorem obn118 {l : List (Api_Static)} {i : Nat} {v : Api_Static} (h : l[i]? = some v) : ∃ x : DD 118, (show List (DD 118) from l)[i]? = some x ∧ UU.cells 118 x = c118 v := ⟨v, h, rfl⟩

theorem ob128 {l : List (Api_Prefix)} {i : Int} {v : Api_Prefix} (h : nth l i = some v) : 0 ≤ i ∧ ∃ x : DD 128, (show List (DD 128) from l)[i.toNat]? = some x ∧ UU.cells 128 x = c128 v := ⟨(nth_out h).1, v, (nth_out h).2, rfl⟩
theorem obn128 {l : List (Api_Prefix)} {i : Nat} {v : Api_Prefix} (h : l[i]? = some v) : ∃ x : DD 128, (show List (DD 128) from l)[i]? = some x ∧ UU.cells 128 x = c128 v := ⟨v, h, rfl⟩

theorem ob130 {l : List (Api_Irb)} {i : Int} {v : Api_Irb} (h : nth l i = some v) : 0 ≤ i ∧ ∃ x : DD 130, (show List (DD 130) from l)[i.toNat]? = some x ∧ UU.cells 130 x = c130 v := ⟨(nth_out h).1, v, (nth_out h).2, rfl⟩
theorem obn130 {l : List (Api_Irb)} {i : Nat} {v : Api_Irb} (h : l[i]? = some v) : ∃ x : DD 130, (show List (DD 130) from l)[i]? = some x ∧ UU.cells 130 x = c130 v := ⟨v, h, rfl⟩

theorem cvb5 (l : List Int) : ∃ ns : List Int, flatL UU 5 (show List (DD 5) from l) = ns.map (fun n => (.v (.int .u8 n) : AV DD)) ∧ bstr l = ⟨(ns.map fun n => UInt8.ofNat n.toNat).toArray⟩ := ⟨l, by
  induction l with
  | nil => rfl
  | cons x l ih => exact congrArg (List.cons _) ih, rfl⟩

theorem cp_ob {n e : Nat} {l l2 : List (DD e)} {a b : Nat} : n = n ∧ ∃ xs : List (DD e), (AObj.arr e (l.take a ++ (l2.take (min l2.length (b - a)) ++ l.drop (a + min l2.length (b - a)))) n false) = .arr e (l.take a ++ (xs ++ l.drop (a + min l2.length (b - a)))) n false ∧ flatL UU e xs = flatL UU e (l2.take (min l2.length (b - a))) := ⟨rfl, _, rfl, rfl⟩
theorem cl_ob {n e : Nat} {l : List (DD e)} {a b : Nat} (y : DD e) : n = n ∧ ∃ y', (AObj.arr e (l.take a ++ (List.replicate (b - a) y ++ l.drop b)) n false) = .arr e (l.take a ++ (List.replicate (b - a) y' ++ l.drop b)) n false ∧ UU.cells e y' = UU.cells e y := ⟨rfl, y, rfl, rfl⟩
theorem st_ob {n e : Nat} {l : List (DD e)} {i : Nat} {A : Prop} (y : DD e) (r : List (AV DD)) (h : A) (hr : UU.cells e y = r) : n = n ∧ A ∧ ∃ y', (AObj.arr e (l.set i y) n false) = .arr e (l.set i y') n false ∧ UU.cells e y' = r := ⟨rfl, h, y, rfl, hr⟩
theorem bs_ob (e : Nat) (l : List (DD e)) : flatL UU e l = flatL UU e l ∧ l.length = l.length ∧ l.length = l.length := ⟨rfl, rfl, rfl⟩
theorem mk_ob {n m : Int} {b : Nat} (e : Nat) (z : DD e) (h : mkok b n m = true) : 0 ≤ n ∧ n ≤ m ∧ m * b ≤ 140737488355328 ∧ m < 9223372036854775808 ∧ ∃ y : DD e, List.replicate n.toNat z = List.replicate n.toNat y ∧ UU.cells e y = UU.cells e z := by
  have h := of_decide_eq_true h
  exact ⟨h.1, h.2.1, h.2.2.1, h.2.2.2, z, rfl, rfl⟩
theorem app_ob (e : Nat) {n b : Nat} {l xs : List (DD e)} (h : roomy b (l ++ xs) = true) : n = n ∧ (l ++ xs).length = (l ++ xs).length ∧ (l.length + xs.length) * b ≤ 140737488355328 ∧ l.length + xs.length < 9223372036854775808 ∧ ∃ xs', (AObj.arr e (l ++ xs) (l ++ xs).length false) = .arr e (l ++ xs') (l ++ xs).length false ∧ flatL UU e xs' = flatL UU e xs := by
  have h := of_decide_eq_true h
  rw [List.length_append] at h
  exact ⟨rfl, rfl, h.1, h.2, xs, rfl, rfl⟩
theorem apn_ob (e : Nat) {b : Nat} {l : List (DD e)} (h : roomy b l = true) : l.length * b ≤ 140737488355328 ∧ l.length < 9223372036854775808 ∧ l.length = l.length ∧ flatL UU e l = flatL UU e l ∧ l.length = l.length := by
  have h := of_decide_eq_true h
  exact ⟨h.1, h.2, rfl, rfl, rfl⟩

theorem mixedOrders : Try.prog.follows .mixedOrders = true := by kernel_rfl
@[reducible] def AV.z : AV DD := .v (.int .i64 0)
@[reducible] def AV.e : AV DD := .v (.string (⟨#[]⟩ : ByteArray))
@[reducible] def AObj.n (t : Nat) : AObj DD := .arr t [] 0 false
end Go.Eng
