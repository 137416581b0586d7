/- Part of the proof of LookupWithin: printed mirrors of the functions, or their contracts. No conditions. -/
import Derived.Test.YthagnfgaibaokaaMAM
import Derived.Test.YthagnfgaibaokaaProg
set_option linter.unusedVariables false
set_option maxRecDepth 100000
namespace Go.Eng
open Go Go.Proofs
def DD : Den := fun t => match t with
  | 3 => Int
  | 4 => Bool
  | 5 => Int
  | 9 => ByteArray
  | 31 => Api_Net
  | 36 => Api_Port
  | 41 => Api_Link
  | 51 => Int
  | 52 => Int
  | 54 => Api_Device
  | 56 => Api_Domain
  | 58 => Api_Vrf
  | 68 => Palingref36_Lead
  | 69 => Choose_Lead
  | 72 => Api_Prefix
  | 74 => Api_Irb
  | 91 => Api_Flood
  | 93 => Names_judge
  | 102 => Api_Static
  | 139 => Api_Entry
  | 153 => Lookup_room
  | _ => Unit

def c3 (x : Int) : List (AV DD) := [.v (.int .i64 x)]

def c4 (x : Bool) : List (AV DD) := [.v (.bool x)]

def c5 (x : Int) : List (AV DD) := [.v (.int .u8 x)]

def c9 (x : ByteArray) : List (AV DD) := [.v (.string x)]

def c31 (x : Api_Net) : List (AV DD) := [.sl 54 x.devices, .sl 36 x.ports, .sl 41 x.links, .sl 56 x.domains, .sl 102 x.statics, .sl 91 x.floods, .sl 58 x.vrfs, .sl 74 x.irbs]

def c36 (x : Api_Port) : List (AV DD) := [.v (.int .i64 x.row), .v (.int .i64 x.dev), .v (.int .i64 x.native), .v (.int .i64 x.cost), .v (.int .i64 x.link), .v (.string x.name), .sl 3 x.tagged]

def c41 (x : Api_Link) : List (AV DD) := [.v (.int .i64 x.row), .v (.int .i64 x.a), .v (.int .i64 x.b)]

def c51 (x : Int) : List (AV DD) := [.v (.int .u64 x)]

def c52 (x : Int) : List (AV DD) := [.v (.int .u32 x)]

def c54 (x : Api_Device) : List (AV DD) := [.v (.int .i64 x.row), .v (.int .i64 x.priority), .v (.string x.name), .v (.int .u64 x.mac), .v (.int .u32 x.vtep)]

def c56 (x : Api_Domain) : List (AV DD) := [.v (.int .i64 x.dev), .v (.int .i64 x.vlan), .v (.int .i64 x.vni), .v (.int .i64 x.irb), .v (.int .i64 x.row), .sl 3 x.peers]

def c58 (x : Api_Vrf) : List (AV DD) := [.v (.int .i64 x.row), .v (.int .i64 x.dev), .v (.string x.name), .sl 3 x.imports, .sl 3 x.exports]

def c68 (x : Palingref36_Lead) : List (AV DD) := [.v (.int .i64 x.to), .v (.int .i64 x.domain), .v (.int .u32 x.addr)]

def c69 (x : Choose_Lead) : List (AV DD) := [.v (.int .i64 x.to), .v (.int .i64 x.domain), .v (.int .u32 x.addr)]

def c72 (x : Api_Prefix) : List (AV DD) := [.v (.int .u32 x.addr), .v (.int .i64 x.bits)]

def c74 (x : Api_Irb) : List (AV DD) := [.v (.int .i64 x.row), .v (.int .i64 x.domain), .v (.int .i64 x.vrf), .v (.int .u32 x.net.addr), .v (.int .i64 x.net.bits)]

def c91 (x : Api_Flood) : List (AV DD) := [.v (.int .i64 x.row), .v (.int .i64 x.dev), .v (.int .i64 x.vni), .sl 52 x.addrs]

def c93 (x : Names_judge) : List (AV DD) := [.sl 54 x.n.devices, .sl 36 x.n.ports, .sl 41 x.n.links, .sl 56 x.n.domains, .sl 102 x.n.statics, .sl 91 x.n.floods, .sl 58 x.n.vrfs, .sl 74 x.n.irbs]

def c102 (x : Api_Static) : List (AV DD) := [.v (.int .i64 x.row), .v (.int .i64 x.domain), .v (.int .i64 x.port), .v (.int .u64 x.mac)]

def c139 (x : Api_Entry) : List (AV DD) := [.v (.int .u64 x.mac), .v (.int .i64 x.where_), .v (.int .i64 x.seen)]

def c153 (x : Lookup_room) : List (AV DD) := [.sl 54 x.n.devices, .sl 36 x.n.ports, .sl 41 x.n.links, .sl 56 x.n.domains, .sl 102 x.n.statics, .sl 91 x.n.floods, .sl 58 x.n.vrfs, .sl 74 x.n.irbs, .sl 4 x.forward, .v (.int .i64 x.at_), .v (.int .i64 x.from_), .sl 3 x.members]

def cellsD : (t : Nat) → DD t → List (AV DD) := fun t => match t with
  | 3 => fun x => c3 x
  | 4 => fun x => c4 x
  | 5 => fun x => c5 x
  | 9 => fun x => c9 x
  | 31 => fun x => c31 x
  | 36 => fun x => c36 x
  | 41 => fun x => c41 x
  | 51 => fun x => c51 x
  | 52 => fun x => c52 x
  | 54 => fun x => c54 x
  | 56 => fun x => c56 x
  | 58 => fun x => c58 x
  | 68 => fun x => c68 x
  | 69 => fun x => c69 x
  | 72 => fun x => c72 x
  | 74 => fun x => c74 x
  | 91 => fun x => c91 x
  | 93 => fun x => c93 x
  | 102 => fun x => c102 x
  | 139 => fun x => c139 x
  | 153 => fun x => c153 x
  | _ => fun _ => [.v (.bool true)]

def widthD : Nat → Nat := fun t => match t with
  | 3 => 1
  | 4 => 1
  | 5 => 1
  | 9 => 1
  | 31 => 8
  | 36 => 7
  | 41 => 3
  | 51 => 1
  | 52 => 1
  | 54 => 5
  | 56 => 6
  | 58 => 5
  | 68 => 3
  | 69 => 3
  | 72 => 2
  | 74 => 5
  | 91 => 4
  | 93 => 8
  | 102 => 4
  | 139 => 3
  | 153 => 12
  | _ => 1

theorem cellsD_else {t : Nat} (x : DD t) (h : t ≠ 3 ∧ t ≠ 4 ∧ t ≠ 5 ∧ t ≠ 9 ∧ t ≠ 31 ∧ t ≠ 36 ∧ t ≠ 41 ∧ t ≠ 51 ∧ t ≠ 52 ∧ t ≠ 54 ∧ t ≠ 56 ∧ t ≠ 58 ∧ t ≠ 68 ∧ t ≠ 69 ∧ t ≠ 72 ∧ t ≠ 74 ∧ t ≠ 91 ∧ t ≠ 93 ∧ t ≠ 102 ∧ t ≠ 139 ∧ t ≠ 153) : cellsD t x = [.v (.bool true)] ∧ widthD t = 1 := by
  obtain ⟨h3, h4, h5, h9, h31, h36, h41, h51, h52, h54, h56, h58, h68, h69, h72, h74, h91, h93, h102, h139, h153⟩ := h
  unfold cellsD widthD
  constructor
  · split <;> first | (exfalso; omega) | rfl
  · split <;> first | (exfalso; omega) | rfl

def UU : Univ DD where
  width := widthD
  cells := cellsD
  len t x := by
    by_cases h3 : t = 3
    · subst h3; rfl
    by_cases h4 : t = 4
    · subst h4; rfl
    by_cases h5 : t = 5
    · subst h5; rfl
    by_cases h9 : t = 9
    · subst h9; rfl
    by_cases h31 : t = 31
    · subst h31; rfl
    by_cases h36 : t = 36
    · subst h36; rfl
    by_cases h41 : t = 41
    · subst h41; rfl
    by_cases h51 : t = 51
    · subst h51; rfl
    by_cases h52 : t = 52
    · subst h52; rfl
    by_cases h54 : t = 54
    · subst h54; rfl
    by_cases h56 : t = 56
    · subst h56; rfl
    by_cases h58 : t = 58
    · subst h58; rfl
    by_cases h68 : t = 68
    · subst h68; rfl
    by_cases h69 : t = 69
    · subst h69; rfl
    by_cases h72 : t = 72
    · subst h72; rfl
    by_cases h74 : t = 74
    · subst h74; rfl
    by_cases h91 : t = 91
    · subst h91; rfl
    by_cases h93 : t = 93
    · subst h93; rfl
    by_cases h102 : t = 102
    · subst h102; rfl
    by_cases h139 : t = 139
    · subst h139; rfl
    by_cases h153 : t = 153
    · subst h153; rfl
    rw [(cellsD_else x ⟨h3, h4, h5, h9, h31, h36, h41, h51, h52, h54, h56, h58, h68, h69, h72, h74, h91, h93, h102, h139, h153⟩).1, (cellsD_else x ⟨h3, h4, h5, h9, h31, h36, h41, h51, h52, h54, h56, h58, h68, h69, h72, h74, h91, h93, h102, h139, h153⟩).2]; rfl
  pos t := by
    by_cases h3 : t = 3
    · subst h3; exact Nat.le_of_ble_eq_true rfl
    by_cases h4 : t = 4
    · subst h4; exact Nat.le_of_ble_eq_true rfl
    by_cases h5 : t = 5
    · subst h5; exact Nat.le_of_ble_eq_true rfl
    by_cases h9 : t = 9
    · subst h9; exact Nat.le_of_ble_eq_true rfl
    by_cases h31 : t = 31
    · subst h31; exact Nat.le_of_ble_eq_true rfl
    by_cases h36 : t = 36
    · subst h36; exact Nat.le_of_ble_eq_true rfl
    by_cases h41 : t = 41
    · subst h41; exact Nat.le_of_ble_eq_true rfl
    by_cases h51 : t = 51
    · subst h51; exact Nat.le_of_ble_eq_true rfl
    by_cases h52 : t = 52
    · subst h52; exact Nat.le_of_ble_eq_true rfl
    by_cases h54 : t = 54
    · subst h54; exact Nat.le_of_ble_eq_true rfl
    by_cases h56 : t = 56
    · subst h56; exact Nat.le_of_ble_eq_true rfl
    by_cases h58 : t = 58
    · subst h58; exact Nat.le_of_ble_eq_true rfl
    by_cases h68 : t = 68
    · subst h68; exact Nat.le_of_ble_eq_true rfl
    by_cases h69 : t = 69
    · subst h69; exact Nat.le_of_ble_eq_true rfl
    by_cases h72 : t = 72
    · subst h72; exact Nat.le_of_ble_eq_true rfl
    by_cases h74 : t = 74
    · subst h74; exact Nat.le_of_ble_eq_true rfl
    by_cases h91 : t = 91
    · subst h91; exact Nat.le_of_ble_eq_true rfl
    by_cases h93 : t = 93
    · subst h93; exact Nat.le_of_ble_eq_true rfl
    by_cases h102 : t = 102
    · subst h102; exact Nat.le_of_ble_eq_true rfl
    by_cases h139 : t = 139
    · subst h139; exact Nat.le_of_ble_eq_true rfl
    by_cases h153 : t = 153
    · subst h153; exact Nat.le_of_ble_eq_true rfl
    unfold widthD; split <;> omega
  ok t x := by
    by_cases h3 : t = 3
    · subst h3; rfl
    by_cases h4 : t = 4
    · subst h4; rfl
    by_cases h5 : t = 5
    · subst h5; rfl
    by_cases h9 : t = 9
    · subst h9; rfl
    by_cases h31 : t = 31
    · subst h31; rfl
    by_cases h36 : t = 36
    · subst h36; rfl
    by_cases h41 : t = 41
    · subst h41; rfl
    by_cases h51 : t = 51
    · subst h51; rfl
    by_cases h52 : t = 52
    · subst h52; rfl
    by_cases h54 : t = 54
    · subst h54; rfl
    by_cases h56 : t = 56
    · subst h56; rfl
    by_cases h58 : t = 58
    · subst h58; rfl
    by_cases h68 : t = 68
    · subst h68; rfl
    by_cases h69 : t = 69
    · subst h69; rfl
    by_cases h72 : t = 72
    · subst h72; rfl
    by_cases h74 : t = 74
    · subst h74; rfl
    by_cases h91 : t = 91
    · subst h91; rfl
    by_cases h93 : t = 93
    · subst h93; rfl
    by_cases h102 : t = 102
    · subst h102; rfl
    by_cases h139 : t = 139
    · subst h139; rfl
    by_cases h153 : t = 153
    · subst h153; rfl
    rw [(cellsD_else x ⟨h3, h4, h5, h9, h31, h36, h41, h51, h52, h54, h56, h58, h68, h69, h72, h74, h91, h93, h102, h139, h153⟩).1]; rfl

theorem im_all {t : Nat} (h : ∀ x : DD t, (UU.cells t x).all immC = true) (l : List (DD t)) : (flatL UU t l).all immC = true := by
  induction l with
  | nil => rfl
  | cons x l ih => simp only [flatL, List.flatMap_cons, List.all_append, Bool.and_eq_true]; exact ⟨h x, ih⟩

theorem im3 (l : List (DD 3)) : (flatL UU 3 l).all immC = true := im_all (fun _ => rfl) l

theorem im4 (l : List (DD 4)) : (flatL UU 4 l).all immC = true := im_all (fun _ => rfl) l

theorem im5 (l : List (DD 5)) : (flatL UU 5 l).all immC = true := im_all (fun _ => rfl) l

theorem im9 (l : List (DD 9)) : (flatL UU 9 l).all immC = true := im_all (fun _ => rfl) l

theorem im41 (l : List (DD 41)) : (flatL UU 41 l).all immC = true := im_all (fun _ => rfl) l

theorem im51 (l : List (DD 51)) : (flatL UU 51 l).all immC = true := im_all (fun _ => rfl) l

theorem im52 (l : List (DD 52)) : (flatL UU 52 l).all immC = true := im_all (fun _ => rfl) l

theorem im54 (l : List (DD 54)) : (flatL UU 54 l).all immC = true := im_all (fun _ => rfl) l

theorem im68 (l : List (DD 68)) : (flatL UU 68 l).all immC = true := im_all (fun _ => rfl) l

theorem im69 (l : List (DD 69)) : (flatL UU 69 l).all immC = true := im_all (fun _ => rfl) l

theorem im72 (l : List (DD 72)) : (flatL UU 72 l).all immC = true := im_all (fun _ => rfl) l

theorem im74 (l : List (DD 74)) : (flatL UU 74 l).all immC = true := im_all (fun _ => rfl) l

theorem im102 (l : List (DD 102)) : (flatL UU 102 l).all immC = true := im_all (fun _ => rfl) l

theorem im139 (l : List (DD 139)) : (flatL UU 139 l).all immC = true := im_all (fun _ => rfl) l

theorem ob3 {l : List (Int)} {i : Int} {v : Int} (h : nth l i = some v) : 0 ≤ i ∧ ∃ x : DD 3, (show List (DD 3) from l)[i.toNat]? = some x ∧ UU.cells 3 x = c3 v := ⟨(nth_out h).1, v, (nth_out h).2, rfl⟩
theorem obn3 {l : List (Int)} {i : Nat} {v : Int} (h : l[i]? = some v) : ∃ x : DD 3, (show List (DD 3) from l)[i]? = some x ∧ UU.cells 3 x = c3 v := ⟨v, h, rfl⟩

theorem ob4 {l : List (Bool)} {i : Int} {v : Bool} (h : nth l i = some v) : 0 ≤ i ∧ ∃ x : DD 4, (show List (DD 4) from l)[i.toNat]? = some x ∧ UU.cells 4 x = c4 v := ⟨(nth_out h).1, v, (nth_out h).2, rfl⟩
theorem obn4 {l : List (Bool)} {i : Nat} {v : Bool} (h : l[i]? = some v) : ∃ x : DD 4, (show List (DD 4) from l)[i]? = some x ∧ UU.cells 4 x = c4 v := ⟨v, h, rfl⟩

theorem ob5 {l : List (Int)} {i : Int} {v : Int} (h : nth l i = some v) : 0 ≤ i ∧ ∃ x : DD 5, (show List (DD 5) from l)[i.toNat]? = some x ∧ UU.cells 5 x = c5 v := ⟨(nth_out h).1, v, (nth_out h).2, rfl⟩
theorem obn5 {l : List (Int)} {i : Nat} {v : Int} (h : l[i]? = some v) : ∃ x : DD 5, (show List (DD 5) from l)[i]? = some x ∧ UU.cells 5 x = c5 v := ⟨v, h, rfl⟩

theorem ob9 {l : List (ByteArray)} {i : Int} {v : ByteArray} (h : nth l i = some v) : 0 ≤ i ∧ ∃ x : DD 9, (show List (DD 9) from l)[i.toNat]? = some x ∧ UU.cells 9 x = c9 v := ⟨(nth_out h).1, v, (nth_out h).2, rfl⟩
theorem obn9 {l : List (ByteArray)} {i : Nat} {v : ByteArray} (h : l[i]? = some v) : ∃ x : DD 9, (show List (DD 9) from l)[i]? = some x ∧ UU.cells 9 x = c9 v := ⟨v, h, rfl⟩

theorem ob31 {l : List (Api_Net)} {i : Int} {v : Api_Net} (h : nth l i = some v) : 0 ≤ i ∧ ∃ x : DD 31, (show List (DD 31) from l)[i.toNat]? = some x ∧ UU.cells 31 x = c31 v := ⟨(nth_out h).1, v, (nth_out h).2, rfl⟩
theorem obn31 {l : List (Api_Net)} {i : Nat} {v : Api_Net} (h : l[i]? = some v) : ∃ x : DD 31, (show List (DD 31) from l)[i]? = some x ∧ UU.cells 31 x = c31 v := ⟨v, h, rfl⟩

theorem ob36 {l : List (Api_Port)} {i : Int} {v : Api_Port} (h : nth l i = some v) : 0 ≤ i ∧ ∃ x : DD 36, (show List (DD 36) from l)[i.toNat]? = some x ∧ UU.cells 36 x = c36 v := ⟨(nth_out h).1, v, (nth_out h).2, rfl⟩
theorem obn36 {l : List (Api_Port)} {i : Nat} {v : Api_Port} (h : l[i]? = some v) : ∃ x : DD 36, (show List (DD 36) from l)[i]? = some x ∧ UU.cells 36 x = c36 v := ⟨v, h, rfl⟩

theorem ob41 {l : List (Api_Link)} {i : Int} {v : Api_Link} (h : nth l i = some v) : 0 ≤ i ∧ ∃ x : DD 41, (show List (DD 41) from l)[i.toNat]? = some x ∧ UU.cells 41 x = c41 v := ⟨(nth_out h).1, v, (nth_out h).2, rfl⟩
theorem obn41 {l : List (Api_Link)} {i : Nat} {v : Api_Link} (h : l[i]? = some v) : ∃ x : DD 41, (show List (DD 41) from l)[i]? = some x ∧ UU.cells 41 x = c41 v := ⟨v, h, rfl⟩

theorem ob51 {l : List (Int)} {i : Int} {v : Int} (h : nth l i = some v) : 0 ≤ i ∧ ∃ x : DD 51, (show List (DD 51) from l)[i.toNat]? = some x ∧ UU.cells 51 x = c51 v := ⟨(nth_out h).1, v, (nth_out h).2, rfl⟩
theorem obn51 {l : List (Int)} {i : Nat} {v : Int} (h : l[i]? = some v) : ∃ x : DD 51, (show List (DD 51) from l)[i]? = some x ∧ UU.cells 51 x = c51 v := ⟨v, h, rfl⟩

theorem ob52 {l : List (Int)} {i : Int} {v : Int} (h : nth l i = some v) : 0 ≤ i ∧ ∃ x : DD 52, (show List (DD 52) from l)[i.toNat]? = some x ∧ UU.cells 52 x = c52 v := ⟨(nth_out h).1, v, (nth_out h).2, rfl⟩
theorem obn52 {l : List (Int)} {i : Nat} {v : Int} (h : l[i]? = some v) : ∃ x : DD 52, (show List (DD 52) from l)[i]? = some x ∧ UU.cells 52 x = c52 v := ⟨v, h, rfl⟩

theorem ob54 {l : List (Api_Device)} {i : Int} {v : Api_Device} (h : nth l i = some v) : 0 ≤ i ∧ ∃ x : DD 54, (show List (DD 54) from l)[i.toNat]? = some x ∧ UU.cells 54 x = c54 v := ⟨(nth_out h).1, v, (nth_out h).2, rfl⟩
theorem obn54 {l : List (Api_Device)} {i : Nat} {v : Api_Device} (h : l[i]? = some v) : ∃ x : DD 54, (show List (DD 54) from l)[i]? = some x ∧ UU.cells 54 x = c54 v := ⟨v, h, rfl⟩

theorem ob56 {l : List (Api_Domain)} {i : Int} {v : Api_Domain} (h : nth l i = some v) : 0 ≤ i ∧ ∃ x : DD 56, (show List (DD 56) from l)[i.toNat]? = some x ∧ UU.cells 56 x = c56 v := ⟨(nth_out h).1, v, (nth_out h).2, rfl⟩
theorem obn56 {l : List (Api_Domain)} {i : Nat} {v : Api_Domain} (h : l[i]? = some v) : ∃ x : DD 56, (show List (DD 56) from l)[i]? = some x ∧ UU.cells 56 x = c56 v := ⟨v, h, rfl⟩

theorem ob58 {l : List (Api_Vrf)} {i : Int} {v : Api_Vrf} (h : nth l i = some v) : 0 ≤ i ∧ ∃ x : DD 58, (show List (DD 58) from l)[i.toNat]? = some x ∧ UU.cells 58 x = c58 v := ⟨(nth_out h).1, v, (nth_out h).2, rfl⟩
theorem obn58 {l : List (Api_Vrf)} {i : Nat} {v : Api_Vrf} (h : l[i]? = some v) : ∃ x : DD 58, (show List (DD 58) from l)[i]? = some x ∧ UU.cells 58 x = c58 v := ⟨v, h, rfl⟩

theorem ob68 {l : List (Palingref36_Lead)} {i : Int} {v : Palingref36_Lead} (h : nth l i = some v) : 0 ≤ i ∧ ∃ x : DD 68, (show List (DD 68) from l)[i.toNat]? = some x ∧ UU.cells 68 x = c68 v := ⟨(nth_out h).1, v, (nth_out h).2, rfl⟩
theorem obn68 {l : List (Palingref36_Lead)} {i : Nat} {v : Palingref36_Lead} (h : l[i]? = some v) : ∃ x : DD 68, (show List (DD 68) from l)[i]? = some x ∧ UU.cells 68 x = c68 v := ⟨v, h, rfl⟩

theorem ob69 {l : List (Choose_Lead)} {i : Int} {v : Choose_Lead} (h : nth l i = some v) : 0 ≤ i ∧ ∃ x : DD 69, (show List (DD 69) from l)[i.toNat]? = some x ∧ UU.cells 69 x = c69 v := ⟨(nth_out h).1, v, (nth_out h).2, rfl⟩
theorem obn69 {l : List (Choose_Lead)} {i : Nat} {v : Choose_Lead} (h : l[i]? = some v) : ∃ x : DD 69, (show List (DD 69) from l)[i]? = some x ∧ UU.cells 69 x = c69 v := ⟨v, h, rfl⟩

theorem ob72 {l : List (Api_Prefix)} {i : Int} {v : Api_Prefix} (h : nth l i = some v) : 0 ≤ i ∧ ∃ x : DD 72, (show List (DD 72) from l)[i.toNat]? = some x ∧ UU.cells 72 x = c72 v := ⟨(nth_out h).1, v, (nth_out h).2, rfl⟩
theorem obn72 {l : List (Api_Prefix)} {i : Nat} {v : Api_Prefix} (h : l[i]? = some v) : ∃ x : DD 72, (show List (DD 72) from l)[i]? = some x ∧ UU.cells 72 x = c72 v := ⟨v, h, rfl⟩

theorem ob74 {l : List (Api_Irb)} {i : Int} {v : Api_Irb} (h : nth l i = some v) : 0 ≤ i ∧ ∃ x : DD 74, (show List (DD 74) from l)[i.toNat]? = some x ∧ UU.cells 74 x = c74 v := ⟨(nth_out h).1, v, (nth_out h).2, rfl⟩
theorem obn74 {l : List (Api_Irb)} {i : Nat} {v : Api_Irb} (h : l[i]? = some v) : ∃ x : DD 74, (show List (DD 74) from l)[i]? = some x ∧ UU.cells 74 x = c74 v := ⟨v, h, rfl⟩

theorem ob91 {l : List (Api_Flood)} {i : Int} {v : Api_Flood} (h : nth l i = some v) : 0 ≤ i ∧ ∃ x : DD 91, (show List (DD 91) from l)[i.toNat]? = some x ∧ UU.cells 91 x = c91 v := ⟨(nth_out h).1, v, (nth_out h).2, rfl⟩
theorem obn91 {l : List (Api_Flood)} {i : Nat} {v : Api_Flood} (h : l[i]? = some v) : ∃ x : DD 91, (show List (DD 91) from l)[i]? = some x ∧ UU.cells 91 x = c91 v := ⟨v, h, rfl⟩

theorem ob93 {l : List (Names_judge)} {i : Int} {v : Names_judge} (h : nth l i = some v) : 0 ≤ i ∧ ∃ x : DD 93, (show List (DD 93) from l)[i.toNat]? = some x ∧ UU.cells 93 x = c93 v := ⟨(nth_out h).1, v, (nth_out h).2, rfl⟩
theorem obn93 {l : List (Names_judge)} {i : Nat} {v : Names_judge} (h : l[i]? = some v) : ∃ x : DD 93, (show List (DD 93) from l)[i]? = some x ∧ UU.cells 93 x = c93 v := ⟨v, h, rfl⟩

theorem ob102 {l : List (Api_Static)} {i : Int} {v : Api_Static} (h : nth l i = some v) : 0 ≤ i ∧ ∃ x : DD 102, (show List (DD 102) from l)[i.toNat]? = some x ∧ UU.cells 102 x = c102 v := ⟨(nth_out h).1, v, (nth_out h).2, rfl⟩
theorem obn102 {l : List (Api_Static)} {i : Nat} {v : Api_Static} (h : l[i]? = some v) : ∃ x : DD 102, (show List (DD 102) from l)[i]? = some x ∧ UU.cells 102 x = c102 v := ⟨v, h, rfl⟩

theorem ob139 {l : List (Api_Entry)} {i : Int} {v : Api_Entry} (h : nth l i = some v) : 0 ≤ i ∧ ∃ x : DD 139, (show List (DD 139) from l)[i.toNat]? = some x ∧ UU.cells 139 x = c139 v := ⟨(nth_out h).1, v, (nth_out h).2, rfl⟩
theorem obn139 {l : List (Api_Entry)} {i : Nat} {v : Api_Entry} (h : l[i]? = some v) : ∃ x : DD 139, (show List (DD 139) from l)[i]? = some x ∧ UU.cells 139 x = c139 v := ⟨v, h, rfl⟩

theorem ob153 {l : List (Lookup_room)} {i : Int} {v : Lookup_room} (h : nth l i = some v) : 0 ≤ i ∧ ∃ x : DD 153, (show List (DD 153) from l)[i.toNat]? = some x ∧ UU.cells 153 x = c153 v := ⟨(nth_out h).1, v, (nth_out h).2, rfl⟩
theorem obn153 {l : List (Lookup_room)} {i : Nat} {v : Lookup_room} (h : l[i]? = some v) : ∃ x : DD 153, (show List (DD 153) from l)[i]? = some x ∧ UU.cells 153 x = c153 v := ⟨v, h, rfl⟩

theorem cp_ob {n e : Nat} {l l2 : List (DD e)} {a b : Nat} : n = n ∧ ∃ xs : List (DD e), (AObj.arr e (l.take a ++ (l2.take (min l2.length (b - a)) ++ l.drop (a + min l2.length (b - a)))) n false) = .arr e (l.take a ++ (xs ++ l.drop (a + min l2.length (b - a)))) n false ∧ flatL UU e xs = flatL UU e (l2.take (min l2.length (b - a))) := ⟨rfl, _, rfl, rfl⟩
theorem cl_ob {n e : Nat} {l : List (DD e)} {a b : Nat} (y : DD e) : n = n ∧ ∃ y', (AObj.arr e (l.take a ++ (List.replicate (b - a) y ++ l.drop b)) n false) = .arr e (l.take a ++ (List.replicate (b - a) y' ++ l.drop b)) n false ∧ UU.cells e y' = UU.cells e y := ⟨rfl, y, rfl, rfl⟩
theorem st_ob {n e : Nat} {l : List (DD e)} {i : Nat} {A : Prop} (y : DD e) (r : List (AV DD)) (h : A) (hr : UU.cells e y = r) : n = n ∧ A ∧ ∃ y', (AObj.arr e (l.set i y) n false) = .arr e (l.set i y') n false ∧ UU.cells e y' = r := ⟨rfl, h, y, rfl, hr⟩
theorem bs_ob (e : Nat) (l : List (DD e)) : flatL UU e l = flatL UU e l ∧ l.length = l.length ∧ l.length = l.length := ⟨rfl, rfl, rfl⟩
theorem mk_ob {n m : Int} {b : Nat} (e : Nat) (z : DD e) (h : mkok b n m = true) : 0 ≤ n ∧ n ≤ m ∧ m * b ≤ 140737488355328 ∧ m < 9223372036854775808 ∧ ∃ y : DD e, List.replicate n.toNat z = List.replicate n.toNat y ∧ UU.cells e y = UU.cells e z := by
  have h := of_decide_eq_true h
  exact ⟨h.1, h.2.1, h.2.2.1, h.2.2.2, z, rfl, rfl⟩
theorem app_ob (e : Nat) {n b : Nat} {l xs : List (DD e)} (h : roomy b (l ++ xs) = true) : n = n ∧ (l ++ xs).length = (l ++ xs).length ∧ (l.length + xs.length) * b ≤ 140737488355328 ∧ l.length + xs.length < 9223372036854775808 ∧ ∃ xs', (AObj.arr e (l ++ xs) (l ++ xs).length false) = .arr e (l ++ xs') (l ++ xs).length false ∧ flatL UU e xs' = flatL UU e xs := by
  have h := of_decide_eq_true h
  rw [List.length_append] at h
  exact ⟨rfl, rfl, h.1, h.2, xs, rfl, rfl⟩
theorem apn_ob (e : Nat) {b : Nat} {l : List (DD e)} (h : roomy b l = true) : l.length * b ≤ 140737488355328 ∧ l.length < 9223372036854775808 ∧ l.length = l.length ∧ flatL UU e l = flatL UU e l ∧ l.length = l.length := by
  have h := of_decide_eq_true h
  exact ⟨h.1, h.2, rfl, rfl, rfl⟩

theorem mixedOrders : Try.prog.follows .mixedOrders = true := by kernel_rfl
end Go.Eng
