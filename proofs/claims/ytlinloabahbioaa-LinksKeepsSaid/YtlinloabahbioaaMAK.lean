/- Part of the proof of LinksKeeps: printed mirrors of the functions, or their contracts. No conditions. -/
import Derived.Test.YtlinloabahbioaaMAM
import Derived.Test.YtlinloabahbioaaProg
set_option linter.unusedVariables false
set_option maxRecDepth 100000
namespace Go.Eng
open Go Go.Proofs
def DD : Den := fun t => match t with
  | 3 => Int
  | 9 => ByteArray
  | 31 => Api_Net
  | 49 => Int
  | 51 => Reach_Hop
  | 63 => Api_Port
  | 65 => Api_Domain
  | 71 => Api_Line
  | 82 => Api_Flood
  | 84 => Api_Vrf
  | 86 => Api_Device
  | 88 => Api_Link
  | 92 => Reach_search
  | 96 => Palingref35_Hop
  | 113 => Api_Prefix
  | 115 => Api_Irb
  | 127 => Api_Static
  | 143 => Names_judge
  | _ => Unit

def c3 (x : Int) : List (AV DD) := [.v (.int .i64 x)]

def c9 (x : ByteArray) : List (AV DD) := [.v (.string x)]

def c31 (x : Api_Net) : List (AV DD) := [.sl 86 x.devices, .sl 63 x.ports, .sl 88 x.links, .sl 65 x.domains, .sl 127 x.statics, .sl 82 x.floods, .sl 84 x.vrfs, .sl 115 x.irbs]

def c49 (x : Int) : List (AV DD) := [.v (.int .u32 x)]

def c51 (x : Reach_Hop) : List (AV DD) := [.v (.int .i64 x.kind), .v (.int .i64 x.port), .v (.int .i64 x.domain), .v (.int .u32 x.addr)]

def c63 (x : Api_Port) : List (AV DD) := [.v (.int .i64 x.row), .v (.int .i64 x.dev), .v (.int .i64 x.native), .v (.int .i64 x.cost), .v (.int .i64 x.link), .v (.string x.name), .sl 3 x.tagged]

def c65 (x : Api_Domain) : List (AV DD) := [.v (.int .i64 x.dev), .v (.int .i64 x.vlan), .v (.int .i64 x.vni), .v (.int .i64 x.irb), .v (.int .i64 x.row), .sl 3 x.peers]

def c71 (x : Api_Line) : List (AV DD) := [.v (.int .i64 x.row), .v (.int .i64 x.kind), .v (.string x.dev), .v (.string x.port), .v (.string x.peer), .v (.string x.far), .v (.string x.name), .v (.int .u64 x.mac), .v (.int .u32 x.addr), .v (.int .i64 x.bits), .v (.int .i64 x.vlan), .v (.int .i64 x.num), .v (.int .i64 x.cost), .sl 3 x.tagged, .sl 3 x.imports, .sl 3 x.exports, .sl 49 x.addrs]

def c82 (x : Api_Flood) : List (AV DD) := [.v (.int .i64 x.row), .v (.int .i64 x.dev), .v (.int .i64 x.vni), .sl 49 x.addrs]

def c84 (x : Api_Vrf) : List (AV DD) := [.v (.int .i64 x.row), .v (.int .i64 x.dev), .v (.string x.name), .sl 3 x.imports, .sl 3 x.exports]

def c86 (x : Api_Device) : List (AV DD) := [.v (.int .i64 x.row), .v (.int .i64 x.priority), .v (.string x.name), .v (.int .u64 x.mac), .v (.int .u32 x.vtep)]

def c88 (x : Api_Link) : List (AV DD) := [.v (.int .i64 x.row), .v (.int .i64 x.a), .v (.int .i64 x.b)]

def c92 (x : Reach_search) : List (AV DD) := [.sl 3 x.steps, .sl 51 x.last, .sl 3 x.ahead]

def c96 (x : Palingref35_Hop) : List (AV DD) := [.v (.int .i64 x.kind), .v (.int .i64 x.port), .v (.int .i64 x.domain), .v (.int .u32 x.addr)]

def c113 (x : Api_Prefix) : List (AV DD) := [.v (.int .u32 x.addr), .v (.int .i64 x.bits)]

def c115 (x : Api_Irb) : List (AV DD) := [.v (.int .i64 x.row), .v (.int .i64 x.domain), .v (.int .i64 x.vrf), .v (.int .u32 x.net.addr), .v (.int .i64 x.net.bits)]

def c127 (x : Api_Static) : List (AV DD) := [.v (.int .i64 x.row), .v (.int .i64 x.domain), .v (.int .i64 x.port), .v (.int .u64 x.mac)]

def c143 (x : Names_judge) : List (AV DD) := [.sl 86 x.n.devices, .sl 63 x.n.ports, .sl 88 x.n.links, .sl 65 x.n.domains, .sl 127 x.n.statics, .sl 82 x.n.floods, .sl 84 x.n.vrfs, .sl 115 x.n.irbs]

def cellsD : (t : Nat) → DD t → List (AV DD) := fun t => match t with
  | 3 => fun x => c3 x
  | 9 => fun x => c9 x
  | 31 => fun x => c31 x
  | 49 => fun x => c49 x
  | 51 => fun x => c51 x
  | 63 => fun x => c63 x
  | 65 => fun x => c65 x
  | 71 => fun x => c71 x
  | 82 => fun x => c82 x
  | 84 => fun x => c84 x
  | 86 => fun x => c86 x
  | 88 => fun x => c88 x
  | 92 => fun x => c92 x
  | 96 => fun x => c96 x
  | 113 => fun x => c113 x
  | 115 => fun x => c115 x
  | 127 => fun x => c127 x
  | 143 => fun x => c143 x
  | _ => fun _ => [.v (.bool true)]

def widthD : Nat → Nat := fun t => match t with
  | 3 => 1
  | 9 => 1
  | 31 => 8
  | 49 => 1
  | 51 => 4
  | 63 => 7
  | 65 => 6
  | 71 => 17
  | 82 => 4
  | 84 => 5
  | 86 => 5
  | 88 => 3
  | 92 => 3
  | 96 => 4
  | 113 => 2
  | 115 => 5
  | 127 => 4
  | 143 => 8
  | _ => 1

theorem cellsD_else {t : Nat} (x : DD t) (h : t ≠ 3 ∧ t ≠ 9 ∧ t ≠ 31 ∧ t ≠ 49 ∧ t ≠ 51 ∧ t ≠ 63 ∧ t ≠ 65 ∧ t ≠ 71 ∧ t ≠ 82 ∧ t ≠ 84 ∧ t ≠ 86 ∧ t ≠ 88 ∧ t ≠ 92 ∧ t ≠ 96 ∧ t ≠ 113 ∧ t ≠ 115 ∧ t ≠ 127 ∧ t ≠ 143) : cellsD t x = [.v (.bool true)] ∧ widthD t = 1 := by
  obtain ⟨h3, h9, h31, h49, h51, h63, h65, h71, h82, h84, h86, h88, h92, h96, h113, h115, h127, h143⟩ := h
  unfold cellsD widthD
  constructor
  · split <;> first | (exfalso; omega) | rfl
  · split <;> first | (exfalso; omega) | rfl

def UU : Univ DD where
  width := widthD
  cells := cellsD
  len t x := by
    by_cases h3 : t = 3
    · subst h3; rfl
    by_cases h9 : t = 9
    · subst h9; rfl
    by_cases h31 : t = 31
    · subst h31; rfl
    by_cases h49 : t = 49
    · subst h49; rfl
    by_cases h51 : t = 51
    · subst h51; rfl
    by_cases h63 : t = 63
    · subst h63; rfl
    by_cases h65 : t = 65
    · subst h65; rfl
    by_cases h71 : t = 71
    · subst h71; rfl
    by_cases h82 : t = 82
    · subst h82; rfl
    by_cases h84 : t = 84
    · subst h84; rfl
    by_cases h86 : t = 86
    · subst h86; rfl
    by_cases h88 : t = 88
    · subst h88; rfl
    by_cases h92 : t = 92
    · subst h92; rfl
    by_cases h96 : t = 96
    · subst h96; rfl
    by_cases h113 : t = 113
    · subst h113; rfl
    by_cases h115 : t = 115
    · subst h115; rfl
    by_cases h127 : t = 127
    · subst h127; rfl
    by_cases h143 : t = 143
    · subst h143; rfl
    rw [(cellsD_else x ⟨h3, h9, h31, h49, h51, h63, h65, h71, h82, h84, h86, h88, h92, h96, h113, h115, h127, h143⟩).1, (cellsD_else x ⟨h3, h9, h31, h49, h51, h63, h65, h71, h82, h84, h86, h88, h92, h96, h113, h115, h127, h143⟩).2]; rfl
  pos t := by
    by_cases h3 : t = 3
    · subst h3; exact Nat.le_of_ble_eq_true rfl
    by_cases h9 : t = 9
    · subst h9; exact Nat.le_of_ble_eq_true rfl
    by_cases h31 : t = 31
    · subst h31; exact Nat.le_of_ble_eq_true rfl
    by_cases h49 : t = 49
    · subst h49; exact Nat.le_of_ble_eq_true rfl
    by_cases h51 : t = 51
    · subst h51; exact Nat.le_of_ble_eq_true rfl
    by_cases h63 : t = 63
    · subst h63; exact Nat.le_of_ble_eq_true rfl
    by_cases h65 : t = 65
    · subst h65; exact Nat.le_of_ble_eq_true rfl
    by_cases h71 : t = 71
    · subst h71; exact Nat.le_of_ble_eq_true rfl
    by_cases h82 : t = 82
    · subst h82; exact Nat.le_of_ble_eq_true rfl
    by_cases h84 : t = 84
    · subst h84; exact Nat.le_of_ble_eq_true rfl
    by_cases h86 : t = 86
    · subst h86; exact Nat.le_of_ble_eq_true rfl
    by_cases h88 : t = 88
    · subst h88; exact Nat.le_of_ble_eq_true rfl
    by_cases h92 : t = 92
    · subst h92; exact Nat.le_of_ble_eq_true rfl
    by_cases h96 : t = 96
    · subst h96; exact Nat.le_of_ble_eq_true rfl
    by_cases h113 : t = 113
    · subst h113; exact Nat.le_of_ble_eq_true rfl
    by_cases h115 : t = 115
    · subst h115; exact Nat.le_of_ble_eq_true rfl
    by_cases h127 : t = 127
    · subst h127; exact Nat.le_of_ble_eq_true rfl
    by_cases h143 : t = 143
    · subst h143; exact Nat.le_of_ble_eq_true rfl
    unfold widthD; split <;> omega
  ok t x := by
    by_cases h3 : t = 3
    · subst h3; rfl
    by_cases h9 : t = 9
    · subst h9; rfl
    by_cases h31 : t = 31
    · subst h31; rfl
    by_cases h49 : t = 49
    · subst h49; rfl
    by_cases h51 : t = 51
    · subst h51; rfl
    by_cases h63 : t = 63
    · subst h63; rfl
    by_cases h65 : t = 65
    · subst h65; rfl
    by_cases h71 : t = 71
    · subst h71; rfl
    by_cases h82 : t = 82
    · subst h82; rfl
    by_cases h84 : t = 84
    · subst h84; rfl
    by_cases h86 : t = 86
    · subst h86; rfl
    by_cases h88 : t = 88
    · subst h88; rfl
    by_cases h92 : t = 92
    · subst h92; rfl
    by_cases h96 : t = 96
    · subst h96; rfl
    by_cases h113 : t = 113
    · subst h113; rfl
    by_cases h115 : t = 115
    · subst h115; rfl
    by_cases h127 : t = 127
    · subst h127; rfl
    by_cases h143 : t = 143
    · subst h143; rfl
    rw [(cellsD_else x ⟨h3, h9, h31, h49, h51, h63, h65, h71, h82, h84, h86, h88, h92, h96, h113, h115, h127, h143⟩).1]; rfl

theorem im_all {t : Nat} (h : ∀ x : DD t, (UU.cells t x).all immC = true) (l : List (DD t)) : (flatL UU t l).all immC = true := by
  induction l with
  | nil => rfl
  | cons x l ih => simp only [flatL, List.flatMap_cons, List.all_append, Bool.and_eq_true]; exact ⟨h x, ih⟩

theorem im3 (l : List (DD 3)) : (flatL UU 3 l).all immC = true := im_all (fun _ => rfl) l

theorem im9 (l : List (DD 9)) : (flatL UU 9 l).all immC = true := im_all (fun _ => rfl) l

theorem im49 (l : List (DD 49)) : (flatL UU 49 l).all immC = true := im_all (fun _ => rfl) l

theorem im51 (l : List (DD 51)) : (flatL UU 51 l).all immC = true := im_all (fun _ => rfl) l

theorem im86 (l : List (DD 86)) : (flatL UU 86 l).all immC = true := im_all (fun _ => rfl) l

theorem im88 (l : List (DD 88)) : (flatL UU 88 l).all immC = true := im_all (fun _ => rfl) l

theorem im96 (l : List (DD 96)) : (flatL UU 96 l).all immC = true := im_all (fun _ => rfl) l

theorem im113 (l : List (DD 113)) : (flatL UU 113 l).all immC = true := im_all (fun _ => rfl) l

theorem im115 (l : List (DD 115)) : (flatL UU 115 l).all immC = true := im_all (fun _ => rfl) l

theorem im127 (l : List (DD 127)) : (flatL UU 127 l).all immC = true := im_all (fun _ => rfl) l

theorem ob3 {l : List (Int)} {i : Int} {v : Int} (h : nth l i = some v) : 0 ≤ i ∧ ∃ x : DD 3, (show List (DD 3) from l)[i.toNat]? = some x ∧ UU.cells 3 x = c3 v := ⟨(nth_out h).1, v, (nth_out h).2, rfl⟩
theorem obn3 {l : List (Int)} {i : Nat} {v : Int} (h : l[i]? = some v) : ∃ x : DD 3, (show List (DD 3) from l)[i]? = some x ∧ UU.cells 3 x = c3 v := ⟨v, h, rfl⟩

theorem ob9 {l : List (ByteArray)} {i : Int} {v : ByteArray} (h : nth l i = some v) : 0 ≤ i ∧ ∃ x : DD 9, (show List (DD 9) from l)[i.toNat]? = some x ∧ UU.cells 9 x = c9 v := ⟨(nth_out h).1, v, (nth_out h).2, rfl⟩
theorem obn9 {l : List (ByteArray)} {i : Nat} {v : ByteArray} (h : l[i]? = some v) : ∃ x : DD 9, (show List (DD 9) from l)[i]? = some x ∧ UU.cells 9 x = c9 v := ⟨v, h, rfl⟩

theorem ob31 {l : List (Api_Net)} {i : Int} {v : Api_Net} (h : nth l i = some v) : 0 ≤ i ∧ ∃ x : DD 31, (show List (DD 31) from l)[i.toNat]? = some x ∧ UU.cells 31 x = c31 v := ⟨(nth_out h).1, v, (nth_out h).2, rfl⟩
theorem obn31 {l : List (Api_Net)} {i : Nat} {v : Api_Net} (h : l[i]? = some v) : ∃ x : DD 31, (show List (DD 31) from l)[i]? = some x ∧ UU.cells 31 x = c31 v := ⟨v, h, rfl⟩

theorem ob49 {l : List (Int)} {i : Int} {v : Int} (h : nth l i = some v) : 0 ≤ i ∧ ∃ x : DD 49, (show List (DD 49) from l)[i.toNat]? = some x ∧ UU.cells 49 x = c49 v := ⟨(nth_out h).1, v, (nth_out h).2, rfl⟩
theorem obn49 {l : List (Int)} {i : Nat} {v : Int} (h : l[i]? = some v) : ∃ x : DD 49, (show List (DD 49) from l)[i]? = some x ∧ UU.cells 49 x = c49 v := ⟨v, h, rfl⟩

theorem ob51 {l : List (Reach_Hop)} {i : Int} {v : Reach_Hop} (h : nth l i = some v) : 0 ≤ i ∧ ∃ x : DD 51, (show List (DD 51) from l)[i.toNat]? = some x ∧ UU.cells 51 x = c51 v := ⟨(nth_out h).1, v, (nth_out h).2, rfl⟩
theorem obn51 {l : List (Reach_Hop)} {i : Nat} {v : Reach_Hop} (h : l[i]? = some v) : ∃ x : DD 51, (show List (DD 51) from l)[i]? = some x ∧ UU.cells 51 x = c51 v := ⟨v, h, rfl⟩

theorem ob63 {l : List (Api_Port)} {i : Int} {v : Api_Port} (h : nth l i = some v) : 0 ≤ i ∧ ∃ x : DD 63, (show List (DD 63) from l)[i.toNat]? = some x ∧ UU.cells 63 x = c63 v := ⟨(nth_out h).1, v, (nth_out h).2, rfl⟩
theorem obn63 {l : List (Api_Port)} {i : Nat} {v : Api_Port} (h : l[i]? = some v) : ∃ x : DD 63, (show List (DD 63) from l)[i]? = some x ∧ UU.cells 63 x = c63 v := ⟨v, h, rfl⟩

theorem ob65 {l : List (Api_Domain)} {i : Int} {v : Api_Domain} (h : nth l i = some v) : 0 ≤ i ∧ ∃ x : DD 65, (show List (DD 65) from l)[i.toNat]? = some x ∧ UU.cells 65 x = c65 v := ⟨(nth_out h).1, v, (nth_out h).2, rfl⟩
theorem obn65 {l : List (Api_Domain)} {i : Nat} {v : Api_Domain} (h : l[i]? = some v) : ∃ x : DD 65, (show List (DD 65) from l)[i]? = some x ∧ UU.cells 65 x = c65 v := ⟨v, h, rfl⟩

theorem ob71 {l : List (Api_Line)} {i : Int} {v : Api_Line} (h : nth l i = some v) : 0 ≤ i ∧ ∃ x : DD 71, (show List (DD 71) from l)[i.toNat]? = some x ∧ UU.cells 71 x = c71 v := ⟨(nth_out h).1, v, (nth_out h).2, rfl⟩
theorem obn71 {l : List (Api_Line)} {i : Nat} {v : Api_Line} (h : l[i]? = some v) : ∃ x : DD 71, (show List (DD 71) from l)[i]? = some x ∧ UU.cells 71 x = c71 v := ⟨v, h, rfl⟩

theorem ob82 {l : List (Api_Flood)} {i : Int} {v : Api_Flood} (h : nth l i = some v) : 0 ≤ i ∧ ∃ x : DD 82, (show List (DD 82) from l)[i.toNat]? = some x ∧ UU.cells 82 x = c82 v := ⟨(nth_out h).1, v, (nth_out h).2, rfl⟩
theorem obn82 {l : List (Api_Flood)} {i : Nat} {v : Api_Flood} (h : l[i]? = some v) : ∃ x : DD 82, (show List (DD 82) from l)[i]? = some x ∧ UU.cells 82 x = c82 v := ⟨v, h, rfl⟩

theorem ob84 {l : List (Api_Vrf)} {i : Int} {v : Api_Vrf} (h : nth l i = some v) : 0 ≤ i ∧ ∃ x : DD 84, (show List (DD 84) from l)[i.toNat]? = some x ∧ UU.cells 84 x = c84 v := ⟨(nth_out h).1, v, (nth_out h).2, rfl⟩
theorem obn84 {l : List (Api_Vrf)} {i : Nat} {v : Api_Vrf} (h : l[i]? = some v) : ∃ x : DD 84, (show List (DD 84) from l)[i]? = some x ∧ UU.cells 84 x = c84 v := ⟨v, h, rfl⟩

theorem ob86 {l : List (Api_Device)} {i : Int} {v : Api_Device} (h : nth l i = some v) : 0 ≤ i ∧ ∃ x : DD 86, (show List (DD 86) from l)[i.toNat]? = some x ∧ UU.cells 86 x = c86 v := ⟨(nth_out h).1, v, (nth_out h).2, rfl⟩
theorem obn86 {l : List (Api_Device)} {i : Nat} {v : Api_Device} (h : l[i]? = some v) : ∃ x : DD 86, (show List (DD 86) from l)[i]? = some x ∧ UU.cells 86 x = c86 v := ⟨v, h, rfl⟩

theorem ob88 {l : List (Api_Link)} {i : Int} {v : Api_Link} (h : nth l i = some v) : 0 ≤ i ∧ ∃ x : DD 88, (show List (DD 88) from l)[i.toNat]? = some x ∧ UU.cells 88 x = c88 v := ⟨(nth_out h).1, v, (nth_out h).2, rfl⟩
theorem obn88 {l : List (Api_Link)} {i : Nat} {v : Api_Link} (h : l[i]? = some v) : ∃ x : DD 88, (show List (DD 88) from l)[i]? = some x ∧ UU.cells 88 x = c88 v := ⟨v, h, rfl⟩

theorem ob92 {l : List (Reach_search)} {i : Int} {v : Reach_search} (h : nth l i = some v) : 0 ≤ i ∧ ∃ x : DD 92, (show List (DD 92) from l)[i.toNat]? = some x ∧ UU.cells 92 x = c92 v := ⟨(nth_out h).1, v, (nth_out h).2, rfl⟩
theorem obn92 {l : List (Reach_search)} {i : Nat} {v : Reach_search} (h : l[i]? = some v) : ∃ x : DD 92, (show List (DD 92) from l)[i]? = some x ∧ UU.cells 92 x = c92 v := ⟨v, h, rfl⟩

theorem ob96 {l : List (Palingref35_Hop)} {i : Int} {v : Palingref35_Hop} (h : nth l i = some v) : 0 ≤ i ∧ ∃ x : DD 96, (show List (DD 96) from l)[i.toNat]? = some x ∧ UU.cells 96 x = c96 v := ⟨(nth_out h).1, v, (nth_out h).2, rfl⟩
theorem obn96 {l : List (Palingref35_Hop)} {i : Nat} {v : Palingref35_Hop} (h : l[i]? = some v) : ∃ x : DD 96, (show List (DD 96) from l)[i]? = some x ∧ UU.cells 96 x = c96 v := ⟨v, h, rfl⟩

theorem ob113 {l : List (Api_Prefix)} {i : Int} {v : Api_Prefix} (h : nth l i = some v) : 0 ≤ i ∧ ∃ x : DD 113, (show List (DD 113) from l)[i.toNat]? = some x ∧ UU.cells 113 x = c113 v := ⟨(nth_out h).1, v, (nth_out h).2, rfl⟩
theorem obn113 {l : List (Api_Prefix)} {i : Nat} {v : Api_Prefix} (h : l[i]? = some v) : ∃ x : DD 113, (show List (DD 113) from l)[i]? = some x ∧ UU.cells 113 x = c113 v := ⟨v, h, rfl⟩

theorem ob115 {l : List (Api_Irb)} {i : Int} {v : Api_Irb} (h : nth l i = some v) : 0 ≤ i ∧ ∃ x : DD 115, (show List (DD 115) from l)[i.toNat]? = some x ∧ UU.cells 115 x = c115 v := ⟨(nth_out h).1, v, (nth_out h).2, rfl⟩
theorem obn115 {l : List (Api_Irb)} {i : Nat} {v : Api_Irb} (h : l[i]? = some v) : ∃ x : DD 115, (show List (DD 115) from l)[i]? = some x ∧ UU.cells 115 x = c115 v := ⟨v, h, rfl⟩

theorem ob127 {l : List (Api_Static)} {i : Int} {v : Api_Static} (h : nth l i = some v) : 0 ≤ i ∧ ∃ x : DD 127, (show List (DD 127) from l)[i.toNat]? = some x ∧ UU.cells 127 x = c127 v := ⟨(nth_out h).1, v, (nth_out h).2, rfl⟩
theorem obn127 {l : List (Api_Static)} {i : Nat} {v : Api_Static} (h : l[i]? = some v) : ∃ x : DD 127, (show List (DD 127) from l)[i]? = some x ∧ UU.cells 127 x = c127 v := ⟨v, h, rfl⟩

theorem ob143 {l : List (Names_judge)} {i : Int} {v : Names_judge} (h : nth l i = some v) : 0 ≤ i ∧ ∃ x : DD 143, (show List (DD 143) from l)[i.toNat]? = some x ∧ UU.cells 143 x = c143 v := ⟨(nth_out h).1, v, (nth_out h).2, rfl⟩
theorem obn143 {l : List (Names_judge)} {i : Nat} {v : Names_judge} (h : l[i]? = some v) : ∃ x : DD 143, (show List (DD 143) from l)[i]? = some x ∧ UU.cells 143 x = c143 v := ⟨v, h, rfl⟩

theorem cp_ob {n e : Nat} {l l2 : List (DD e)} {a b : Nat} : n = n ∧ ∃ xs : List (DD e), (AObj.arr e (l.take a ++ (l2.take (min l2.length (b - a)) ++ l.drop (a + min l2.length (b - a)))) n false) = .arr e (l.take a ++ (xs ++ l.drop (a + min l2.length (b - a)))) n false ∧ flatL UU e xs = flatL UU e (l2.take (min l2.length (b - a))) := ⟨rfl, _, rfl, rfl⟩
theorem cl_ob {n e : Nat} {l : List (DD e)} {a b : Nat} (y : DD e) : n = n ∧ ∃ y', (AObj.arr e (l.take a ++ (List.replicate (b - a) y ++ l.drop b)) n false) = .arr e (l.take a ++ (List.replicate (b - a) y' ++ l.drop b)) n false ∧ UU.cells e y' = UU.cells e y := ⟨rfl, y, rfl, rfl⟩
theorem st_ob {n e : Nat} {l : List (DD e)} {i : Nat} {A : Prop} (y : DD e) (r : List (AV DD)) (h : A) (hr : UU.cells e y = r) : n = n ∧ A ∧ ∃ y', (AObj.arr e (l.set i y) n false) = .arr e (l.set i y') n false ∧ UU.cells e y' = r := ⟨rfl, h, y, rfl, hr⟩
theorem bs_ob (e : Nat) (l : List (DD e)) : flatL UU e l = flatL UU e l ∧ l.length = l.length ∧ l.length = l.length := ⟨rfl, rfl, rfl⟩
theorem mk_ob {n m : Int} {b : Nat} (e : Nat) (z : DD e) (h : mkok b n m = true) : 0 ≤ n ∧ n ≤ m ∧ m * b ≤ 140737488355328 ∧ m < 9223372036854775808 ∧ ∃ y : DD e, List.replicate n.toNat z = List.replicate n.toNat y ∧ UU.cells e y = UU.cells e z := by
  have h := of_decide_eq_true h
  exact ⟨h.1, h.2.1, h.2.2.1, h.2.2.2, z, rfl, rfl⟩
theorem app_ob (e : Nat) {n b : Nat} {l xs : List (DD e)} (h : roomy b (l ++ xs) = true) : n = n ∧ (l ++ xs).length = (l ++ xs).length ∧ (l.length + xs.length) * b ≤ 140737488355328 ∧ l.length + xs.length < 9223372036854775808 ∧ ∃ xs', (AObj.arr e (l ++ xs) (l ++ xs).length false) = .arr e (l ++ xs') (l ++ xs).length false ∧ flatL UU e xs' = flatL UU e xs := by
  have h := of_decide_eq_true h
  rw [List.length_append] at h
  exact ⟨rfl, rfl, h.1, h.2, xs, rfl, rfl⟩
theorem apn_ob (e : Nat) {b : Nat} {l : List (DD e)} (h : roomy b l = true) : l.length * b ≤ 140737488355328 ∧ l.length < 9223372036854775808 ∧ l.length = l.length ∧ flatL UU e l = flatL UU e l ∧ l.length = l.length := by
  have h := of_decide_eq_true h
  exact ⟨h.1, h.2, rfl, rfl, rfl⟩

theorem mixedOrders : Try.prog.follows .mixedOrders = true := by kernel_rfl
@[reducible] def AV.z : AV DD := .v (.int .i64 0)
@[reducible] def AV.e : AV DD := .v (.string (⟨#[]⟩ : ByteArray))
@[reducible] def AObj.n (t : Nat) : AObj DD := .arr t [] 0 false
end Go.Eng
