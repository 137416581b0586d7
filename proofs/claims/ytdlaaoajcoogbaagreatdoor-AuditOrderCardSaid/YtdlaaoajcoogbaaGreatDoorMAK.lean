/- Part of the proof of AuditOrder: printed mirrors of the functions, or their contracts. No conditions. -/
import Derived.Test.YtdlaaoajcoogbaaGreatDoorMAM
import Derived.Test.YtdlaaoajcoogbaaGreatDoorProg
import Derived.Test.YtdlaaoajcoogbaaGreatDoorEngJ
set_option linter.unusedVariables false
set_option maxRecDepth 100000
namespace Go.Eng
open Go Go.Proofs
def DD : Den := fun t => match t with
  | 3 => Int
  | 5 => Int
  | 9 => ByteArray
  | 31 => Api_Net
  | 33 => Audit_Note
  | 43 => Palingref47_Note
  | 49 => Api_Link
  | 52 => Api_Port
  | 59 => Int
  | 61 => Api_Device
  | 63 => Api_Domain
  | 66 => Audit_auditor
  | 76 => Api_Flood
  | 78 => Api_Vrf
  | 83 => Names_judge
  | 92 => Api_Static
  | 101 => Api_Prefix
  | 103 => Api_Irb
  | 137 => Reach_search
  | 146 => Palingref35_Hop
  | 151 => Reach_Hop
  | _ => Unit

def c3 (x : Int) : List (AV DD) := [.v (.int .i64 x)]

def c5 (x : Int) : List (AV DD) := [.v (.int .u8 x)]

def c9 (x : ByteArray) : List (AV DD) := [.v (.string x)]

def c31 (x : Api_Net) : List (AV DD) := [.sl 61 x.devices, .sl 52 x.ports, .sl 49 x.links, .sl 63 x.domains, .sl 92 x.statics, .sl 76 x.floods, .sl 78 x.vrfs, .sl 103 x.irbs]

def c33 (x : Audit_Note) : List (AV DD) := [.v (.int .i64 x.kind), .v (.int .i64 x.row), .v (.int .i64 x.a), .v (.int .i64 x.b)]

def c43 (x : Palingref47_Note) : List (AV DD) := [.v (.int .i64 x.kind), .v (.int .i64 x.row), .v (.int .i64 x.a), .v (.int .i64 x.b)]

def c49 (x : Api_Link) : List (AV DD) := [.v (.int .i64 x.row), .v (.int .i64 x.a), .v (.int .i64 x.b)]

def c52 (x : Api_Port) : List (AV DD) := [.v (.int .i64 x.row), .v (.int .i64 x.dev), .v (.int .i64 x.native), .v (.int .i64 x.cost), .v (.int .i64 x.link), .v (.string x.name), .sl 3 x.tagged]

def c59 (x : Int) : List (AV DD) := [.v (.int .u32 x)]

def c61 (x : Api_Device) : List (AV DD) := [.v (.int .i64 x.row), .v (.int .i64 x.priority), .v (.string x.name), .v (.int .u64 x.mac), .v (.int .u32 x.vtep)]

def c63 (x : Api_Domain) : List (AV DD) := [.v (.int .i64 x.dev), .v (.int .i64 x.vlan), .v (.int .i64 x.vni), .v (.int .i64 x.irb), .v (.int .i64 x.row), .sl 3 x.peers]

def c66 (x : Audit_auditor) : List (AV DD) := [.sl 61 x.n.devices, .sl 52 x.n.ports, .sl 49 x.n.links, .sl 63 x.n.domains, .sl 92 x.n.statics, .sl 76 x.n.floods, .sl 78 x.n.vrfs, .sl 103 x.n.irbs, .sl 33 x.list]

def c76 (x : Api_Flood) : List (AV DD) := [.v (.int .i64 x.row), .v (.int .i64 x.dev), .v (.int .i64 x.vni), .sl 59 x.addrs]

def c78 (x : Api_Vrf) : List (AV DD) := [.v (.int .i64 x.row), .v (.int .i64 x.dev), .v (.string x.name), .sl 3 x.imports, .sl 3 x.exports]

def c83 (x : Names_judge) : List (AV DD) := [.sl 61 x.n.devices, .sl 52 x.n.ports, .sl 49 x.n.links, .sl 63 x.n.domains, .sl 92 x.n.statics, .sl 76 x.n.floods, .sl 78 x.n.vrfs, .sl 103 x.n.irbs]

def c92 (x : Api_Static) : List (AV DD) := [.v (.int .i64 x.row), .v (.int .i64 x.domain), .v (.int .i64 x.port), .v (.int .u64 x.mac)]

def c101 (x : Api_Prefix) : List (AV DD) := [.v (.int .u32 x.addr), .v (.int .i64 x.bits)]

def c103 (x : Api_Irb) : List (AV DD) := [.v (.int .i64 x.row), .v (.int .i64 x.domain), .v (.int .i64 x.vrf), .v (.int .u32 x.net.addr), .v (.int .i64 x.net.bits)]

def c137 (x : Reach_search) : List (AV DD) := [.sl 3 x.steps, .sl 151 x.last, .sl 3 x.ahead]

def c146 (x : Palingref35_Hop) : List (AV DD) := [.v (.int .i64 x.kind), .v (.int .i64 x.port), .v (.int .i64 x.domain), .v (.int .u32 x.addr)]

def c151 (x : Reach_Hop) : List (AV DD) := [.v (.int .i64 x.kind), .v (.int .i64 x.port), .v (.int .i64 x.domain), .v (.int .u32 x.addr)]

def cellsD : (t : Nat) → DD t → List (AV DD) := fun t => match t with
  | 3 => fun x => c3 x
  | 5 => fun x => c5 x
  | 9 => fun x => c9 x
  | 31 => fun x => c31 x
  | 33 => fun x => c33 x
  | 43 => fun x => c43 x
  | 49 => fun x => c49 x
  | 52 => fun x => c52 x
  | 59 => fun x => c59 x
  | 61 => fun x => c61 x
  | 63 => fun x => c63 x
  | 66 => fun x => c66 x
  | 76 => fun x => c76 x
  | 78 => fun x => c78 x
  | 83 => fun x => c83 x
  | 92 => fun x => c92 x
  | 101 => fun x => c101 x
  | 103 => fun x => c103 x
  | 137 => fun x => c137 x
  | 146 => fun x => c146 x
  | 151 => fun x => c151 x
  | _ => fun _ => [.v (.bool true)]

def widthD : Nat → Nat := fun t => match t with
  | 3 => 1
  | 5 => 1
  | 9 => 1
  | 31 => 8
  | 33 => 4
  | 43 => 4
  | 49 => 3
  | 52 => 7
  | 59 => 1
  | 61 => 5
  | 63 => 6
  | 66 => 9
  | 76 => 4
  | 78 => 5
  | 83 => 8
  | 92 => 4
  | 101 => 2
  | 103 => 5
  | 137 => 3
  | 146 => 4
  | 151 => 4
  | _ => 1

theorem cellsD_else {t : Nat} (x : DD t) (h : t ≠ 3 ∧ t ≠ 5 ∧ t ≠ 9 ∧ t ≠ 31 ∧ t ≠ 33 ∧ t ≠ 43 ∧ t ≠ 49 ∧ t ≠ 52 ∧ t ≠ 59 ∧ t ≠ 61 ∧ t ≠ 63 ∧ t ≠ 66 ∧ t ≠ 76 ∧ t ≠ 78 ∧ t ≠ 83 ∧ t ≠ 92 ∧ t ≠ 101 ∧ t ≠ 103 ∧ t ≠ 137 ∧ t ≠ 146 ∧ t ≠ 151) : cellsD t x = [.v (.bool true)] ∧ widthD t = 1 := by
  obtain ⟨h3, h5, h9, h31, h33, h43, h49, h52, h59, h61, h63, h66, h76, h78, h83, h92, h101, h103, h137, h146, h151⟩ := h
  unfold cellsD widthD
  constructor
  · split <;> first | (exfalso; omega) | rfl
  · split <;> first | (exfalso; omega) | rfl

def UU : Univ DD where
  width := widthD
  cells := cellsD
  len t x := by
    by_cases h3 : t = 3
    · subst h3; rfl
    by_cases h5 : t = 5
    · subst h5; rfl
    by_cases h9 : t = 9
    · subst h9; rfl
    by_cases h31 : t = 31
    · subst h31; rfl
    by_cases h33 : t = 33
    · subst h33; rfl
    by_cases h43 : t = 43
    · subst h43; rfl
    by_cases h49 : t = 49
    · subst h49; rfl
    by_cases h52 : t = 52
    · subst h52; rfl
    by_cases h59 : t = 59
    · subst h59; rfl
    by_cases h61 : t = 61
    · subst h61; rfl
    by_cases h63 : t = 63
    · subst h63; rfl
    by_cases h66 : t = 66
    · subst h66; rfl
    by_cases h76 : t = 76
    · subst h76; rfl
    by_cases h78 : t = 78
    · subst h78; rfl
    by_cases h83 : t = 83
    · subst h83; rfl
    by_cases h92 : t = 92
    · subst h92; rfl
    by_cases h101 : t = 101
    · subst h101; rfl
    by_cases h103 : t = 103
    · subst h103; rfl
    by_cases h137 : t = 137
    · subst h137; rfl
    by_cases h146 : t = 146
    · subst h146; rfl
    by_cases h151 : t = 151
    · subst h151; rfl
    rw [(cellsD_else x ⟨h3, h5, h9, h31, h33, h43, h49, h52, h59, h61, h63, h66, h76, h78, h83, h92, h101, h103, h137, h146, h151⟩).1, (cellsD_else x ⟨h3, h5, h9, h31, h33, h43, h49, h52, h59, h61, h63, h66, h76, h78, h83, h92, h101, h103, h137, h146, h151⟩).2]; rfl
  pos t := by
    by_cases h3 : t = 3
    · subst h3; exact Nat.le_of_ble_eq_true rfl
    by_cases h5 : t = 5
    · subst h5; exact Nat.le_of_ble_eq_true rfl
    by_cases h9 : t = 9
    · subst h9; exact Nat.le_of_ble_eq_true rfl
    by_cases h31 : t = 31
    · subst h31; exact Nat.le_of_ble_eq_true rfl
    by_cases h33 : t = 33
    · subst h33; exact Nat.le_of_ble_eq_true rfl
    by_cases h43 : t = 43
    · subst h43; exact Nat.le_of_ble_eq_true rfl
    by_cases h49 : t = 49
    · subst h49; exact Nat.le_of_ble_eq_true rfl
    by_cases h52 : t = 52
    · subst h52; exact Nat.le_of_ble_eq_true rfl
    by_cases h59 : t = 59
    · subst h59; exact Nat.le_of_ble_eq_true rfl
    by_cases h61 : t = 61
    · subst h61; exact Nat.le_of_ble_eq_true rfl
    by_cases h63 : t = 63
    · subst h63; exact Nat.le_of_ble_eq_true rfl
    by_cases h66 : t = 66
    · subst h66; exact Nat.le_of_ble_eq_true rfl
    by_cases h76 : t = 76
    · subst h76; exact Nat.le_of_ble_eq_true rfl
    by_cases h78 : t = 78
    · subst h78; exact Nat.le_of_ble_eq_true rfl
    by_cases h83 : t = 83
    · subst h83; exact Nat.le_of_ble_eq_true rfl
    by_cases h92 : t = 92
    · subst h92; exact Nat.le_of_ble_eq_true rfl
    by_cases h101 : t = 101
    · subst h101; exact Nat.le_of_ble_eq_true rfl
    by_cases h103 : t = 103
    · subst h103; exact Nat.le_of_ble_eq_true rfl
    by_cases h137 : t = 137
    · subst h137; exact Nat.le_of_ble_eq_true rfl
    by_cases h146 : t = 146
    · subst h146; exact Nat.le_of_ble_eq_true rfl
    by_cases h151 : t = 151
    · subst h151; exact Nat.le_of_ble_eq_true rfl
    unfold widthD; split <;> omega
  ok t x := by
    by_cases h3 : t = 3
    · subst h3; rfl
    by_cases h5 : t = 5
    · subst h5; rfl
    by_cases h9 : t = 9
    · subst h9; rfl
    by_cases h31 : t = 31
    · subst h31; rfl
    by_cases h33 : t = 33
    · subst h33; rfl
    by_cases h43 : t = 43
    · subst h43; rfl
    by_cases h49 : t = 49
    · subst h49; rfl
    by_cases h52 : t = 52
    · subst h52; rfl
    by_cases h59 : t = 59
    · subst h59; rfl
    by_cases h61 : t = 61
    · subst h61; rfl
    by_cases h63 : t = 63
    · subst h63; rfl
    by_cases h66 : t = 66
    · subst h66; rfl
    by_cases h76 : t = 76
    · subst h76; rfl
    by_cases h78 : t = 78
    · subst h78; rfl
    by_cases h83 : t = 83
    · subst h83; rfl
    by_cases h92 : t = 92
    · subst h92; rfl
    by_cases h101 : t = 101
    · subst h101; rfl
    by_cases h103 : t = 103
    · subst h103; rfl
    by_cases h137 : t = 137
    · subst h137; rfl
    by_cases h146 : t = 146
    · subst h146; rfl
    by_cases h151 : t = 151
    · subst h151; rfl
    rw [(cellsD_else x ⟨h3, h5, h9, h31, h33, h43, h49, h52, h59, h61, h63, h66, h76, h78, h83, h92, h101, h103, h137, h146, h151⟩).1]; rfl

instance : Gl DD := ⟨fun g => match g with | 0 => some [.v (.string (⟨#[]⟩ : ByteArray)), .v (.string (⟨#[115, 104, 105, 102, 116, 101, 100]⟩ : ByteArray)), .v (.string (⟨#[108, 111, 112, 115, 105, 100, 101, 100]⟩ : ByteArray)), .v (.string (⟨#[108, 111, 110, 101, 108, 121]⟩ : ByteArray)), .v (.string (⟨#[115, 105, 108, 101, 110, 116]⟩ : ByteArray)), .v (.string (⟨#[117, 110, 117, 115, 101, 100]⟩ : ByteArray)), .v (.string (⟨#[112, 105, 110, 110, 101, 100]⟩ : ByteArray)), .v (.string (⟨#[98, 97, 114, 101]⟩ : ByteArray)), .v (.string (⟨#[108, 101, 97, 100, 105, 110, 103]⟩ : ByteArray)), .v (.string (⟨#[116, 114, 117, 110, 107]⟩ : ByteArray))] | _ => none⟩

theorem im_all {t : Nat} (h : ∀ x : DD t, (UU.cells t x).all immC = true) (l : List (DD t)) : (flatL UU t l).all immC = true := by
  induction l with
  | nil => rfl
  | cons x l ih => simp only [flatL, List.flatMap_cons, List.all_append, Bool.and_eq_true]; exact ⟨h x, ih⟩

theorem im3 (l : List (DD 3)) : (flatL UU 3 l).all immC = true := im_all (fun _ => rfl) l

theorem im5 (l : List (DD 5)) : (flatL UU 5 l).all immC = true := im_all (fun _ => rfl) l

theorem im9 (l : List (DD 9)) : (flatL UU 9 l).all immC = true := im_all (fun _ => rfl) l

theorem im33 (l : List (DD 33)) : (flatL UU 33 l).all immC = true := im_all (fun _ => rfl) l

theorem im43 (l : List (DD 43)) : (flatL UU 43 l).all immC = true := im_all (fun _ => rfl) l

theorem im49 (l : List (DD 49)) : (flatL UU 49 l).all immC = true := im_all (fun _ => rfl) l

theorem im59 (l : List (DD 59)) : (flatL UU 59 l).all immC = true := im_all (fun _ => rfl) l

theorem im61 (l : List (DD 61)) : (flatL UU 61 l).all immC = true := im_all (fun _ => rfl) l

theorem im92 (l : List (DD 92)) : (flatL UU 92 l).all immC = true := im_all (fun _ => rfl) l

theorem im101 (l : List (DD 101)) : (flatL UU 101 l).all immC = true := im_all (fun _ => rfl) l

theorem im103 (l : List (DD 103)) : (flatL UU 103 l).all immC = true := im_all (fun _ => rfl) l

theorem im146 (l : List (DD 146)) : (flatL UU 146 l).all immC = true := im_all (fun _ => rfl) l

theorem im151 (l : List (DD 151)) : (flatL UU 151 l).all immC = true := im_all (fun _ => rfl) l

theorem ob3 {l : List (Int)} {i : Int} {v : Int} (h : nth l i = some v) : 0 ≤ i ∧ ∃ x : DD 3, (show List (DD 3) from l)[i.toNat]? = some x ∧ UU.cells 3 x = c3 v := ⟨(nth_out h).1, v, (nth_out h).2, rfl⟩
theorem obn3 {l : List (Int)} {i : Nat} {v : Int} (h : l[i]? = some v) : ∃ x : DD 3, (show List (DD 3) from l)[i]? = some x ∧ UU.cells 3 x = c3 v := ⟨v, h, rfl⟩

theorem ob5 {l : List (Int)} {i : Int} {v : Int} (h : nth l i = some v) : 0 ≤ i ∧ ∃ x : DD 5, (show List (DD 5) from l)[i.toNat]? = some x ∧ UU.cells 5 x = c5 v := ⟨(nth_out h).1, v, (nth_out h).2, rfl⟩
theorem obn5 {l : List (Int)} {i : Nat} {v : Int} (h : l[i]? = some v) : ∃ x : DD 5, (show List (DD 5) from l)[i]? = some x ∧ UU.cells 5 x = c5 v := ⟨v, h, rfl⟩

theorem ob9 {l : List (ByteArray)} {i : Int} {v : ByteArray} (h : nth l i = some v) : 0 ≤ i ∧ ∃ x : DD 9, (show List (DD 9) from l)[i.toNat]? = some x ∧ UU.cells 9 x = c9 v := ⟨(nth_out h).1, v, (nth_out h).2, rfl⟩
theorem obn9 {l : List (ByteArray)} {i : Nat} {v : ByteArray} (h : l[i]? = some v) : ∃ x : DD 9, (show List (DD 9) from l)[i]? = some x ∧ UU.cells 9 x = c9 v := ⟨v, h, rfl⟩

theorem ob31 {l : List (Api_Net)} {i : Int} {v : Api_Net} (h : nth l i = some v) : 0 ≤ i ∧ ∃ x : DD 31, (show List (DD 31) from l)[i.toNat]? = some x ∧ UU.cells 31 x = c31 v := ⟨(nth_out h).1, v, (nth_out h).2, rfl⟩
theorem obn31 {l : List (Api_Net)} {i : Nat} {v : Api_Net} (h : l[i]? = some v) : ∃ x : DD 31, (show List (DD 31) from l)[i]? = some x ∧ UU.cells 31 x = c31 v := ⟨v, h, rfl⟩

theorem ob33 {l : List (Audit_Note)} {i : Int} {v : Audit_Note} (h : nth l i = some v) : 0 ≤ i ∧ ∃ x : DD 33, (show List (DD 33) from l)[i.toNat]? = some x ∧ UU.cells 33 x = c33 v := ⟨(nth_out h).1, v, (nth_out h).2, rfl⟩
theorem obn33 {l : List (Audit_Note)} {i : Nat} {v : Audit_Note} (h : l[i]? = some v) : ∃ x : DD 33, (show List (DD 33) from l)[i]? = some x ∧ UU.cells 33 x = c33 v := ⟨v, h, rfl⟩

theorem ob43 {l : List (Palingref47_Note)} {i : Int} {v : Palingref47_Note} (h : nth l i = some v) : 0 ≤ i ∧ ∃ x : DD 43, (show List (DD 43) from l)[i.toNat]? = some x ∧ UU.cells 43 x = c43 v := ⟨(nth_out h).1, v, (nth_out h).2, rfl⟩
theorem obn43 {l : List (Palingref47_Note)} {i : Nat} {v : Palingref47_Note} (h : l[i]? = some v) : ∃ x : DD 43, (show List (DD 43) from l)[i]? = some x ∧ UU.cells 43 x = c43 v := ⟨v, h, rfl⟩

theorem ob49 {l : List (Api_Link)} {i : Int} {v : Api_Link} (h : nth l i = some v) : 0 ≤ i ∧ ∃ x : DD 49, (show List (DD 49) from l)[i.toNat]? = some x ∧ UU.cells 49 x = c49 v := ⟨(nth_out h).1, v, (nth_out h).2, rfl⟩
theorem obn49 {l : List (Api_Link)} {i : Nat} {v : Api_Link} (h : l[i]? = some v) : ∃ x : DD 49, (show List (DD 49) from l)[i]? = some x ∧ UU.cells 49 x = c49 v := ⟨v, h, rfl⟩

theorem ob52 {l : List (Api_Port)} {i : Int} {v : Api_Port} (h : nth l i = some v) : 0 ≤ i ∧ ∃ x : DD 52, (show List (DD 52) from l)[i.toNat]? = some x ∧ UU.cells 52 x = c52 v := ⟨(nth_out h).1, v, (nth_out h).2, rfl⟩
theorem obn52 {l : List (Api_Port)} {i : Nat} {v : Api_Port} (h : l[i]? = some v) : ∃ x : DD 52, (show List (DD 52) from l)[i]? = some x ∧ UU.cells 52 x = c52 v := ⟨v, h, rfl⟩

theorem ob59 {l : List (Int)} {i : Int} {v : Int} (h : nth l i = some v) : 0 ≤ i ∧ ∃ x : DD 59, (show List (DD 59) from l)[i.toNat]? = some x ∧ UU.cells 59 x = c59 v := ⟨(nth_out h).1, v, (nth_out h).2, rfl⟩
theorem obn59 {l : List (Int)} {i : Nat} {v : Int} (h : l[i]? = some v) : ∃ x : DD 59, (show List (DD 59) from l)[i]? = some x ∧ UU.cells 59 x = c59 v := ⟨v, h, rfl⟩

theorem ob61 {l : List (Api_Device)} {i : Int} {v : Api_Device} (h : nth l i = some v) : 0 ≤ i ∧ ∃ x : DD 61, (show List (DD 61) from l)[i.toNat]? = some x ∧ UU.cells 61 x = c61 v := ⟨(nth_out h).1, v, (nth_out h).2, rfl⟩
theorem obn61 {l : List (Api_Device)} {i : Nat} {v : Api_Device} (h : l[i]? = some v) : ∃ x : DD 61, (show List (DD 61) from l)[i]? = some x ∧ UU.cells 61 x = c61 v := ⟨v, h, rfl⟩

theorem ob63 {l : List (Api_Domain)} {i : Int} {v : Api_Domain} (h : nth l i = some v) : 0 ≤ i ∧ ∃ x : DD 63, (show List (DD 63) from l)[i.toNat]? = some x ∧ UU.cells 63 x = c63 v := ⟨(nth_out h).1, v, (nth_out h).2, rfl⟩
theorem obn63 {l : List (Api_Domain)} {i : Nat} {v : Api_Domain} (h : l[i]? = some v) : ∃ x : DD 63, (show List (DD 63) from l)[i]? = some x ∧ UU.cells 63 x = c63 v := ⟨v, h, rfl⟩

theorem ob66 {l : List (Audit_auditor)} {i : Int} {v : Audit_auditor} (h : nth l i = some v) : 0 ≤ i ∧ ∃ x : DD 66, (show List (DD 66) from l)[i.toNat]? = some x ∧ UU.cells 66 x = c66 v := ⟨(nth_out h).1, v, (nth_out h).2, rfl⟩
theorem obn66 {l : List (Audit_auditor)} {i : Nat} {v : Audit_auditor} (h : l[i]? = some v) : ∃ x : DD 66, (show List (DD 66) from l)[i]? = some x ∧ UU.cells 66 x = c66 v := ⟨v, h, rfl⟩

theorem ob76 {l : List (Api_Flood)} {i : Int} {v : Api_Flood} (h : nth l i = some v) : 0 ≤ i ∧ ∃ x : DD 76, (show List (DD 76) from l)[i.toNat]? = some x ∧ UU.cells 76 x = c76 v := ⟨(nth_out h).1, v, (nth_out h).2, rfl⟩
theorem obn76 {l : List (Api_Flood)} {i : Nat} {v : Api_Flood} (h : l[i]? = some v) : ∃ x : DD 76, (show List (DD 76) from l)[i]? = some x ∧ UU.cells 76 x = c76 v := ⟨v, h, rfl⟩

theorem ob78 {l : List (Api_Vrf)} {i : Int} {v : Api_Vrf} (h : nth l i = some v) : 0 ≤ i ∧ ∃ x : DD 78, (show List (DD 78) from l)[i.toNat]? = some x ∧ UU.cells 78 x = c78 v := ⟨(nth_out h).1, v, (nth_out h).2, rfl⟩
theorem obn78 {l : List (Api_Vrf)} {i : Nat} {v : Api_Vrf} (h : l[i]? = some v) : ∃ x : DD 78, (show List (DD 78) from l)[i]? = some x ∧ UU.cells 78 x = c78 v := ⟨v, h, rfl⟩

theorem ob83 {l : List (Names_judge)} {i : Int} {v : Names_judge} (h : nth l i = some v) : 0 ≤ i ∧ ∃ x : DD 83, (show List (DD 83) from l)[i.toNat]? = some x ∧ UU.cells 83 x = c83 v := ⟨(nth_out h).1, v, (nth_out h).2, rfl⟩
theorem obn83 {l : List (Names_judge)} {i : Nat} {v : Names_judge} (h : l[i]? = some v) : ∃ x : DD 83, (show List (DD 83) from l)[i]? = some x ∧ UU.cells 83 x = c83 v := ⟨v, h, rfl⟩

theorem ob92 {l : List (Api_Static)} {i : Int} {v : Api_Static} (h : nth l i = some v) : 0 ≤ i ∧ ∃ x : DD 92, (show List (DD 92) from l)[i.toNat]? = some x ∧ UU.cells 92 x = c92 v := ⟨(nth_out h).1, v, (nth_out h).2, rfl⟩
theorem obn92 {l : List (Api_Static)} {i : Nat} {v : Api_Static} (h : l[i]? = some v) : ∃ x : DD 92, (show List (DD 92) from l)[i]? = some x ∧ UU.cells 92 x = c92 v := ⟨v, h, rfl⟩

theorem ob101 {l : List (Api_Prefix)} {i : Int} {v : Api_Prefix} (h : nth l i = some v) : 0 ≤ i ∧ ∃ x : DD 101, (show List (DD 101) from l)[i.toNat]? = some x ∧ UU.cells 101 x = c101 v := ⟨(nth_out h).1, v, (nth_out h).2, rfl⟩
theorem obn101 {l : List (Api_Prefix)} {i : Nat} {v : Api_Prefix} (h : l[i]? = some v) : ∃ x : DD 101, (show List (DD 101) from l)[i]? = some x ∧ UU.cells 101 x = c101 v := ⟨v, h, rfl⟩

theorem ob103 {l : List (Api_Irb)} {i : Int} {v : Api_Irb} (h : nth l i = some v) : 0 ≤ i ∧ ∃ x : DD 103, (show List (DD 103) from l)[i.toNat]? = some x ∧ UU.cells 103 x = c103 v := ⟨(nth_out h).1, v, (nth_out h).2, rfl⟩
theorem obn103 {l : List (Api_Irb)} {i : Nat} {v : Api_Irb} (h : l[i]? = some v) : ∃ x : DD 103, (show List (DD 103) from l)[i]? = some x ∧ UU.cells 103 x = c103 v := ⟨v, h, rfl⟩

theorem ob137 {l : List (Reach_search)} {i : Int} {v : Reach_search} (h : nth l i = some v) : 0 ≤ i ∧ ∃ x : DD 137, (show List (DD 137) from l)[i.toNat]? = some x ∧ UU.cells 137 x = c137 v := ⟨(nth_out h).1, v, (nth_out h).2, rfl⟩
theorem obn137 {l : List (Reach_search)} {i : Nat} {v : Reach_search} (h : l[i]? = some v) : ∃ x : DD 137, (show List (DD 137) from l)[i]? = some x ∧ UU.cells 137 x = c137 v := ⟨v, h, rfl⟩

theorem ob146 {l : List (Palingref35_Hop)} {i : Int} {v : Palingref35_Hop} (h : nth l i = some v) : 0 ≤ i ∧ ∃ x : DD 146, (show List (DD 146) from l)[i.toNat]? = some x ∧ UU.cells 146 x = c146 v := ⟨(nth_out h).1, v, (nth_out h).2, rfl⟩
theorem obn146 {l : List (Palingref35_Hop)} {i : Nat} {v : Palingref35_Hop} (h : l[i]? = some v) : ∃ x : DD 146, (show List (DD 146) from l)[i]? = some x ∧ UU.cells 146 x = c146 v := ⟨v, h, rfl⟩

theorem ob151 {l : List (Reach_Hop)} {i : Int} {v : Reach_Hop} (h : nth l i = some v) : 0 ≤ i ∧ ∃ x : DD 151, (show List (DD 151) from l)[i.toNat]? = some x ∧ UU.cells 151 x = c151 v := ⟨(nth_out h).1, v, (nth_out h).2, rfl⟩
theorem obn151 {l : List (Reach_Hop)} {i : Nat} {v : Reach_Hop} (h : l[i]? = some v) : ∃ x : DD 151, (show List (DD 151) from l)[i]? = some x ∧ UU.cells 151 x = c151 v := ⟨v, h, rfl⟩

theorem cvb5 (l : List Int) : ∃ ns : List Int, flatL UU 5 (show List (DD 5) from l) = ns.map (fun n => (.v (.int .u8 n) : AV DD)) ∧ bstr l = ⟨(ns.map fun n => UInt8.ofNat n.toNat).toArray⟩ := ⟨l, by
  induction l with
  | nil => rfl
  | cons x l ih => exact congrArg (List.cons _) ih, rfl⟩

theorem app_pt (e : Nat) {n b : Nat} {l xs : List (DD e)} (h : ptok l.length b xs.length = true) : n = n ∧ n = n ∧ 0 < l.length ∧ b + xs.length ≤ l.length ∧ (([] : List Nat) = [] ∨ b + xs.length = l.length) ∧ ∃ xs', (AObj.arr e (l.take b ++ (xs ++ l.drop (b + xs.length))) n false) = .arr e (l.take b ++ (xs' ++ l.drop (b + xs.length))) n false ∧ flatL UU e xs' = flatL UU e xs := by
  have h := of_decide_eq_true h
  exact ⟨rfl, rfl, h.1, h.2, .inl rfl, xs, rfl, rfl⟩
theorem apw_ob (e : Nat) {n b : Nat} {l xs : List (DD e)} (h : ptwok l.length b xs.length = true) : n = n ∧ n = n ∧ 0 < l.length ∧ b + xs.length ≤ l.length ∧ (([0] : List Nat) = [] ∨ b + xs.length = l.length) ∧ ∃ xs', (AObj.arr e (l.take b ++ (xs ++ l.drop (b + xs.length))) n false) = .arr e (l.take b ++ (xs' ++ l.drop (b + xs.length))) n false ∧ flatL UU e xs' = flatL UU e xs := by
  have h := of_decide_eq_true h
  exact ⟨rfl, rfl, h.1, Nat.le_of_eq h.2, .inr h.2, xs, rfl, rfl⟩

theorem cp_ob {n e : Nat} {l l2 : List (DD e)} {a b : Nat} : n = n ∧ ∃ xs : List (DD e), (AObj.arr e (l.take a ++ (l2.take (min l2.length (b - a)) ++ l.drop (a + min l2.length (b - a)))) n false) = .arr e (l.take a ++ (xs ++ l.drop (a + min l2.length (b - a)))) n false ∧ flatL UU e xs = flatL UU e (l2.take (min l2.length (b - a))) := ⟨rfl, _, rfl, rfl⟩
theorem cl_ob {n e : Nat} {l : List (DD e)} {a b : Nat} (y : DD e) : n = n ∧ ∃ y', (AObj.arr e (l.take a ++ (List.replicate (b - a) y ++ l.drop b)) n false) = .arr e (l.take a ++ (List.replicate (b - a) y' ++ l.drop b)) n false ∧ UU.cells e y' = UU.cells e y := ⟨rfl, y, rfl, rfl⟩
theorem st_ob {n e : Nat} {l : List (DD e)} {i : Nat} {A : Prop} (y : DD e) (r : List (AV DD)) (h : A) (hr : UU.cells e y = r) : n = n ∧ A ∧ ∃ y', (AObj.arr e (l.set i y) n false) = .arr e (l.set i y') n false ∧ UU.cells e y' = r := ⟨rfl, h, y, rfl, hr⟩
theorem bs_ob (e : Nat) (l : List (DD e)) : flatL UU e l = flatL UU e l ∧ l.length = l.length ∧ l.length = l.length := ⟨rfl, rfl, rfl⟩
theorem mk_ob {n m : Int} {b : Nat} (e : Nat) (z : DD e) (h : mkok b n m = true) : 0 ≤ n ∧ n ≤ m ∧ m * b ≤ 140737488355328 ∧ m < 9223372036854775808 ∧ ∃ y : DD e, List.replicate n.toNat z = List.replicate n.toNat y ∧ UU.cells e y = UU.cells e z := by
  have h := of_decide_eq_true h
  exact ⟨h.1, h.2.1, h.2.2.1, h.2.2.2, z, rfl, rfl⟩
theorem app_ob (e : Nat) {n b : Nat} {l xs : List (DD e)} (h : roomy b (l ++ xs) = true) : n = n ∧ (l ++ xs).length = (l ++ xs).length ∧ (l.length + xs.length) * b ≤ 140737488355328 ∧ l.length + xs.length < 9223372036854775808 ∧ ∃ xs', (AObj.arr e (l ++ xs) (l ++ xs).length false) = .arr e (l ++ xs') (l ++ xs).length false ∧ flatL UU e xs' = flatL UU e xs := by
  have h := of_decide_eq_true h
  rw [List.length_append] at h
  exact ⟨rfl, rfl, h.1, h.2, xs, rfl, rfl⟩
theorem apd_ob (e : Nat) {b : Nat} {l : List (DD e)} (h : roomy b l = true) : l.length * b ≤ 140737488355328 ∧ l.length < 9223372036854775808 ∧ l.length = l.length ∧ flatL UU e l = flatL UU e l := by
  have h := of_decide_eq_true h
  exact ⟨h.1, h.2, rfl, rfl⟩
theorem apn_ob (e : Nat) {b : Nat} {l : List (DD e)} (h : roomy b l = true) : l.length * b ≤ 140737488355328 ∧ l.length < 9223372036854775808 ∧ l.length = l.length ∧ flatL UU e l = flatL UU e l ∧ l.length = l.length := by
  have h := of_decide_eq_true h
  exact ⟨h.1, h.2, rfl, rfl, rfl⟩

def joinRen : Go.Shelf.Ren := ⟨fun | 156 => 121 | 165 => 136 | 166 => 137 | 169 => 138 | 240 => 142 | 241 => 143 | 276 => 149 | 277 => 150 | n => n, fun | 31 => 57 | 9 => 9 | 3 => 3 | 4 => 4 | 0 => 0 | 20 => 20 | 72 => 161 | 76 => 165 | 70 => 159 | 37 => 110 | 75 => 164 | 127 => 171 | 164 => 177 | 5 => 5 | 80 => 167 | n => n, fun n => n⟩
theorem joinLays : Lays.n156 Tryz.prog joinRen where
  mixed := by kernel_rfl
  f156 := Tryz.func121.trans (congrArg some (by kernel_rfl))
  f165 := Tryz.func136.trans (congrArg some (by kernel_rfl))
  f166 := Tryz.func137.trans (congrArg some (by kernel_rfl))
  f169 := Tryz.func138.trans (congrArg some (by kernel_rfl))
  f240 := Tryz.func142.trans (congrArg some (by kernel_rfl))
  f241 := Tryz.func143.trans (congrArg some (by kernel_rfl))
  f276 := Tryz.func149.trans (congrArg some (by kernel_rfl))
  f277 := Tryz.func150.trans (congrArg some (by kernel_rfl))
  t0 := Tryz.underlying0
  a0 := Tryz.isAgg0
  z0 := Tryz.sizeOf0
  v0 := Tryz.zeroValue0
  t3 := Tryz.underlying3
  a3 := Tryz.isAgg3
  z3 := Tryz.sizeOf3
  v3 := Tryz.zeroValue3
  t4 := Tryz.underlying4
  a4 := Tryz.isAgg4
  z4 := Tryz.sizeOf4
  v4 := Tryz.zeroValue4
  t9 := Tryz.underlying9
  a9 := Tryz.isAgg9
  z9 := Tryz.sizeOf9
  v9 := Tryz.zeroValue9
  t20 := Tryz.underlying20
  a20 := Tryz.isAgg20
  z20 := Tryz.sizeOf20
  v20 := Tryz.zeroValue20
  t31 := Tryz.underlying57
  a31 := Tryz.isAgg57
  z31 := Tryz.sizeOf57
  v31 := Tryz.zeroValue57
  t37 := Tryz.underlying110
  a37 := Tryz.isAgg110
  z37 := Tryz.sizeOf110
  v37 := Tryz.zeroValue110
  t70 := Tryz.underlying159
  a70 := Tryz.isAgg159
  z70 := Tryz.sizeOf159
  v70 := Tryz.zeroValue159
  t72 := Tryz.underlying161
  a72 := Tryz.isAgg161
  z72 := Tryz.sizeOf161
  v72 := Tryz.zeroValue161
  t75 := Tryz.underlying164
  a75 := Tryz.isAgg164
  z75 := Tryz.sizeOf164
  v75 := Tryz.zeroValue164
  t76 := Tryz.underlying165
  a76 := Tryz.isAgg165
  z76 := Tryz.sizeOf165
  v76 := Tryz.zeroValue165
  t127 := Tryz.underlying171
  a127 := Tryz.isAgg171
  z127 := Tryz.sizeOf171
  v127 := Tryz.zeroValue171
  t164 := Tryz.underlying177
  a164 := Tryz.isAgg177
  z164 := Tryz.sizeOf177
  v164 := Tryz.zeroValue177
theorem joinExtra : Builder.Extra Tryz.prog joinRen where
  sizeBuilder := by kernel_rfl
  liesBuilder := by kernel_rfl
  t5 := Tryz.underlying5
  a5 := Tryz.isAgg5
  z5 := Tryz.sizeOf5
  v5 := Tryz.zeroValue5
  infoByte := by kernel_rfl
  cellsByte := by kernel_rfl
  sizeByte := by kernel_rfl
  neB5 := by decide
theorem mixedOrders : Tryz.prog.follows .mixedOrders = true := by kernel_rfl
@[reducible] def AV.z : AV DD := .v (.int .i64 0)
@[reducible] def AV.e : AV DD := .v (.string (⟨#[]⟩ : ByteArray))
@[reducible] def AObj.n (t : Nat) : AObj DD := .arr t [] 0 false
theorem rl {k N : Nat} {c : Code} {fr fr' : Fr DD} {hp h' : Heap DD} {ps : List Prop} {ex : Ex} (live ids : List Nat) (π : List (Ans DD)) (hps : AllP ps) (hx : runLp Tryz.prog UU k N c fr hp live ids π = some (ps, ex, fr', h') := by kernel_rfl) : ExecOK Tryz.prog UU k N c fr hp ex fr' h' := runLp_sound mixedOrders hx hps
theorem rf {f : FuncId} {fn : Func} {args : List (AV DD)} {h h' : Heap DD} {ps : List Prop} {r : AV DD} (hfn : Tryz.prog.funcs[f]? = some fn) (keep : Option (List Nat)) (π : List (Ans DD)) (hps : AllP ps) (hname : (fn.name == "runtime.NumGoroutine") = false := by rfl) (hrun : runFn Tryz.prog UU fn args h keep π = some (ps, r, h') := by kernel_rfl) : CallsOK Tryz.prog UU f args h r h' := runFn_sound mixedOrders hfn hname hrun hps
theorem rn (n : Nat) : n = n := rfl
theorem an (n : Nat) {p : Prop} (h : p) : n = n ∧ p := ⟨rfl, h⟩
@[reducible] def AV.j (n : Int) : AV DD := .v (.int .i64 n)
theorem oi {α : Type} {a b : α} (h : some a = some b) : a = b := by injection h
theorem rr (x : AV DD) : x = x := rfl
theorem rh (x : Heap DD) : x = x := rfl
theorem ro (x : AObj DD) : x = x := rfl
theorem rl2 (x : List (AV DD)) : x = x := rfl
theorem pd {p : Prop} {ps : List Prop} (h : p) (hs : AllP ps) : AllP (p :: p :: ps) := pc h (pc h hs)
@[reducible] def AObj.w {D : Den} (t : Nat) (l : List (D t)) : AObj D := .arr t l l.length false
@[reducible] def AObj.wt {D : Den} (t : Nat) (l : List (D t)) : AObj D := .arr t l l.length true
@[reducible] def AV.x (s : ByteArray) : AV DD := .v (.string s)
@[reducible] def AV.y (b : Bool) : AV DD := .v (.bool b)
@[reducible] def AV.o (k : Nat) : AV DD := .op k 1 0 0
@[reducible] def Ans.t : Ans DD := .dec true
@[reducible] def Ans.f : Ans DD := .dec false
@[reducible] def Ans.b (x : Bool) : Ans DD := .callv (.v (.bool x))
theorem bo {α β : Type} {o : Option α} {f : α → Option β} {r : β} (h : o.bind f = some r) : ∃ v, o = some v ∧ f v = some r := bind_out h
end Go.Eng
