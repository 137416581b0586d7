/- Part of the proof of LabelsTells: printed mirrors of the functions, or their contracts. No conditions. -/
import Derived.Test.YtlinloabahbioaaGreatMAM
import Derived.Test.YtlinloabahbioaaGreatProg
set_option linter.unusedVariables false
set_option maxRecDepth 100000
namespace Go.Eng
open Go Go.Proofs
def DD : Den := fun t => match t with
  | 3 => Int
  | 4 => Bool
  | 31 => Api_Net
  | 32 => List Int
  | 42 => Palingref42_Label
  | 43 => Labels_Label
  | 48 => Int
  | 65 => Api_Port
  | 67 => Api_Domain
  | 69 => Api_Flood
  | 71 => Api_Vrf
  | 73 => Api_Device
  | 81 => Labels_spread
  | 92 => Api_Link
  | 129 => Labels_task
  | 131 => Labels_queued
  | 135 => Palingref35_Hop
  | 139 => Palingref36_Lead
  | 145 => Names_judge
  | 154 => Api_Static
  | 163 => Api_Prefix
  | 165 => Api_Irb
  | 190 => Reach_Hop
  | 193 => Choose_Lead
  | _ => Unit

def c3 (x : Int) : List (AV DD) := [.v (.int .i64 x)]

def c4 (x : Bool) : List (AV DD) := [.v (.bool x)]

def c31 (x : Api_Net) : List (AV DD) := [.sl 73 x.devices, .sl 65 x.ports, .sl 92 x.links, .sl 67 x.domains, .sl 154 x.statics, .sl 69 x.floods, .sl 71 x.vrfs, .sl 165 x.irbs]

def c32 (x : List Int) : List (AV DD) := [.sl 3 x]

def c42 (x : Palingref42_Label) : List (AV DD) := [.v (.int .i64 x.plain), .v (.int .i64 x.led)]

def c43 (x : Labels_Label) : List (AV DD) := [.v (.int .i64 x.plain), .v (.int .i64 x.led)]

def c48 (x : Int) : List (AV DD) := [.v (.int .u32 x)]

def c65 (x : Api_Port) : List (AV DD) := [.v (.int .i64 x.row), .v (.int .i64 x.dev), .v (.int .i64 x.native), .v (.int .i64 x.cost), .v (.int .i64 x.link), .v (.string x.name), .sl 3 x.tagged]

def c67 (x : Api_Domain) : List (AV DD) := [.v (.int .i64 x.dev), .v (.int .i64 x.vlan), .v (.int .i64 x.vni), .v (.int .i64 x.irb), .v (.int .i64 x.row), .sl 3 x.peers]

def c69 (x : Api_Flood) : List (AV DD) := [.v (.int .i64 x.row), .v (.int .i64 x.dev), .v (.int .i64 x.vni), .sl 48 x.addrs]

def c71 (x : Api_Vrf) : List (AV DD) := [.v (.int .i64 x.row), .v (.int .i64 x.dev), .v (.string x.name), .sl 3 x.imports, .sl 3 x.exports]

def c73 (x : Api_Device) : List (AV DD) := [.v (.int .i64 x.row), .v (.int .i64 x.priority), .v (.string x.name), .v (.int .u64 x.mac), .v (.int .u32 x.vtep)]

def c81 (x : Labels_spread) : List (AV DD) := [.sl 73 x.n.devices, .sl 65 x.n.ports, .sl 92 x.n.links, .sl 67 x.n.domains, .sl 154 x.n.statics, .sl 69 x.n.floods, .sl 71 x.n.vrfs, .sl 165 x.n.irbs, .sl 43 x.all, .sl 131 x.wait, .sl 32 x.next, .sl 32 x.leads]

def c92 (x : Api_Link) : List (AV DD) := [.v (.int .i64 x.row), .v (.int .i64 x.a), .v (.int .i64 x.b)]

def c129 (x : Labels_task) : List (AV DD) := [.v (.int .i64 x.domain)]

def c131 (x : Labels_queued) : List (AV DD) := [.v (.int .i64 x.task.domain), .v (.bool x.done)]

def c135 (x : Palingref35_Hop) : List (AV DD) := [.v (.int .i64 x.kind), .v (.int .i64 x.port), .v (.int .i64 x.domain), .v (.int .u32 x.addr)]

def c139 (x : Palingref36_Lead) : List (AV DD) := [.v (.int .i64 x.to), .v (.int .i64 x.domain), .v (.int .u32 x.addr)]

def c145 (x : Names_judge) : List (AV DD) := [.sl 73 x.n.devices, .sl 65 x.n.ports, .sl 92 x.n.links, .sl 67 x.n.domains, .sl 154 x.n.statics, .sl 69 x.n.floods, .sl 71 x.n.vrfs, .sl 165 x.n.irbs]

def c154 (x : Api_Static) : List (AV DD) := [.v (.int .i64 x.row), .v (.int .i64 x.domain), .v (.int .i64 x.port), .v (.int .u64 x.mac)]

def c163 (x : Api_Prefix) : List (AV DD) := [.v (.int .u32 x.addr), .v (.int .i64 x.bits)]

def c165 (x : Api_Irb) : List (AV DD) := [.v (.int .i64 x.row), .v (.int .i64 x.domain), .v (.int .i64 x.vrf), .v (.int .u32 x.net.addr), .v (.int .i64 x.net.bits)]

def c190 (x : Reach_Hop) : List (AV DD) := [.v (.int .i64 x.kind), .v (.int .i64 x.port), .v (.int .i64 x.domain), .v (.int .u32 x.addr)]

def c193 (x : Choose_Lead) : List (AV DD) := [.v (.int .i64 x.to), .v (.int .i64 x.domain), .v (.int .u32 x.addr)]

def cellsD : (t : Nat) → DD t → List (AV DD) := fun t => match t with
  | 3 => fun x => c3 x
  | 4 => fun x => c4 x
  | 31 => fun x => c31 x
  | 32 => fun x => c32 x
  | 42 => fun x => c42 x
  | 43 => fun x => c43 x
  | 48 => fun x => c48 x
  | 65 => fun x => c65 x
  | 67 => fun x => c67 x
  | 69 => fun x => c69 x
  | 71 => fun x => c71 x
  | 73 => fun x => c73 x
  | 81 => fun x => c81 x
  | 92 => fun x => c92 x
  | 129 => fun x => c129 x
  | 131 => fun x => c131 x
  | 135 => fun x => c135 x
  | 139 => fun x => c139 x
  | 145 => fun x => c145 x
  | 154 => fun x => c154 x
  | 163 => fun x => c163 x
  | 165 => fun x => c165 x
  | 190 => fun x => c190 x
  | 193 => fun x => c193 x
  | _ => fun _ => [.v (.bool true)]

def widthD : Nat → Nat := fun t => match t with
  | 3 => 1
  | 4 => 1
  | 31 => 8
  | 32 => 1
  | 42 => 2
  | 43 => 2
  | 48 => 1
  | 65 => 7
  | 67 => 6
  | 69 => 4
  | 71 => 5
  | 73 => 5
  | 81 => 12
  | 92 => 3
  | 129 => 1
  | 131 => 2
  | 135 => 4
  | 139 => 3
  | 145 => 8
  | 154 => 4
  | 163 => 2
  | 165 => 5
  | 190 => 4
  | 193 => 3
  | _ => 1

theorem cellsD_else {t : Nat} (x : DD t) (h : t ≠ 3 ∧ t ≠ 4 ∧ t ≠ 31 ∧ t ≠ 32 ∧ t ≠ 42 ∧ t ≠ 43 ∧ t ≠ 48 ∧ t ≠ 65 ∧ t ≠ 67 ∧ t ≠ 69 ∧ t ≠ 71 ∧ t ≠ 73 ∧ t ≠ 81 ∧ t ≠ 92 ∧ t ≠ 129 ∧ t ≠ 131 ∧ t ≠ 135 ∧ t ≠ 139 ∧ t ≠ 145 ∧ t ≠ 154 ∧ t ≠ 163 ∧ t ≠ 165 ∧ t ≠ 190 ∧ t ≠ 193) : cellsD t x = [.v (.bool true)] ∧ widthD t = 1 := by
  obtain ⟨h3, h4, h31, h32, h42, h43, h48, h65, h67, h69, h71, h73, h81, h92, h129, h131, h135, h139, h145, h154, h163, h165, h190, h193⟩ := h
  unfold cellsD widthD
  constructor
  · split <;> first | (exfalso; omega) | rfl
  · split <;> first | (exfalso; omega) | rfl

def UU : Univ DD where
  width := widthD
  cells := cellsD
  len t x := by
    by_cases h3 : t = 3
    · subst h3; rfl
    by_cases h4 : t = 4
    · subst h4; rfl
    by_cases h31 : t = 31
    · subst h31; rfl
    by_cases h32 : t = 32
    · subst h32; rfl
    by_cases h42 : t = 42
    · subst h42; rfl
    by_cases h43 : t = 43
    · subst h43; rfl
    by_cases h48 : t = 48
    · subst h48; rfl
    by_cases h65 : t = 65
    · subst h65; rfl
    by_cases h67 : t = 67
    · subst h67; rfl
    by_cases h69 : t = 69
    · subst h69; rfl
    by_cases h71 : t = 71
    · subst h71; rfl
    by_cases h73 : t = 73
    · subst h73; rfl
    by_cases h81 : t = 81
    · subst h81; rfl
    by_cases h92 : t = 92
    · subst h92; rfl
    by_cases h129 : t = 129
    · subst h129; rfl
    by_cases h131 : t = 131
    · subst h131; rfl
    by_cases h135 : t = 135
    · subst h135; rfl
    by_cases h139 : t = 139
    · subst h139; rfl
    by_cases h145 : t = 145
    · subst h145; rfl
    by_cases h154 : t = 154
    · subst h154; rfl
    by_cases h163 : t = 163
    · subst h163; rfl
    by_cases h165 : t = 165
    · subst h165; rfl
    by_cases h190 : t = 190
    · subst h190; rfl
    by_cases h193 : t = 193
    · subst h193; rfl
    rw [(cellsD_else x ⟨h3, h4, h31, h32, h42, h43, h48, h65, h67, h69, h71, h73, h81, h92, h129, h131, h135, h139, h145, h154, h163, h165, h190, h193⟩).1, (cellsD_else x ⟨h3, h4, h31, h32, h42, h43, h48, h65, h67, h69, h71, h73, h81, h92, h129, h131, h135, h139, h145, h154, h163, h165, h190, h193⟩).2]; rfl
  pos t := by
    by_cases h3 : t = 3
    · subst h3; exact Nat.le_of_ble_eq_true rfl
    by_cases h4 : t = 4
    · subst h4; exact Nat.le_of_ble_eq_true rfl
    by_cases h31 : t = 31
    · subst h31; exact Nat.le_of_ble_eq_true rfl
    by_cases h32 : t = 32
    · subst h32; exact Nat.le_of_ble_eq_true rfl
    by_cases h42 : t = 42
    · subst h42; exact Nat.le_of_ble_eq_true rfl
    by_cases h43 : t = 43
    · subst h43; exact Nat.le_of_ble_eq_true rfl
    by_cases h48 : t = 48
    · subst h48; exact Nat.le_of_ble_eq_true rfl
    by_cases h65 : t = 65
    · subst h65; exact Nat.le_of_ble_eq_true rfl
    by_cases h67 : t = 67
    · subst h67; exact Nat.le_of_ble_eq_true rfl
    by_cases h69 : t = 69
    · subst h69; exact Nat.le_of_ble_eq_true rfl
    by_cases h71 : t = 71
    · subst h71; exact Nat.le_of_ble_eq_true rfl
    by_cases h73 : t = 73
    · subst h73; exact Nat.le_of_ble_eq_true rfl
    by_cases h81 : t = 81
    · subst h81; exact Nat.le_of_ble_eq_true rfl
    by_cases h92 : t = 92
    · subst h92; exact Nat.le_of_ble_eq_true rfl
    by_cases h129 : t = 129
    · subst h129; exact Nat.le_of_ble_eq_true rfl
    by_cases h131 : t = 131
    · subst h131; exact Nat.le_of_ble_eq_true rfl
    by_cases h135 : t = 135
    · subst h135; exact Nat.le_of_ble_eq_true rfl
    by_cases h139 : t = 139
    · subst h139; exact Nat.le_of_ble_eq_true rfl
    by_cases h145 : t = 145
    · subst h145; exact Nat.le_of_ble_eq_true rfl
    by_cases h154 : t = 154
    · subst h154; exact Nat.le_of_ble_eq_true rfl
    by_cases h163 : t = 163
    · subst h163; exact Nat.le_of_ble_eq_true rfl
    by_cases h165 : t = 165
    · subst h165; exact Nat.le_of_ble_eq_true rfl
    by_cases h190 : t = 190
    · subst h190; exact Nat.le_of_ble_eq_true rfl
    by_cases h193 : t = 193
    · subst h193; exact Nat.le_of_ble_eq_true rfl
    unfold widthD; split <;> omega
  ok t x := by
    by_cases h3 : t = 3
    · subst h3; rfl
    by_cases h4 : t = 4
    · subst h4; rfl
    by_cases h31 : t = 31
    · subst h31; rfl
    by_cases h32 : t = 32
    · subst h32; rfl
    by_cases h42 : t = 42
    · subst h42; rfl
    by_cases h43 : t = 43
    · subst h43; rfl
    by_cases h48 : t = 48
    · subst h48; rfl
    by_cases h65 : t = 65
    · subst h65; rfl
    by_cases h67 : t = 67
    · subst h67; rfl
    by_cases h69 : t = 69
    · subst h69; rfl
    by_cases h71 : t = 71
    · subst h71; rfl
    by_cases h73 : t = 73
    · subst h73; rfl
    by_cases h81 : t = 81
    · subst h81; rfl
    by_cases h92 : t = 92
    · subst h92; rfl
    by_cases h129 : t = 129
    · subst h129; rfl
    by_cases h131 : t = 131
    · subst h131; rfl
    by_cases h135 : t = 135
    · subst h135; rfl
    by_cases h139 : t = 139
    · subst h139; rfl
    by_cases h145 : t = 145
    · subst h145; rfl
    by_cases h154 : t = 154
    · subst h154; rfl
    by_cases h163 : t = 163
    · subst h163; rfl
    by_cases h165 : t = 165
    · subst h165; rfl
    by_cases h190 : t = 190
    · subst h190; rfl
    by_cases h193 : t = 193
    · subst h193; rfl
    rw [(cellsD_else x ⟨h3, h4, h31, h32, h42, h43, h48, h65, h67, h69, h71, h73, h81, h92, h129, h131, h135, h139, h145, h154, h163, h165, h190, h193⟩).1]; rfl

theorem im_all {t : Nat} (h : ∀ x : DD t, (UU.cells t x).all immC = true) (l : List (DD t)) : (flatL UU t l).all immC = true := by
  induction l with
  | nil => rfl
  | cons x l ih => simp only [flatL, List.flatMap_cons, List.all_append, Bool.and_eq_true]; exact ⟨h x, ih⟩

theorem im3 (l : List (DD 3)) : (flatL UU 3 l).all immC = true := im_all (fun _ => rfl) l

theorem im4 (l : List (DD 4)) : (flatL UU 4 l).all immC = true := im_all (fun _ => rfl) l

theorem im42 (l : List (DD 42)) : (flatL UU 42 l).all immC = true := im_all (fun _ => rfl) l

theorem im43 (l : List (DD 43)) : (flatL UU 43 l).all immC = true := im_all (fun _ => rfl) l

theorem im48 (l : List (DD 48)) : (flatL UU 48 l).all immC = true := im_all (fun _ => rfl) l

theorem im73 (l : List (DD 73)) : (flatL UU 73 l).all immC = true := im_all (fun _ => rfl) l

theorem im92 (l : List (DD 92)) : (flatL UU 92 l).all immC = true := im_all (fun _ => rfl) l

theorem im129 (l : List (DD 129)) : (flatL UU 129 l).all immC = true := im_all (fun _ => rfl) l

theorem im131 (l : List (DD 131)) : (flatL UU 131 l).all immC = true := im_all (fun _ => rfl) l

theorem im135 (l : List (DD 135)) : (flatL UU 135 l).all immC = true := im_all (fun _ => rfl) l

theorem im139 (l : List (DD 139)) : (flatL UU 139 l).all immC = true := im_all (fun _ => rfl) l

theorem im154 (l : List (DD 154)) : (flatL UU 154 l).all immC = true := im_all (fun _ => rfl) l

theorem im163 (l : List (DD 163)) : (flatL UU 163 l).all immC = true := im_all (fun _ => rfl) l

theorem im165 (l : List (DD 165)) : (flatL UU 165 l).all immC = true := im_all (fun _ => rfl) l

theorem im190 (l : List (DD 190)) : (flatL UU 190 l).all immC = true := im_all (fun _ => rfl) l

theorem im193 (l : List (DD 193)) : (flatL UU 193 l).all immC = true := im_all (fun _ => rfl) l

theorem ob3 {l : List (Int)} {i : Int} {v : Int} (h : nth l i = some v) : 0 ≤ i ∧ ∃ x : DD 3, (show List (DD 3) from l)[i.toNat]? = some x ∧ UU.cells 3 x = c3 v := ⟨(nth_out h).1, v, (nth_out h).2, rfl⟩
theorem obn3 {l : List (Int)} {i : Nat} {v : Int} (h : l[i]? = some v) : ∃ x : DD 3, (show List (DD 3) from l)[i]? = some x ∧ UU.cells 3 x = c3 v := ⟨v, h, rfl⟩

theorem ob4 {l : List (Bool)} {i : Int} {v : Bool} (h : nth l i = some v) : 0 ≤ i ∧ ∃ x : DD 4, (show List (DD 4) from l)[i.toNat]? = some x ∧ UU.cells 4 x = c4 v := ⟨(nth_out h).1, v, (nth_out h).2, rfl⟩
theorem obn4 {l : List (Bool)} {i : Nat} {v : Bool} (h : l[i]? = some v) : ∃ x : DD 4, (show List (DD 4) from l)[i]? = some x ∧ UU.cells 4 x = c4 v := ⟨v, h, rfl⟩

theorem ob31 {l : List (Api_Net)} {i : Int} {v : Api_Net} (h : nth l i = some v) : 0 ≤ i ∧ ∃ x : DD 31, (show List (DD 31) from l)[i.toNat]? = some x ∧ UU.cells 31 x = c31 v := ⟨(nth_out h).1, v, (nth_out h).2, rfl⟩
theorem obn31 {l : List (Api_Net)} {i : Nat} {v : Api_Net} (h : l[i]? = some v) : ∃ x : DD 31, (show List (DD 31) from l)[i]? = some x ∧ UU.cells 31 x = c31 v := ⟨v, h, rfl⟩

theorem ob32 {l : List (List Int)} {i : Int} {v : List Int} (h : nth l i = some v) : 0 ≤ i ∧ ∃ x : DD 32, (show List (DD 32) from l)[i.toNat]? = some x ∧ UU.cells 32 x = c32 v := ⟨(nth_out h).1, v, (nth_out h).2, rfl⟩
theorem obn32 {l : List (List Int)} {i : Nat} {v : List Int} (h : l[i]? = some v) : ∃ x : DD 32, (show List (DD 32) from l)[i]? = some x ∧ UU.cells 32 x = c32 v := ⟨v, h, rfl⟩

theorem ob42 {l : List (Palingref42_Label)} {i : Int} {v : Palingref42_Label} (h : nth l i = some v) : 0 ≤ i ∧ ∃ x : DD 42, (show List (DD 42) from l)[i.toNat]? = some x ∧ UU.cells 42 x = c42 v := ⟨(nth_out h).1, v, (nth_out h).2, rfl⟩
theorem obn42 {l : List (Palingref42_Label)} {i : Nat} {v : Palingref42_Label} (h : l[i]? = some v) : ∃ x : DD 42, (show List (DD 42) from l)[i]? = some x ∧ UU.cells 42 x = c42 v := ⟨v, h, rfl⟩

theorem ob43 {l : List (Labels_Label)} {i : Int} {v : Labels_Label} (h : nth l i = some v) : 0 ≤ i ∧ ∃ x : DD 43, (show List (DD 43) from l)[i.toNat]? = some x ∧ UU.cells 43 x = c43 v := ⟨(nth_out h).1, v, (nth_out h).2, rfl⟩
theorem obn43 {l : List (Labels_Label)} {i : Nat} {v : Labels_Label} (h : l[i]? = some v) : ∃ x : DD 43, (show List (DD 43) from l)[i]? = some x ∧ UU.cells 43 x = c43 v := ⟨v, h, rfl⟩

theorem ob48 {l : List (Int)} {i : Int} {v : Int} (h : nth l i = some v) : 0 ≤ i ∧ ∃ x : DD 48, (show List (DD 48) from l)[i.toNat]? = some x ∧ UU.cells 48 x = c48 v := ⟨(nth_out h).1, v, (nth_out h).2, rfl⟩
theorem obn48 {l : List (Int)} {i : Nat} {v : Int} (h : l[i]? = some v) : ∃ x : DD 48, (show List (DD 48) from l)[i]? = some x ∧ UU.cells 48 x = c48 v := ⟨v, h, rfl⟩

theorem ob65 {l : List (Api_Port)} {i : Int} {v : Api_Port} (h : nth l i = some v) : 0 ≤ i ∧ ∃ x : DD 65, (show List (DD 65) from l)[i.toNat]? = some x ∧ UU.cells 65 x = c65 v := ⟨(nth_out h).1, v, (nth_out h).2, rfl⟩
theorem obn65 {l : List (Api_Port)} {i : Nat} {v : Api_Port} (h : l[i]? = some v) : ∃ x : DD 65, (show List (DD 65) from l)[i]? = some x ∧ UU.cells 65 x = c65 v := ⟨v, h, rfl⟩

theorem ob67 {l : List (Api_Domain)} {i : Int} {v : Api_Domain} (h : nth l i = some v) : 0 ≤ i ∧ ∃ x : DD 67, (show List (DD 67) from l)[i.toNat]? = some x ∧ UU.cells 67 x = c67 v := ⟨(nth_out h).1, v, (nth_out h).2, rfl⟩
theorem obn67 {l : List (Api_Domain)} {i : Nat} {v : Api_Domain} (h : l[i]? = some v) : ∃ x : DD 67, (show List (DD 67) from l)[i]? = some x ∧ UU.cells 67 x = c67 v := ⟨v, h, rfl⟩

theorem ob69 {l : List (Api_Flood)} {i : Int} {v : Api_Flood} (h : nth l i = some v) : 0 ≤ i ∧ ∃ x : DD 69, (show List (DD 69) from l)[i.toNat]? = some x ∧ UU.cells 69 x = c69 v := ⟨(nth_out h).1, v, (nth_out h).2, rfl⟩
theorem obn69 {l : List (Api_Flood)} {i : Nat} {v : Api_Flood} (h : l[i]? = some v) : ∃ x : DD 69, (show List (DD 69) from l)[i]? = some x ∧ UU.cells 69 x = c69 v := ⟨v, h, rfl⟩

theorem ob71 {l : List (Api_Vrf)} {i : Int} {v : Api_Vrf} (h : nth l i = some v) : 0 ≤ i ∧ ∃ x : DD 71, (show List (DD 71) from l)[i.toNat]? = some x ∧ UU.cells 71 x = c71 v := ⟨(nth_out h).1, v, (nth_out h).2, rfl⟩
theorem obn71 {l : List (Api_Vrf)} {i : Nat} {v : Api_Vrf} (h : l[i]? = some v) : ∃ x : DD 71, (show List (DD 71) from l)[i]? = some x ∧ UU.cells 71 x = c71 v := ⟨v, h, rfl⟩

theorem ob73 {l : List (Api_Device)} {i : Int} {v : Api_Device} (h : nth l i = some v) : 0 ≤ i ∧ ∃ x : DD 73, (show List (DD 73) from l)[i.toNat]? = some x ∧ UU.cells 73 x = c73 v := ⟨(nth_out h).1, v, (nth_out h).2, rfl⟩
theorem obn73 {l : List (Api_Device)} {i : Nat} {v : Api_Device} (h : l[i]? = some v) : ∃ x : DD 73, (show List (DD 73) from l)[i]? = some x ∧ UU.cells 73 x = c73 v := ⟨v, h, rfl⟩

theorem ob81 {l : List (Labels_spread)} {i : Int} {v : Labels_spread} (h : nth l i = some v) : 0 ≤ i ∧ ∃ x : DD 81, (show List (DD 81) from l)[i.toNat]? = some x ∧ UU.cells 81 x = c81 v := ⟨(nth_out h).1, v, (nth_out h).2, rfl⟩
theorem obn81 {l : List (Labels_spread)} {i : Nat} {v : Labels_spread} (h : l[i]? = some v) : ∃ x : DD 81, (show List (DD 81) from l)[i]? = some x ∧ UU.cells 81 x = c81 v := ⟨v, h, rfl⟩

theorem ob92 {l : List (Api_Link)} {i : Int} {v : Api_Link} (h : nth l i = some v) : 0 ≤ i ∧ ∃ x : DD 92, (show List (DD 92) from l)[i.toNat]? = some x ∧ UU.cells 92 x = c92 v := ⟨(nth_out h).1, v, (nth_out h).2, rfl⟩
theorem obn92 {l : List (Api_Link)} {i : Nat} {v : Api_Link} (h : l[i]? = some v) : ∃ x : DD 92, (show List (DD 92) from l)[i]? = some x ∧ UU.cells 92 x = c92 v := ⟨v, h, rfl⟩

theorem ob129 {l : List (Labels_task)} {i : Int} {v : Labels_task} (h : nth l i = some v) : 0 ≤ i ∧ ∃ x : DD 129, (show List (DD 129) from l)[i.toNat]? = some x ∧ UU.cells 129 x = c129 v := ⟨(nth_out h).1, v, (nth_out h).2, rfl⟩
theorem obn129 {l : List (Labels_task)} {i : Nat} {v : Labels_task} (h : l[i]? = some v) : ∃ x : DD 129, (show List (DD 129) from l)[i]? = some x ∧ UU.cells 129 x = c129 v := ⟨v, h, rfl⟩

theorem ob131 {l : List (Labels_queued)} {i : Int} {v : Labels_queued} (h : nth l i = some v) : 0 ≤ i ∧ ∃ x : DD 131, (show List (DD 131) from l)[i.toNat]? = some x ∧ UU.cells 131 x = c131 v := ⟨(nth_out h).1, v, (nth_out h).2, rfl⟩
theorem obn131 {l : List (Labels_queued)} {i : Nat} {v : Labels_queued} (h : l[i]? = some v) : ∃ x : DD 131, (show List (DD 131) from l)[i]? = some x ∧ UU.cells 131 x = c131 v := ⟨v, h, rfl⟩

theorem ob135 {l : List (Palingref35_Hop)} {i : Int} {v : Palingref35_Hop} (h : nth l i = some v) : 0 ≤ i ∧ ∃ x : DD 135, (show List (DD 135) from l)[i.toNat]? = some x ∧ UU.cells 135 x = c135 v := ⟨(nth_out h).1, v, (nth_out h).2, rfl⟩
theorem obn135 {l : List (Palingref35_Hop)} {i : Nat} {v : Palingref35_Hop} (h : l[i]? = some v) : ∃ x : DD 135, (show List (DD 135) from l)[i]? = some x ∧ UU.cells 135 x = c135 v := ⟨v, h, rfl⟩

theorem ob139 {l : List (Palingref36_Lead)} {i : Int} {v : Palingref36_Lead} (h : nth l i = some v) : 0 ≤ i ∧ ∃ x : DD 139, (show List (DD 139) from l)[i.toNat]? = some x ∧ UU.cells 139 x = c139 v := ⟨(nth_out h).1, v, (nth_out h).2, rfl⟩
theorem obn139 {l : List (Palingref36_Lead)} {i : Nat} {v : Palingref36_Lead} (h : l[i]? = some v) : ∃ x : DD 139, (show List (DD 139) from l)[i]? = some x ∧ UU.cells 139 x = c139 v := ⟨v, h, rfl⟩

theorem ob145 {l : List (Names_judge)} {i : Int} {v : Names_judge} (h : nth l i = some v) : 0 ≤ i ∧ ∃ x : DD 145, (show List (DD 145) from l)[i.toNat]? = some x ∧ UU.cells 145 x = c145 v := ⟨(nth_out h).1, v, (nth_out h).2, rfl⟩
theorem obn145 {l : List (Names_judge)} {i : Nat} {v : Names_judge} (h : l[i]? = some v) : ∃ x : DD 145, (show List (DD 145) from l)[i]? = some x ∧ UU.cells 145 x = c145 v := ⟨v, h, rfl⟩

theorem ob154 {l : List (Api_Static)} {i : Int} {v : Api_Static} (h : nth l i = some v) : 0 ≤ i ∧ ∃ x : DD 154, (show List (DD 154) from l)[i.toNat]? = some x ∧ UU.cells 154 x = c154 v := ⟨(nth_out h).1, v, (nth_out h).2, rfl⟩
theorem obn154 {l : List (Api_Static)} {i : Nat} {v : Api_Static} (h : l[i]? = some v) : ∃ x : DD 154, (show List (DD 154) from l)[i]? = some x ∧ UU.cells 154 x = c154 v := ⟨v, h, rfl⟩

theorem ob163 {l : List (Api_Prefix)} {i : Int} {v : Api_Prefix} (h : nth l i = some v) : 0 ≤ i ∧ ∃ x : DD 163, (show List (DD 163) from l)[i.toNat]? = some x ∧ UU.cells 163 x = c163 v := ⟨(nth_out h).1, v, (nth_out h).2, rfl⟩
theorem obn163 {l : List (Api_Prefix)} {i : Nat} {v : Api_Prefix} (h : l[i]? = some v) : ∃ x : DD 163, (show List (DD 163) from l)[i]? = some x ∧ UU.cells 163 x = c163 v := ⟨v, h, rfl⟩

theorem ob165 {l : List (Api_Irb)} {i : Int} {v : Api_Irb} (h : nth l i = some v) : 0 ≤ i ∧ ∃ x : DD 165, (show List (DD 165) from l)[i.toNat]? = some x ∧ UU.cells 165 x = c165 v := ⟨(nth_out h).1, v, (nth_out h).2, rfl⟩
theorem obn165 {l : List (Api_Irb)} {i : Nat} {v : Api_Irb} (h : l[i]? = some v) : ∃ x : DD 165, (show List (DD 165) from l)[i]? = some x ∧ UU.cells 165 x = c165 v := ⟨v, h, rfl⟩

theorem ob190 {l : List (Reach_Hop)} {i : Int} {v : Reach_Hop} (h : nth l i = some v) : 0 ≤ i ∧ ∃ x : DD 190, (show List (DD 190) from l)[i.toNat]? = some x ∧ UU.cells 190 x = c190 v := ⟨(nth_out h).1, v, (nth_out h).2, rfl⟩
theorem obn190 {l : List (Reach_Hop)} {i : Nat} {v : Reach_Hop} (h : l[i]? = some v) : ∃ x : DD 190, (show List (DD 190) from l)[i]? = some x ∧ UU.cells 190 x = c190 v := ⟨v, h, rfl⟩

theorem ob193 {l : List (Choose_Lead)} {i : Int} {v : Choose_Lead} (h : nth l i = some v) : 0 ≤ i ∧ ∃ x : DD 193, (show List (DD 193) from l)[i.toNat]? = some x ∧ UU.cells 193 x = c193 v := ⟨(nth_out h).1, v, (nth_out h).2, rfl⟩
theorem obn193 {l : List (Choose_Lead)} {i : Nat} {v : Choose_Lead} (h : l[i]? = some v) : ∃ x : DD 193, (show List (DD 193) from l)[i]? = some x ∧ UU.cells 193 x = c193 v := ⟨v, h, rfl⟩

theorem cp_ob {n e : Nat} {l l2 : List (DD e)} {a b : Nat} : n = n ∧ ∃ xs : List (DD e), (AObj.arr e (l.take a ++ (l2.take (min l2.length (b - a)) ++ l.drop (a + min l2.length (b - a)))) n false) = .arr e (l.take a ++ (xs ++ l.drop (a + min l2.length (b - a)))) n false ∧ flatL UU e xs = flatL UU e (l2.take (min l2.length (b - a))) := ⟨rfl, _, rfl, rfl⟩
theorem cl_ob {n e : Nat} {l : List (DD e)} {a b : Nat} (y : DD e) : n = n ∧ ∃ y', (AObj.arr e (l.take a ++ (List.replicate (b - a) y ++ l.drop b)) n false) = .arr e (l.take a ++ (List.replicate (b - a) y' ++ l.drop b)) n false ∧ UU.cells e y' = UU.cells e y := ⟨rfl, y, rfl, rfl⟩
theorem st_ob {n e : Nat} {l : List (DD e)} {i : Nat} {A : Prop} (y : DD e) (r : List (AV DD)) (h : A) (hr : UU.cells e y = r) : n = n ∧ A ∧ ∃ y', (AObj.arr e (l.set i y) n false) = .arr e (l.set i y') n false ∧ UU.cells e y' = r := ⟨rfl, h, y, rfl, hr⟩
theorem bs_ob (e : Nat) (l : List (DD e)) : flatL UU e l = flatL UU e l ∧ l.length = l.length ∧ l.length = l.length := ⟨rfl, rfl, rfl⟩
theorem mk_ob {n m : Int} {b : Nat} (e : Nat) (z : DD e) (h : mkok b n m = true) : 0 ≤ n ∧ n ≤ m ∧ m * b ≤ 140737488355328 ∧ m < 9223372036854775808 ∧ ∃ y : DD e, List.replicate n.toNat z = List.replicate n.toNat y ∧ UU.cells e y = UU.cells e z := by
  have h := of_decide_eq_true h
  exact ⟨h.1, h.2.1, h.2.2.1, h.2.2.2, z, rfl, rfl⟩
theorem app_ob (e : Nat) {n b : Nat} {l xs : List (DD e)} (h : roomy b (l ++ xs) = true) : n = n ∧ (l ++ xs).length = (l ++ xs).length ∧ (l.length + xs.length) * b ≤ 140737488355328 ∧ l.length + xs.length < 9223372036854775808 ∧ ∃ xs', (AObj.arr e (l ++ xs) (l ++ xs).length false) = .arr e (l ++ xs') (l ++ xs).length false ∧ flatL UU e xs' = flatL UU e xs := by
  have h := of_decide_eq_true h
  rw [List.length_append] at h
  exact ⟨rfl, rfl, h.1, h.2, xs, rfl, rfl⟩
theorem apn_ob (e : Nat) {b : Nat} {l : List (DD e)} (h : roomy b l = true) : l.length * b ≤ 140737488355328 ∧ l.length < 9223372036854775808 ∧ l.length = l.length ∧ flatL UU e l = flatL UU e l ∧ l.length = l.length := by
  have h := of_decide_eq_true h
  exact ⟨h.1, h.2, rfl, rfl, rfl⟩

theorem mixedOrders : Tryz.prog.follows .mixedOrders = true := by kernel_rfl
@[reducible] def AV.z : AV DD := .v (.int .i64 0)
@[reducible] def AV.e : AV DD := .v (.string (⟨#[]⟩ : ByteArray))
@[reducible] def AObj.n (t : Nat) : AObj DD := .arr t [] 0 false
end Go.Eng
