/- Part of the proof of MatrixApart: printed mirrors of the functions, or their contracts. No conditions. -/
import Derived.Test.YtcclngfmkodgjaaGreatMAM
import Derived.Test.YtcclngfmkodgjaaGreatProg
import Derived.Test.YtcclngfmkodgjaaGreatEngJ
set_option linter.unusedVariables false
set_option maxRecDepth 100000
namespace Go.Eng
open Go Go.Proofs
def DD : Den := fun t => match t with
  | 3 => Int
  | 4 => Bool
  | 5 => Int
  | 9 => ByteArray
  | 31 => Api_Net
  | 33 => Int
  | 34 => List Int
  | 56 => Api_Device
  | 57 => List (List Matrix_Cell)
  | 70 => List Matrix_Cell
  | 79 => Matrix_Cell
  | 88 => Api_Vrf
  | 90 => Api_Domain
  | 103 => Api_Prefix
  | 105 => Api_Irb
  | 110 => Api_Port
  | 113 => Api_Flood
  | 159 => Witness_state
  | 161 => Reach_Hop
  | 163 => Witness_found
  | 174 => Api_Link
  | 178 => Api_Static
  | 190 => Names_judge
  | 214 => Labels_Label
  | 229 => Labels_spread
  | 242 => Choose_Lead
  | 270 => Labels_task
  | 272 => Labels_queued
  | _ => Unit

def c3 (x : Int) : List (AV DD) := [.v (.int .i64 x)]

def c4 (x : Bool) : List (AV DD) := [.v (.bool x)]

def c5 (x : Int) : List (AV DD) := [.v (.int .u8 x)]

def c9 (x : ByteArray) : List (AV DD) := [.v (.string x)]

def c31 (x : Api_Net) : List (AV DD) := [.sl 56 x.devices, .sl 110 x.ports, .sl 174 x.links, .sl 90 x.domains, .sl 178 x.statics, .sl 113 x.floods, .sl 88 x.vrfs, .sl 105 x.irbs]

def c33 (x : Int) : List (AV DD) := [.v (.int .u32 x)]

def c34 (x : List Int) : List (AV DD) := [.sl 3 x]

def c56 (x : Api_Device) : List (AV DD) := [.v (.int .i64 x.row), .v (.int .i64 x.priority), .v (.string x.name), .v (.int .u64 x.mac), .v (.int .u32 x.vtep)]

def c57 (x : List (List Matrix_Cell)) : List (AV DD) := [.sl 70 x]

def c70 (x : List Matrix_Cell) : List (AV DD) := [.sl 79 x]

def c79 (x : Matrix_Cell) : List (AV DD) := [.v (.int .i64 x.ports), .v (.int .i64 x.from_), .v (.int .i64 x.to)]

def c88 (x : Api_Vrf) : List (AV DD) := [.v (.int .i64 x.row), .v (.int .i64 x.dev), .v (.string x.name), .sl 3 x.imports, .sl 3 x.exports]

def c90 (x : Api_Domain) : List (AV DD) := [.v (.int .i64 x.dev), .v (.int .i64 x.vlan), .v (.int .i64 x.vni), .v (.int .i64 x.irb), .v (.int .i64 x.row), .sl 3 x.peers]

def c103 (x : Api_Prefix) : List (AV DD) := [.v (.int .u32 x.addr), .v (.int .i64 x.bits)]

def c105 (x : Api_Irb) : List (AV DD) := [.v (.int .i64 x.row), .v (.int .i64 x.domain), .v (.int .i64 x.vrf), .v (.int .u32 x.net.addr), .v (.int .i64 x.net.bits)]

def c110 (x : Api_Port) : List (AV DD) := [.v (.int .i64 x.row), .v (.int .i64 x.dev), .v (.int .i64 x.native), .v (.int .i64 x.cost), .v (.int .i64 x.link), .v (.string x.name), .sl 3 x.tagged]

def c113 (x : Api_Flood) : List (AV DD) := [.v (.int .i64 x.row), .v (.int .i64 x.dev), .v (.int .i64 x.vni), .sl 33 x.addrs]

def c159 (x : Witness_state) : List (AV DD) := [.v (.int .i64 x.domain), .v (.int .i64 x.kind)]

def c161 (x : Reach_Hop) : List (AV DD) := [.v (.int .i64 x.kind), .v (.int .i64 x.port), .v (.int .i64 x.domain), .v (.int .u32 x.addr)]

def c163 (x : Witness_found) : List (AV DD) := [.v (.int .i64 x.state.domain), .v (.int .i64 x.state.kind), .v (.int .i64 x.hop.kind), .v (.int .i64 x.hop.port), .v (.int .i64 x.hop.domain), .v (.int .u32 x.hop.addr), .v (.int .i64 x.ahead)]

def c174 (x : Api_Link) : List (AV DD) := [.v (.int .i64 x.row), .v (.int .i64 x.a), .v (.int .i64 x.b)]

def c178 (x : Api_Static) : List (AV DD) := [.v (.int .i64 x.row), .v (.int .i64 x.domain), .v (.int .i64 x.port), .v (.int .u64 x.mac)]

def c190 (x : Names_judge) : List (AV DD) := [.sl 56 x.n.devices, .sl 110 x.n.ports, .sl 174 x.n.links, .sl 90 x.n.domains, .sl 178 x.n.statics, .sl 113 x.n.floods, .sl 88 x.n.vrfs, .sl 105 x.n.irbs]

def c214 (x : Labels_Label) : List (AV DD) := [.v (.int .i64 x.plain), .v (.int .i64 x.led)]

def c229 (x : Labels_spread) : List (AV DD) := [.sl 56 x.n.devices, .sl 110 x.n.ports, .sl 174 x.n.links, .sl 90 x.n.domains, .sl 178 x.n.statics, .sl 113 x.n.floods, .sl 88 x.n.vrfs, .sl 105 x.n.irbs, .sl 214 x.all, .sl 272 x.wait, .sl 34 x.next, .sl 34 x.leads]

def c242 (x : Choose_Lead) : List (AV DD) := [.v (.int .i64 x.to), .v (.int .i64 x.domain), .v (.int .u32 x.addr)]

def c270 (x : Labels_task) : List (AV DD) := [.v (.int .i64 x.domain)]

def c272 (x : Labels_queued) : List (AV DD) := [.v (.int .i64 x.task.domain), .v (.bool x.done)]

def cellsD : (t : Nat) → DD t → List (AV DD) := fun t => match t with
  | 3 => fun x => c3 x
  | 4 => fun x => c4 x
  | 5 => fun x => c5 x
  | 9 => fun x => c9 x
  | 31 => fun x => c31 x
  | 33 => fun x => c33 x
  | 34 => fun x => c34 x
  | 56 => fun x => c56 x
  | 57 => fun x => c57 x
  | 70 => fun x => c70 x
  | 79 => fun x => c79 x
  | 88 => fun x => c88 x
  | 90 => fun x => c90 x
  | 103 => fun x => c103 x
  | 105 => fun x => c105 x
  | 110 => fun x => c110 x
  | 113 => fun x => c113 x
  | 159 => fun x => c159 x
  | 161 => fun x => c161 x
  | 163 => fun x => c163 x
  | 174 => fun x => c174 x
  | 178 => fun x => c178 x
  | 190 => fun x => c190 x
  | 214 => fun x => c214 x
  | 229 => fun x => c229 x
  | 242 => fun x => c242 x
  | 270 => fun x => c270 x
  | 272 => fun x => c272 x
  | _ => fun _ => [.v (.bool true)]

def widthD : Nat → Nat := fun t => match t with
  | 3 => 1
  | 4 => 1
  | 5 => 1
  | 9 => 1
  | 31 => 8
  | 33 => 1
  | 34 => 1
  | 56 => 5
  | 57 => 1
  | 70 => 1
  | 79 => 3
  | 88 => 5
  | 90 => 6
  | 103 => 2
  | 105 => 5
  | 110 => 7
  | 113 => 4
  | 159 => 2
  | 161 => 4
  | 163 => 7
  | 174 => 3
  | 178 => 4
  | 190 => 8
  | 214 => 2
  | 229 => 12
  | 242 => 3
  | 270 => 1
  | 272 => 2
  | _ => 1

theorem cellsD_else {t : Nat} (x : DD t) (h : t ≠ 3 ∧ t ≠ 4 ∧ t ≠ 5 ∧ t ≠ 9 ∧ t ≠ 31 ∧ t ≠ 33 ∧ t ≠ 34 ∧ t ≠ 56 ∧ t ≠ 57 ∧ t ≠ 70 ∧ t ≠ 79 ∧ t ≠ 88 ∧ t ≠ 90 ∧ t ≠ 103 ∧ t ≠ 105 ∧ t ≠ 110 ∧ t ≠ 113 ∧ t ≠ 159 ∧ t ≠ 161 ∧ t ≠ 163 ∧ t ≠ 174 ∧ t ≠ 178 ∧ t ≠ 190 ∧ t ≠ 214 ∧ t ≠ 229 ∧ t ≠ 242 ∧ t ≠ 270 ∧ t ≠ 272) : cellsD t x = [.v (.bool true)] ∧ widthD t = 1 := by
  obtain ⟨h3, h4, h5, h9, h31, h33, h34, h56, h57, h70, h79, h88, h90, h103, h105, h110, h113, h159, h161, h163, h174, h178, h190, h214, h229, h242, h270, h272⟩ := h
  unfold cellsD widthD
  constructor
  · split <;> first | (exfalso; omega) | rfl
  · split <;> first | (exfalso; omega) | rfl

def UU : Univ DD where
  width := widthD
  cells := cellsD
  len t x := by
    by_cases h3 : t = 3
    · subst h3; rfl
    by_cases h4 : t = 4
    · subst h4; rfl
    by_cases h5 : t = 5
    · subst h5; rfl
    by_cases h9 : t = 9
    · subst h9; rfl
    by_cases h31 : t = 31
    · subst h31; rfl
    by_cases h33 : t = 33
    · subst h33; rfl
    by_cases h34 : t = 34
    · subst h34; rfl
    by_cases h56 : t = 56
    · subst h56; rfl
    by_cases h57 : t = 57
    · subst h57; rfl
    by_cases h70 : t = 70
    · subst h70; rfl
    by_cases h79 : t = 79
    · subst h79; rfl
    by_cases h88 : t = 88
    · subst h88; rfl
    by_cases h90 : t = 90
    · subst h90; rfl
    by_cases h103 : t = 103
    · subst h103; rfl
    by_cases h105 : t = 105
    · subst h105; rfl
    by_cases h110 : t = 110
    · subst h110; rfl
    by_cases h113 : t = 113
    · subst h113; rfl
    by_cases h159 : t = 159
    · subst h159; rfl
    by_cases h161 : t = 161
    · subst h161; rfl
    by_cases h163 : t = 163
    · subst h163; rfl
    by_cases h174 : t = 174
    · subst h174; rfl
    by_cases h178 : t = 178
    · subst h178; rfl
    by_cases h190 : t = 190
    · subst h190; rfl
    by_cases h214 : t = 214
    · subst h214; rfl
    by_cases h229 : t = 229
    · subst h229; rfl
    by_cases h242 : t = 242
    · subst h242; rfl
    by_cases h270 : t = 270
    · subst h270; rfl
    by_cases h272 : t = 272
    · subst h272; rfl
    rw [(cellsD_else x ⟨h3, h4, h5, h9, h31, h33, h34, h56, h57, h70, h79, h88, h90, h103, h105, h110, h113, h159, h161, h163, h174, h178, h190, h214, h229, h242, h270, h272⟩).1, (cellsD_else x ⟨h3, h4, h5, h9, h31, h33, h34, h56, h57, h70, h79, h88, h90, h103, h105, h110, h113, h159, h161, h163, h174, h178, h190, h214, h229, h242, h270, h272⟩).2]; rfl
  pos t := by
    by_cases h3 : t = 3
    · subst h3; exact Nat.le_of_ble_eq_true rfl
    by_cases h4 : t = 4
    · subst h4; exact Nat.le_of_ble_eq_true rfl
    by_cases h5 : t = 5
    · subst h5; exact Nat.le_of_ble_eq_true rfl
    by_cases h9 : t = 9
    · subst h9; exact Nat.le_of_ble_eq_true rfl
    by_cases h31 : t = 31
    · subst h31; exact Nat.le_of_ble_eq_true rfl
    by_cases h33 : t = 33
    · subst h33; exact Nat.le_of_ble_eq_true rfl
    by_cases h34 : t = 34
    · subst h34; exact Nat.le_of_ble_eq_true rfl
    by_cases h56 : t = 56
    · subst h56; exact Nat.le_of_ble_eq_true rfl
    by_cases h57 : t = 57
    · subst h57; exact Nat.le_of_ble_eq_true rfl
    by_cases h70 : t = 70
    · subst h70; exact Nat.le_of_ble_eq_true rfl
    by_cases h79 : t = 79
    · subst h79; exact Nat.le_of_ble_eq_true rfl
    by_cases h88 : t = 88
    · subst h88; exact Nat.le_of_ble_eq_true rfl
    by_cases h90 : t = 90
    · subst h90; exact Nat.le_of_ble_eq_true rfl
    by_cases h103 : t = 103
    · subst h103; exact Nat.le_of_ble_eq_true rfl
    by_cases h105 : t = 105
    · subst h105; exact Nat.le_of_ble_eq_true rfl
    by_cases h110 : t = 110
    · subst h110; exact Nat.le_of_ble_eq_true rfl
    by_cases h113 : t = 113
    · subst h113; exact Nat.le_of_ble_eq_true rfl
    by_cases h159 : t = 159
    · subst h159; exact Nat.le_of_ble_eq_true rfl
    by_cases h161 : t = 161
    · subst h161; exact Nat.le_of_ble_eq_true rfl
    by_cases h163 : t = 163
    · subst h163; exact Nat.le_of_ble_eq_true rfl
    by_cases h174 : t = 174
    · subst h174; exact Nat.le_of_ble_eq_true rfl
    by_cases h178 : t = 178
    · subst h178; exact Nat.le_of_ble_eq_true rfl
    by_cases h190 : t = 190
    · subst h190; exact Nat.le_of_ble_eq_true rfl
    by_cases h214 : t = 214
    · subst h214; exact Nat.le_of_ble_eq_true rfl
    by_cases h229 : t = 229
    · subst h229; exact Nat.le_of_ble_eq_true rfl
    by_cases h242 : t = 242
    · subst h242; exact Nat.le_of_ble_eq_true rfl
    by_cases h270 : t = 270
    · subst h270; exact Nat.le_of_ble_eq_true rfl
    by_cases h272 : t = 272
    · subst h272; exact Nat.le_of_ble_eq_true rfl
    unfold widthD; split <;> omega
  ok t x := by
    by_cases h3 : t = 3
    · subst h3; rfl
    by_cases h4 : t = 4
    · subst h4; rfl
    by_cases h5 : t = 5
    · subst h5; rfl
    by_cases h9 : t = 9
    · subst h9; rfl
    by_cases h31 : t = 31
    · subst h31; rfl
    by_cases h33 : t = 33
    · subst h33; rfl
    by_cases h34 : t = 34
    · subst h34; rfl
    by_cases h56 : t = 56
    · subst h56; rfl
    by_cases h57 : t = 57
    · subst h57; rfl
    by_cases h70 : t = 70
    · subst h70; rfl
    by_cases h79 : t = 79
    · subst h79; rfl
    by_cases h88 : t = 88
    · subst h88; rfl
    by_cases h90 : t = 90
    · subst h90; rfl
    by_cases h103 : t = 103
    · subst h103; rfl
    by_cases h105 : t = 105
    · subst h105; rfl
    by_cases h110 : t = 110
    · subst h110; rfl
    by_cases h113 : t = 113
    · subst h113; rfl
    by_cases h159 : t = 159
    · subst h159; rfl
    by_cases h161 : t = 161
    · subst h161; rfl
    by_cases h163 : t = 163
    · subst h163; rfl
    by_cases h174 : t = 174
    · subst h174; rfl
    by_cases h178 : t = 178
    · subst h178; rfl
    by_cases h190 : t = 190
    · subst h190; rfl
    by_cases h214 : t = 214
    · subst h214; rfl
    by_cases h229 : t = 229
    · subst h229; rfl
    by_cases h242 : t = 242
    · subst h242; rfl
    by_cases h270 : t = 270
    · subst h270; rfl
    by_cases h272 : t = 272
    · subst h272; rfl
    rw [(cellsD_else x ⟨h3, h4, h5, h9, h31, h33, h34, h56, h57, h70, h79, h88, h90, h103, h105, h110, h113, h159, h161, h163, h174, h178, h190, h214, h229, h242, h270, h272⟩).1]; rfl

theorem noEsc : (Tryz.f210.name == "runtime.NumGoroutine") = false ∧ Tryz.f210.body.isNone = true ∧ Extern.findNext Tryz.f210 = none ∧ Extern.find Tryz.f210 = some Extern.AbiNoEscape.same := ⟨by kernel_rfl, by kernel_rfl, by kernel_rfl, by kernel_rfl⟩

instance : Gl DD := ⟨fun _ => none⟩

theorem im_all {t : Nat} (h : ∀ x : DD t, (UU.cells t x).all immC = true) (l : List (DD t)) : (flatL UU t l).all immC = true := by
  induction l with
  | nil => rfl
  | cons x l ih => simp only [flatL, List.flatMap_cons, List.all_append, Bool.and_eq_true]; exact ⟨h x, ih⟩

theorem im3 (l : List (DD 3)) : (flatL UU 3 l).all immC = true := im_all (fun _ => rfl) l

theorem im4 (l : List (DD 4)) : (flatL UU 4 l).all immC = true := im_all (fun _ => rfl) l

theorem im5 (l : List (DD 5)) : (flatL UU 5 l).all immC = true := im_all (fun _ => rfl) l

theorem im9 (l : List (DD 9)) : (flatL UU 9 l).all immC = true := im_all (fun _ => rfl) l

theorem im33 (l : List (DD 33)) : (flatL UU 33 l).all immC = true := im_all (fun _ => rfl) l

theorem im56 (l : List (DD 56)) : (flatL UU 56 l).all immC = true := im_all (fun _ => rfl) l

theorem im79 (l : List (DD 79)) : (flatL UU 79 l).all immC = true := im_all (fun _ => rfl) l

theorem im103 (l : List (DD 103)) : (flatL UU 103 l).all immC = true := im_all (fun _ => rfl) l

theorem im105 (l : List (DD 105)) : (flatL UU 105 l).all immC = true := im_all (fun _ => rfl) l

theorem im159 (l : List (DD 159)) : (flatL UU 159 l).all immC = true := im_all (fun _ => rfl) l

theorem im161 (l : List (DD 161)) : (flatL UU 161 l).all immC = true := im_all (fun _ => rfl) l

theorem im163 (l : List (DD 163)) : (flatL UU 163 l).all immC = true := im_all (fun _ => rfl) l

theorem im174 (l : List (DD 174)) : (flatL UU 174 l).all immC = true := im_all (fun _ => rfl) l

theorem im178 (l : List (DD 178)) : (flatL UU 178 l).all immC = true := im_all (fun _ => rfl) l

theorem im214 (l : List (DD 214)) : (flatL UU 214 l).all immC = true := im_all (fun _ => rfl) l

theorem im242 (l : List (DD 242)) : (flatL UU 242 l).all immC = true := im_all (fun _ => rfl) l

theorem im270 (l : List (DD 270)) : (flatL UU 270 l).all immC = true := im_all (fun _ => rfl) l

theorem im272 (l : List (DD 272)) : (flatL UU 272 l).all immC = true := im_all (fun _ => rfl) l

theorem ob3 {l : List (Int)} {i : Int} {v : Int} (h : nth l i = some v) : 0 ≤ i ∧ ∃ x : DD 3, (show List (DD 3) from l)[i.toNat]? = some x ∧ UU.cells 3 x = c3 v := ⟨(nth_out h).1, v, (nth_out h).2, rfl⟩
theorem obn3 {l : List (Int)} {i : Nat} {v : Int} (h : l[i]? = some v) : ∃ x : DD 3, (show List (DD 3) from l)[i]? = some x ∧ UU.cells 3 x = c3 v := ⟨v, h, rfl⟩

theorem ob4 {l : List (Bool)} {i : Int} {v : Bool} (h : nth l i = some v) : 0 ≤ i ∧ ∃ x : DD 4, (show List (DD 4) from l)[i.toNat]? = some x ∧ UU.cells 4 x = c4 v := ⟨(nth_out h).1, v, (nth_out h).2, rfl⟩
theorem obn4 {l : List (Bool)} {i : Nat} {v : Bool} (h : l[i]? = some v) : ∃ x : DD 4, (show List (DD 4) from l)[i]? = some x ∧ UU.cells 4 x = c4 v := ⟨v, h, rfl⟩

theorem ob5 {l : List (Int)} {i : Int} {v : Int} (h : nth l i = some v) : 0 ≤ i ∧ ∃ x : DD 5, (show List (DD 5) from l)[i.toNat]? = some x ∧ UU.cells 5 x = c5 v := ⟨(nth_out h).1, v, (nth_out h).2, rfl⟩
theorem obn5 {l : List (Int)} {i : Nat} {v : Int} (h : l[i]? = some v) : ∃ x : DD 5, (show List (DD 5) from l)[i]? = some x ∧ UU.cells 5 x = c5 v := ⟨v, h, rfl⟩

theorem ob9 {l : List (ByteArray)} {i : Int} {v : ByteArray} (h : nth l i = some v) : 0 ≤ i ∧ ∃ x : DD 9, (show List (DD 9) from l)[i.toNat]? = some x ∧ UU.cells 9 x = c9 v := ⟨(nth_out h).1, v, (nth_out h).2, rfl⟩
theorem obn9 {l : List (ByteArray)} {i : Nat} {v : ByteArray} (h : l[i]? = some v) : ∃ x : DD 9, (show List (DD 9) from l)[i]? = some x ∧ UU.cells 9 x = c9 v := ⟨v, h, rfl⟩

theorem ob31 {l : List (Api_Net)} {i : Int} {v : Api_Net} (h : nth l i = some v) : 0 ≤ i ∧ ∃ x : DD 31, (show List (DD 31) from l)[i.toNat]? = some x ∧ UU.cells 31 x = c31 v := ⟨(nth_out h).1, v, (nth_out h).2, rfl⟩
theorem obn31 {l : List (Api_Net)} {i : Nat} {v : Api_Net} (h : l[i]? = some v) : ∃ x : DD 31, (show List (DD 31) from l)[i]? = some x ∧ UU.cells 31 x = c31 v := ⟨v, h, rfl⟩

theorem ob33 {l : List (Int)} {i : Int} {v : Int} (h : nth l i = some v) : 0 ≤ i ∧ ∃ x : DD 33, (show List (DD 33) from l)[i.toNat]? = some x ∧ UU.cells 33 x = c33 v := ⟨(nth_out h).1, v, (nth_out h).2, rfl⟩
theorem obn33 {l : List (Int)} {i : Nat} {v : Int} (h : l[i]? = some v) : ∃ x : DD 33, (show List (DD 33) from l)[i]? = some x ∧ UU.cells 33 x = c33 v := ⟨v, h, rfl⟩

theorem ob34 {l : List (List Int)} {i : Int} {v : List Int} (h : nth l i = some v) : 0 ≤ i ∧ ∃ x : DD 34, (show List (DD 34) from l)[i.toNat]? = some x ∧ UU.cells 34 x = c34 v := ⟨(nth_out h).1, v, (nth_out h).2, rfl⟩
theorem obn34 {l : List (List Int)} {i : Nat} {v : List Int} (h : l[i]? = some v) : ∃ x : DD 34, (show List (DD 34) from l)[i]? = some x ∧ UU.cells 34 x = c34 v := ⟨v, h, rfl⟩

theorem ob56 {l : List (Api_Device)} {i : Int} {v : Api_Device} (h : nth l i = some v) : 0 ≤ i ∧ ∃ x : DD 56, (show List (DD 56) from l)[i.toNat]? = some x ∧ UU.cells 56 x = c56 v := ⟨(nth_out h).1, v, (nth_out h).2, rfl⟩
theorem obn56 {l : List (Api_Device)} {i : Nat} {v : Api_Device} (h : l[i]? = some v) : ∃ x : DD 56, (show List (DD 56) from l)[i]? = some x ∧ UU.cells 56 x = c56 v := ⟨v, h, rfl⟩

theorem ob57 {l : List (List (List Matrix_Cell))} {i : Int} {v : List (List Matrix_Cell)} (h : nth l i = some v) : 0 ≤ i ∧ ∃ x : DD 57, (show List (DD 57) from l)[i.toNat]? = some x ∧ UU.cells 57 x = c57 v := ⟨(nth_out h).1, v, (nth_out h).2, rfl⟩
theorem obn57 {l : List (List (List Matrix_Cell))} {i : Nat} {v : List (List Matrix_Cell)} (h : l[i]? = some v) : ∃ x : DD 57, (show List (DD 57) from l)[i]? = some x ∧ UU.cells 57 x = c57 v := ⟨v, h, rfl⟩

theorem ob70 {l : List (List Matrix_Cell)} {i : Int} {v : List Matrix_Cell} (h : nth l i = some v) : 0 ≤ i ∧ ∃ x : DD 70, (show List (DD 70) from l)[i.toNat]? = some x ∧ UU.cells 70 x = c70 v := ⟨(nth_out h).1, v, (nth_out h).2, rfl⟩
theorem obn70 {l : List (List Matrix_Cell)} {i : Nat} {v : List Matrix_Cell} (h : l[i]? = some v) : ∃ x : DD 70, (show List (DD 70) from l)[i]? = some x ∧ UU.cells 70 x = c70 v := ⟨v, h, rfl⟩

theorem ob79 {l : List (Matrix_Cell)} {i : Int} {v : Matrix_Cell} (h : nth l i = some v) : 0 ≤ i ∧ ∃ x : DD 79, (show List (DD 79) from l)[i.toNat]? = some x ∧ UU.cells 79 x = c79 v := ⟨(nth_out h).1, v, (nth_out h).2, rfl⟩
theorem obn79 {l : List (Matrix_Cell)} {i : Nat} {v : Matrix_Cell} (h : l[i]? = some v) : ∃ x : DD 79, (show List (DD 79) from l)[i]? = some x ∧ UU.cells 79 x = c79 v := ⟨v, h, rfl⟩

theorem ob88 {l : List (Api_Vrf)} {i : Int} {v : Api_Vrf} (h : nth l i = some v) : 0 ≤ i ∧ ∃ x : DD 88, (show List (DD 88) from l)[i.toNat]? = some x ∧ UU.cells 88 x = c88 v := ⟨(nth_out h).1, v, (nth_out h).2, rfl⟩
theorem obn88 {l : List (Api_Vrf)} {i : Nat} {v : Api_Vrf} (h : l[i]? = some v) : ∃ x : DD 88, (show List (DD 88) from l)[i]? = some x ∧ UU.cells 88 x = c88 v := ⟨v, h, rfl⟩

theorem ob90 {l : List (Api_Domain)} {i : Int} {v : Api_Domain} (h : nth l i = some v) : 0 ≤ i ∧ ∃ x : DD 90, (show List (DD 90) from l)[i.toNat]? = some x ∧ UU.cells 90 x = c90 v := ⟨(nth_out h).1, v, (nth_out h).2, rfl⟩
theorem obn90 {l : List (Api_Domain)} {i : Nat} {v : Api_Domain} (h : l[i]? = some v) : ∃ x : DD 90, (show List (DD 90) from l)[i]? = some x ∧ UU.cells 90 x = c90 v := ⟨v, h, rfl⟩

theorem ob103 {l : List (Api_Prefix)} {i : Int} {v : Api_Prefix} (h : nth l i = some v) : 0 ≤ i ∧ ∃ x : DD 103, (show List (DD 103) from l)[i.toNat]? = some x ∧ UU.cells 103 x = c103 v := ⟨(nth_out h).1, v, (nth_out h).2, rfl⟩
theorem obn103 {l : List (Api_Prefix)} {i : Nat} {v : Api_Prefix} (h : l[i]? = some v) : ∃ x : DD 103, (show List (DD 103) from l)[i]? = some x ∧ UU.cells 103 x = c103 v := ⟨v, h, rfl⟩

theorem ob105 {l : List (Api_Irb)} {i : Int} {v : Api_Irb} (h : nth l i = some v) : 0 ≤ i ∧ ∃ x : DD 105, (show List (DD 105) from l)[i.toNat]? = some x ∧ UU.cells 105 x = c105 v := ⟨(nth_out h).1, v, (nth_out h).2, rfl⟩
theorem obn105 {l : List (Api_Irb)} {i : Nat} {v : Api_Irb} (h : l[i]? = some v) : ∃ x : DD 105, (show List (DD 105) from l)[i]? = some x ∧ UU.cells 105 x = c105 v := ⟨v, h, rfl⟩

theorem ob110 {l : List (Api_Port)} {i : Int} {v : Api_Port} (h : nth l i = some v) : 0 ≤ i ∧ ∃ x : DD 110, (show List (DD 110) from l)[i.toNat]? = some x ∧ UU.cells 110 x = c110 v := ⟨(nth_out h).1, v, (nth_out h).2, rfl⟩
theorem obn110 {l : List (Api_Port)} {i : Nat} {v : Api_Port} (h : l[i]? = some v) : ∃ x : DD 110, (show List (DD 110) from l)[i]? = some x ∧ UU.cells 110 x = c110 v := ⟨v, h, rfl⟩

theorem ob113 {l : List (Api_Flood)} {i : Int} {v : Api_Flood} (h : nth l i = some v) : 0 ≤ i ∧ ∃ x : DD 113, (show List (DD 113) from l)[i.toNat]? = some x ∧ UU.cells 113 x = c113 v := ⟨(nth_out h).1, v, (nth_out h).2, rfl⟩
theorem obn113 {l : List (Api_Flood)} {i : Nat} {v : Api_Flood} (h : l[i]? = some v) : ∃ x : DD 113, (show List (DD 113) from l)[i]? = some x ∧ UU.cells 113 x = c113 v := ⟨v, h, rfl⟩

theorem ob159 {l : List (Witness_state)} {i : Int} {v : Witness_state} (h : nth l i = some v) : 0 ≤ i ∧ ∃ x : DD 159, (show List (DD 159) from l)[i.toNat]? = some x ∧ UU.cells 159 x = c159 v := ⟨(nth_out h).1, v, (nth_out h).2, rfl⟩
theorem obn159 {l : List (Witness_state)} {i : Nat} {v : Witness_state} (h : l[i]? = some v) : ∃ x : DD 159, (show List (DD 159) from l)[i]? = some x ∧ UU.cells 159 x = c159 v := ⟨v, h, rfl⟩

theorem ob161 {l : List (Reach_Hop)} {i : Int} {v : Reach_Hop} (h : nth l i = some v) : 0 ≤ i ∧ ∃ x : DD 161, (show List (DD 161) from l)[i.toNat]? = some x ∧ UU.cells 161 x = c161 v := ⟨(nth_out h).1, v, (nth_out h).2, rfl⟩
theorem obn161 {l : List (Reach_Hop)} {i : Nat} {v : Reach_Hop} (h : l[i]? = some v) : ∃ x : DD 161, (show List (DD 161) from l)[i]? = some x ∧ UU.cells 161 x = c161 v := ⟨v, h, rfl⟩

theorem ob163 {l : List (Witness_found)} {i : Int} {v : Witness_found} (h : nth l i = some v) : 0 ≤ i ∧ ∃ x : DD 163, (show List (DD 163) from l)[i.toNat]? = some x ∧ UU.cells 163 x = c163 v := ⟨(nth_out h).1, v, (nth_out h).2, rfl⟩
theorem obn163 {l : List (Witness_found)} {i : Nat} {v : Witness_found} (h : l[i]? = some v) : ∃ x : DD 163, (show List (DD 163) from l)[i]? = some x ∧ UU.cells 163 x = c163 v := ⟨v, h, rfl⟩

theorem ob174 {l : List (Api_Link)} {i : Int} {v : Api_Link} (h : nth l i = some v) : 0 ≤ i ∧ ∃ x : DD 174, (show List (DD 174) from l)[i.toNat]? = some x ∧ UU.cells 174 x = c174 v := ⟨(nth_out h).1, v, (nth_out h).2, rfl⟩
theorem obn174 {l : List (Api_Link)} {i : Nat} {v : Api_Link} (h : l[i]? = some v) : ∃ x : DD 174, (show List (DD 174) from l)[i]? = some x ∧ UU.cells 174 x = c174 v := ⟨v, h, rfl⟩

theorem ob178 {l : List (Api_Static)} {i : Int} {v : Api_Static} (h : nth l i = some v) : 0 ≤ i ∧ ∃ x : DD 178, (show List (DD 178) from l)[i.toNat]? = some x ∧ UU.cells 178 x = c178 v := ⟨(nth_out h).1, v, (nth_out h).2, rfl⟩
theorem obn178 {l : List (Api_Static)} {i : Nat} {v : Api_Static} (h : l[i]? = some v) : ∃ x : DD 178, (show List (DD 178) from l)[i]? = some x ∧ UU.cells 178 x = c178 v := ⟨v, h, rfl⟩

theorem ob190 {l : List (Names_judge)} {i : Int} {v : Names_judge} (h : nth l i = some v) : 0 ≤ i ∧ ∃ x : DD 190, (show List (DD 190) from l)[i.toNat]? = some x ∧ UU.cells 190 x = c190 v := ⟨(nth_out h).1, v, (nth_out h).2, rfl⟩
theorem obn190 {l : List (Names_judge)} {i : Nat} {v : Names_judge} (h : l[i]? = some v) : ∃ x : DD 190, (show List (DD 190) from l)[i]? = some x ∧ UU.cells 190 x = c190 v := ⟨v, h, rfl⟩

theorem ob214 {l : List (Labels_Label)} {i : Int} {v : Labels_Label} (h : nth l i = some v) : 0 ≤ i ∧ ∃ x : DD 214, (show List (DD 214) from l)[i.toNat]? = some x ∧ UU.cells 214 x = c214 v := ⟨(nth_out h).1, v, (nth_out h).2, rfl⟩
theorem obn214 {l : List (Labels_Label)} {i : Nat} {v : Labels_Label} (h : l[i]? = some v) : ∃ x : DD 214, (show List (DD 214) from l)[i]? = some x ∧ UU.cells 214 x = c214 v := ⟨v, h, rfl⟩

theorem ob229 {l : List (Labels_spread)} {i : Int} {v : Labels_spread} (h : nth l i = some v) : 0 ≤ i ∧ ∃ x : DD 229, (show List (DD 229) from l)[i.toNat]? = some x ∧ UU.cells 229 x = c229 v := ⟨(nth_out h).1, v, (nth_out h).2, rfl⟩
theorem obn229 {l : List (Labels_spread)} {i : Nat} {v : Labels_spread} (h : l[i]? = some v) : ∃ x : DD 229, (show List (DD 229) from l)[i]? = some x ∧ UU.cells 229 x = c229 v := ⟨v, h, rfl⟩

theorem ob242 {l : List (Choose_Lead)} {i : Int} {v : Choose_Lead} (h : nth l i = some v) : 0 ≤ i ∧ ∃ x : DD 242, (show List (DD 242) from l)[i.toNat]? = some x ∧ UU.cells 242 x = c242 v := ⟨(nth_out h).1, v, (nth_out h).2, rfl⟩
theorem obn242 {l : List (Choose_Lead)} {i : Nat} {v : Choose_Lead} (h : l[i]? = some v) : ∃ x : DD 242, (show List (DD 242) from l)[i]? = some x ∧ UU.cells 242 x = c242 v := ⟨v, h, rfl⟩

theorem ob270 {l : List (Labels_task)} {i : Int} {v : Labels_task} (h : nth l i = some v) : 0 ≤ i ∧ ∃ x : DD 270, (show List (DD 270) from l)[i.toNat]? = some x ∧ UU.cells 270 x = c270 v := ⟨(nth_out h).1, v, (nth_out h).2, rfl⟩
theorem obn270 {l : List (Labels_task)} {i : Nat} {v : Labels_task} (h : l[i]? = some v) : ∃ x : DD 270, (show List (DD 270) from l)[i]? = some x ∧ UU.cells 270 x = c270 v := ⟨v, h, rfl⟩

theorem ob272 {l : List (Labels_queued)} {i : Int} {v : Labels_queued} (h : nth l i = some v) : 0 ≤ i ∧ ∃ x : DD 272, (show List (DD 272) from l)[i.toNat]? = some x ∧ UU.cells 272 x = c272 v := ⟨(nth_out h).1, v, (nth_out h).2, rfl⟩
theorem obn272 {l : List (Labels_queued)} {i : Nat} {v : Labels_queued} (h : l[i]? = some v) : ∃ x : DD 272, (show List (DD 272) from l)[i]? = some x ∧ UU.cells 272 x = c272 v := ⟨v, h, rfl⟩

theorem flb5 (bs : List UInt8) : flatL UU 5 (show List (DD 5) from bs.map fun b => (b.toNat : Int)) = (bs.map fun b => Value.int .u8 b.toNat).map (AV.v (D := DD)) := by
  induction bs with
  | nil => rfl
  | cons x r ih => exact congrArg (List.cons _) ih
theorem aps5 {n : Nat} {l : List Int} (s : ByteArray) (h : roomy 1 (l ++ bts s) = true) : n = n ∧ List.length (l ++ bts s) = List.length l + s.size ∧ (List.length l + s.size) * 1 ≤ 140737488355328 ∧ List.length l + s.size < 9223372036854775808 ∧ ∃ xs : List (DD 5), (AObj.arr 5 (show List (DD 5) from (l ++ bts s)) (List.length (l ++ bts s)) false : AObj DD) = .arr 5 ((show List (DD 5) from l) ++ xs) (List.length (l ++ bts s)) false ∧ flatL UU 5 xs = (byteCells s).map (AV.v (D := DD)) := by
  have h := of_decide_eq_true h
  have e := bts_length s
  rw [List.length_append] at h
  exact ⟨rfl, by rw [List.length_append, e], by rw [← e]; exact h.1, by rw [← e]; exact h.2, bts s, rfl, flb5 s.data.toList⟩
theorem apz5 (s : ByteArray) (h0 : decide (0 < s.size) = true) (h : roomy 1 (bts s) = true) : 0 < s.size ∧ s.size * 1 ≤ 140737488355328 ∧ s.size < 9223372036854775808 ∧ List.length (bts s) = s.size ∧ List.length (bts s) = s.size ∧ flatL UU 5 (show List (DD 5) from bts s) = (byteCells s).map (AV.v (D := DD)) := by
  have h := of_decide_eq_true h
  have e := bts_length s
  exact ⟨of_decide_eq_true h0, by rw [← e]; exact h.1, by rw [← e]; exact h.2, e, e, flb5 s.data.toList⟩
theorem ust5 {n : Nat} {l : List Int} (h0 : decide (0 < List.length l) = true) (h : bytok l = true) : n = n ∧ ((List.length l : Nat) : Int) = ((List.length l : Nat) : Int) ∧ 0 < List.length l ∧ List.length l ≤ 9223372036854775807 ∧ ∃ bs : List UInt8, flatL UU 5 (show List (DD 5) from l) = bs.map (fun x => (AV.v (.int .u8 x.toNat) : AV DD)) ∧ bstr l = ⟨bs.toArray⟩ := by
  have e := bytok_map h
  refine ⟨rfl, rfl, of_decide_eq_true h0, of_decide_eq_true (Bool.and_eq_true_iff.1 h).1, l.map fun n => UInt8.ofNat n.toNat, ?_, rfl⟩
  have e2 : flatL UU 5 (show List (DD 5) from l) = (l.map fun n => Value.int .u8 n).map (AV.v (D := DD)) := by
    clear h0 h e
    induction l with
    | nil => rfl
    | cons x r ih => exact congrArg (List.cons _) ih
  rw [e2, e, List.map_map]
  rfl

theorem cvb5 (l : List Int) : ∃ ns : List Int, flatL UU 5 (show List (DD 5) from l) = ns.map (fun n => (.v (.int .u8 n) : AV DD)) ∧ bstr l = ⟨(ns.map fun n => UInt8.ofNat n.toNat).toArray⟩ := ⟨l, by
  induction l with
  | nil => rfl
  | cons x l ih => exact congrArg (List.cons _) ih, rfl⟩

theorem app_pt (e : Nat) {n b : Nat} {l xs : List (DD e)} (h : ptok l.length b xs.length = true) : n = n ∧ n = n ∧ 0 < l.length ∧ b + xs.length ≤ l.length ∧ (([] : List Nat) = [] ∨ b + xs.length = l.length) ∧ ∃ xs', (AObj.arr e (l.take b ++ (xs ++ l.drop (b + xs.length))) n false) = .arr e (l.take b ++ (xs' ++ l.drop (b + xs.length))) n false ∧ flatL UU e xs' = flatL UU e xs := by
  have h := of_decide_eq_true h
  exact ⟨rfl, rfl, h.1, h.2, .inl rfl, xs, rfl, rfl⟩
theorem apw_ob (e : Nat) {n b : Nat} {l xs : List (DD e)} (h : ptwok l.length b xs.length = true) : n = n ∧ n = n ∧ 0 < l.length ∧ b + xs.length ≤ l.length ∧ (([0] : List Nat) = [] ∨ b + xs.length = l.length) ∧ ∃ xs', (AObj.arr e (l.take b ++ (xs ++ l.drop (b + xs.length))) n false) = .arr e (l.take b ++ (xs' ++ l.drop (b + xs.length))) n false ∧ flatL UU e xs' = flatL UU e xs := by
  have h := of_decide_eq_true h
  exact ⟨rfl, rfl, h.1, Nat.le_of_eq h.2, .inr h.2, xs, rfl, rfl⟩

theorem cp_ob {n e : Nat} {l l2 : List (DD e)} {a b : Nat} : n = n ∧ ∃ xs : List (DD e), (AObj.arr e (l.take a ++ (l2.take (min l2.length (b - a)) ++ l.drop (a + min l2.length (b - a)))) n false) = .arr e (l.take a ++ (xs ++ l.drop (a + min l2.length (b - a)))) n false ∧ flatL UU e xs = flatL UU e (l2.take (min l2.length (b - a))) := ⟨rfl, _, rfl, rfl⟩
theorem cl_ob {n e : Nat} {l : List (DD e)} {a b : Nat} (y : DD e) : n = n ∧ ∃ y', (AObj.arr e (l.take a ++ (List.replicate (b - a) y ++ l.drop b)) n false) = .arr e (l.take a ++ (List.replicate (b - a) y' ++ l.drop b)) n false ∧ UU.cells e y' = UU.cells e y := ⟨rfl, y, rfl, rfl⟩
theorem rep_ob {α : Type} {l : List α} {i : Nat} {v : α} (h : l[i]? = some v) : (List.replicate l.length false)[i]? = some false := by
  have := (List.getElem?_eq_some_iff.1 h).1
  simp [List.getElem?_replicate, this]
theorem gcl_ob {n e : Nat} {l : List (DD e)} {pm : List Bool} {i : Nat} (y : DD e) (r : List (AV DD)) (hr : UU.cells e y = r) : ∃ y', (AObj.dp e (l.set i y) (pm.set i false) none n) = .dp e (l.set i y') (pm.set i false) none n ∧ UU.cells e y' = r := ⟨y, rfl, hr⟩
theorem gclt_ob {n e : Nat} {l : List (DD e)} {pm : List Bool} {i : Nat} (y : DD e) (r : List (AV DD)) (hr : UU.cells e y = r) : ∃ y', (AObj.dp e (l.set i y) (pm.set i true) none n) = .dp e (l.set i y') (pm.set i true) none n ∧ UU.cells e y' = r := ⟨y, rfl, hr⟩
theorem st_ob {n e : Nat} {l : List (DD e)} {i : Nat} {A : Prop} (y : DD e) (r : List (AV DD)) (h : A) (hr : UU.cells e y = r) : n = n ∧ A ∧ ∃ y', (AObj.arr e (l.set i y) n false) = .arr e (l.set i y') n false ∧ UU.cells e y' = r := ⟨rfl, h, y, rfl, hr⟩
theorem bs_ob (e : Nat) (l : List (DD e)) : flatL UU e l = flatL UU e l ∧ l.length = l.length ∧ l.length = l.length := ⟨rfl, rfl, rfl⟩
theorem mk_ob {n m : Int} {b : Nat} (e : Nat) (z : DD e) (h : mkok b n m = true) : 0 ≤ n ∧ n ≤ m ∧ m * b ≤ 140737488355328 ∧ m < 9223372036854775808 ∧ ∃ y : DD e, List.replicate n.toNat z = List.replicate n.toNat y ∧ UU.cells e y = UU.cells e z := by
  have h := of_decide_eq_true h
  exact ⟨h.1, h.2.1, h.2.2.1, h.2.2.2, z, rfl, rfl⟩
theorem app_ob (e : Nat) {n b : Nat} {l xs : List (DD e)} (h : roomy b (l ++ xs) = true) : n = n ∧ (l ++ xs).length = (l ++ xs).length ∧ (l.length + xs.length) * b ≤ 140737488355328 ∧ l.length + xs.length < 9223372036854775808 ∧ ∃ xs', (AObj.arr e (l ++ xs) (l ++ xs).length false) = .arr e (l ++ xs') (l ++ xs).length false ∧ flatL UU e xs' = flatL UU e xs := by
  have h := of_decide_eq_true h
  rw [List.length_append] at h
  exact ⟨rfl, rfl, h.1, h.2, xs, rfl, rfl⟩
theorem apd_ob (e : Nat) {b : Nat} {l : List (DD e)} (h : roomy b l = true) : l.length * b ≤ 140737488355328 ∧ l.length < 9223372036854775808 ∧ l.length = l.length ∧ flatL UU e l = flatL UU e l := by
  have h := of_decide_eq_true h
  exact ⟨h.1, h.2, rfl, rfl⟩
theorem apn_ob (e : Nat) {b : Nat} {l : List (DD e)} (h : roomy b l = true) : l.length * b ≤ 140737488355328 ∧ l.length < 9223372036854775808 ∧ l.length = l.length ∧ flatL UU e l = flatL UU e l ∧ l.length = l.length := by
  have h := of_decide_eq_true h
  exact ⟨h.1, h.2, rfl, rfl, rfl⟩

def joinRen : Go.Shelf.Ren := ⟨fun | 156 => 237 | 165 => 260 | 166 => 83 | 169 => 86 | 240 => 167 | 241 => 271 | 276 => 210 | 277 => 281 | n => n, fun | 31 => 53 | 9 => 9 | 3 => 3 | 4 => 4 | 0 => 0 | 20 => 20 | 72 => 134 | 76 => 139 | 70 => 131 | 37 => 132 | 75 => 138 | 127 => 232 | 164 => 274 | 5 => 5 | 80 => 143 | n => n, fun n => n⟩
theorem joinLays : Lays.n156 Tryz.prog joinRen where
  mixed := by kernel_rfl
  f156 := Tryz.func237.trans (congrArg some (by kernel_rfl))
  f165 := Tryz.func260.trans (congrArg some (by kernel_rfl))
  f166 := Tryz.func83.trans (congrArg some (by kernel_rfl))
  f169 := Tryz.func86.trans (congrArg some (by kernel_rfl))
  f240 := Tryz.func167.trans (congrArg some (by kernel_rfl))
  f241 := Tryz.func271.trans (congrArg some (by kernel_rfl))
  f276 := Tryz.func210.trans (congrArg some (by kernel_rfl))
  f277 := Tryz.func281.trans (congrArg some (by kernel_rfl))
  t0 := Tryz.underlying0
  a0 := Tryz.isAgg0
  z0 := Tryz.sizeOf0
  v0 := Tryz.zeroValue0
  t3 := Tryz.underlying3
  a3 := Tryz.isAgg3
  z3 := Tryz.sizeOf3
  v3 := Tryz.zeroValue3
  t4 := Tryz.underlying4
  a4 := Tryz.isAgg4
  z4 := Tryz.sizeOf4
  v4 := Tryz.zeroValue4
  t9 := Tryz.underlying9
  a9 := Tryz.isAgg9
  z9 := Tryz.sizeOf9
  v9 := Tryz.zeroValue9
  t20 := Tryz.underlying20
  a20 := Tryz.isAgg20
  z20 := Tryz.sizeOf20
  v20 := Tryz.zeroValue20
  t31 := Tryz.underlying53
  a31 := Tryz.isAgg53
  z31 := Tryz.sizeOf53
  v31 := Tryz.zeroValue53
  t37 := Tryz.underlying132
  a37 := Tryz.isAgg132
  z37 := Tryz.sizeOf132
  v37 := Tryz.zeroValue132
  t70 := Tryz.underlying131
  a70 := Tryz.isAgg131
  z70 := Tryz.sizeOf131
  v70 := Tryz.zeroValue131
  t72 := Tryz.underlying134
  a72 := Tryz.isAgg134
  z72 := Tryz.sizeOf134
  v72 := Tryz.zeroValue134
  t75 := Tryz.underlying138
  a75 := Tryz.isAgg138
  z75 := Tryz.sizeOf138
  v75 := Tryz.zeroValue138
  t76 := Tryz.underlying139
  a76 := Tryz.isAgg139
  z76 := Tryz.sizeOf139
  v76 := Tryz.zeroValue139
  t127 := Tryz.underlying232
  a127 := Tryz.isAgg232
  z127 := Tryz.sizeOf232
  v127 := Tryz.zeroValue232
  t164 := Tryz.underlying274
  a164 := Tryz.isAgg274
  z164 := Tryz.sizeOf274
  v164 := Tryz.zeroValue274
theorem joinExtra : Builder.Extra Tryz.prog joinRen where
  sizeBuilder := by kernel_rfl
  liesBuilder := by kernel_rfl
  t5 := Tryz.underlying5
  a5 := Tryz.isAgg5
  z5 := Tryz.sizeOf5
  v5 := Tryz.zeroValue5
  infoByte := by kernel_rfl
  cellsByte := by kernel_rfl
  sizeByte := by kernel_rfl
  neB5 := by decide
theorem mixedOrders : Tryz.prog.follows .mixedOrders = true := by kernel_rfl
@[reducible] def AV.z : AV DD := .v (.int .i64 0)
@[reducible] def AV.e : AV DD := .v (.string (⟨#[]⟩ : ByteArray))
@[reducible] def AObj.n (t : Nat) : AObj DD := .arr t [] 0 false
theorem rl {k N : Nat} {c : Code} {fr fr' : Fr DD} {hp h' : Heap DD} {ps : List Prop} {ex : Ex} (live ids : List Nat) (π : List (Ans DD)) (hps : AllP ps) (hx : runLp Tryz.prog UU k N c fr hp live ids π = some (ps, ex, fr', h') := by kernel_rfl) : ExecOK Tryz.prog UU k N c fr hp ex fr' h' := runLp_sound mixedOrders hx hps
theorem rf {f : FuncId} {fn : Func} {args : List (AV DD)} {h h' : Heap DD} {ps : List Prop} {r : AV DD} (hfn : Tryz.prog.funcs[f]? = some fn) (keep : Option (List Nat)) (π : List (Ans DD)) (hps : AllP ps) (hname : (fn.name == "runtime.NumGoroutine") = false := by rfl) (hrun : runFn Tryz.prog UU fn args h keep π = some (ps, r, h') := by kernel_rfl) : CallsOK Tryz.prog UU f args h r h' := runFn_sound mixedOrders hfn hname hrun hps
theorem rn (n : Nat) : n = n := rfl
theorem an (n : Nat) {p : Prop} (h : p) : n = n ∧ p := ⟨rfl, h⟩
@[reducible] def AV.j (n : Int) : AV DD := .v (.int .i64 n)
theorem oi {α : Type} {a b : α} (h : some a = some b) : a = b := by injection h
theorem rr (x : AV DD) : x = x := rfl
theorem rh (x : Heap DD) : x = x := rfl
theorem ro (x : AObj DD) : x = x := rfl
theorem rl2 (x : List (AV DD)) : x = x := rfl
theorem pd {p : Prop} {ps : List Prop} (h : p) (hs : AllP ps) : AllP (p :: p :: ps) := pc h (pc h hs)
@[reducible] def AObj.w {D : Den} (t : Nat) (l : List (D t)) : AObj D := .arr t l l.length false
@[reducible] def AObj.wt {D : Den} (t : Nat) (l : List (D t)) : AObj D := .arr t l l.length true
@[reducible] def AV.x (s : ByteArray) : AV DD := .v (.string s)
@[reducible] def AV.y (b : Bool) : AV DD := .v (.bool b)
@[reducible] def AV.o (k : Nat) : AV DD := .op k 1 0 0
@[reducible] def Ans.t : Ans DD := .dec true
@[reducible] def Ans.f : Ans DD := .dec false
@[reducible] def Ans.b (x : Bool) : Ans DD := .callv (.v (.bool x))
theorem bo {α β : Type} {o : Option α} {f : α → Option β} {r : β} (h : o.bind f = some r) : ∃ v, o = some v ∧ f v = some r := bind_out h
end Go.Eng
