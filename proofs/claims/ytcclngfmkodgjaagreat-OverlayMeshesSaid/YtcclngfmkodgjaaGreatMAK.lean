/- Part of the proof of OverlayMeshes: printed mirrors of the functions, or their contracts. No conditions. -/
import Derived.Test.YtcclngfmkodgjaaGreatMAM
import Derived.Test.YtcclngfmkodgjaaGreatProg
set_option linter.unusedVariables false
set_option maxRecDepth 100000
namespace Go.Eng
open Go Go.Proofs
def DD : Den := fun t => match t with
  | 3 => Int
  | 9 => ByteArray
  | 31 => Api_Net
  | 33 => Int
  | 37 => Api_Line
  | 56 => Api_Device
  | 88 => Api_Vrf
  | 90 => Api_Domain
  | 103 => Api_Prefix
  | 105 => Api_Irb
  | 110 => Api_Port
  | 113 => Api_Flood
  | 174 => Api_Link
  | 178 => Api_Static
  | 190 => Names_judge
  | _ => Unit

def c3 (x : Int) : List (AV DD) := [.v (.int .i64 x)]

def c9 (x : ByteArray) : List (AV DD) := [.v (.string x)]

def c31 (x : Api_Net) : List (AV DD) := [.sl 56 x.devices, .sl 110 x.ports, .sl 174 x.links, .sl 90 x.domains, .sl 178 x.statics, .sl 113 x.floods, .sl 88 x.vrfs, .sl 105 x.irbs]

def c33 (x : Int) : List (AV DD) := [.v (.int .u32 x)]

def c37 (x : Api_Line) : List (AV DD) := [.v (.int .i64 x.row), .v (.int .i64 x.kind), .v (.string x.dev), .v (.string x.port), .v (.string x.peer), .v (.string x.far), .v (.string x.name), .v (.int .u64 x.mac), .v (.int .u32 x.addr), .v (.int .i64 x.bits), .v (.int .i64 x.vlan), .v (.int .i64 x.num), .v (.int .i64 x.cost), .sl 3 x.tagged, .sl 3 x.imports, .sl 3 x.exports, .sl 33 x.addrs]

def c56 (x : Api_Device) : List (AV DD) := [.v (.int .i64 x.row), .v (.int .i64 x.priority), .v (.string x.name), .v (.int .u64 x.mac), .v (.int .u32 x.vtep)]

def c88 (x : Api_Vrf) : List (AV DD) := [.v (.int .i64 x.row), .v (.int .i64 x.dev), .v (.string x.name), .sl 3 x.imports, .sl 3 x.exports]

def c90 (x : Api_Domain) : List (AV DD) := [.v (.int .i64 x.dev), .v (.int .i64 x.vlan), .v (.int .i64 x.vni), .v (.int .i64 x.irb), .v (.int .i64 x.row), .sl 3 x.peers]

def c103 (x : Api_Prefix) : List (AV DD) := [.v (.int .u32 x.addr), .v (.int .i64 x.bits)]

def c105 (x : Api_Irb) : List (AV DD) := [.v (.int .i64 x.row), .v (.int .i64 x.domain), .v (.int .i64 x.vrf), .v (.int .u32 x.net.addr), .v (.int .i64 x.net.bits)]

def c110 (x : Api_Port) : List (AV DD) := [.v (.int .i64 x.row), .v (.int .i64 x.dev), .v (.int .i64 x.native), .v (.int .i64 x.cost), .v (.int .i64 x.link), .v (.string x.name), .sl 3 x.tagged]

def c113 (x : Api_Flood) : List (AV DD) := [.v (.int .i64 x.row), .v (.int .i64 x.dev), .v (.int .i64 x.vni), .sl 33 x.addrs]

def c174 (x : Api_Link) : List (AV DD) := [.v (.int .i64 x.row), .v (.int .i64 x.a), .v (.int .i64 x.b)]

def c178 (x : Api_Static) : List (AV DD) := [.v (.int .i64 x.row), .v (.int .i64 x.domain), .v (.int .i64 x.port), .v (.int .u64 x.mac)]

def c190 (x : Names_judge) : List (AV DD) := [.sl 56 x.n.devices, .sl 110 x.n.ports, .sl 174 x.n.links, .sl 90 x.n.domains, .sl 178 x.n.statics, .sl 113 x.n.floods, .sl 88 x.n.vrfs, .sl 105 x.n.irbs]

def cellsD : (t : Nat) → DD t → List (AV DD) := fun t => match t with
  | 3 => fun x => c3 x
  | 9 => fun x => c9 x
  | 31 => fun x => c31 x
  | 33 => fun x => c33 x
  | 37 => fun x => c37 x
  | 56 => fun x => c56 x
  | 88 => fun x => c88 x
  | 90 => fun x => c90 x
  | 103 => fun x => c103 x
  | 105 => fun x => c105 x
  | 110 => fun x => c110 x
  | 113 => fun x => c113 x
  | 174 => fun x => c174 x
  | 178 => fun x => c178 x
  | 190 => fun x => c190 x
  | _ => fun _ => [.v (.bool true)]

def widthD : Nat → Nat := fun t => match t with
  | 3 => 1
  | 9 => 1
  | 31 => 8
  | 33 => 1
  | 37 => 17
  | 56 => 5
  | 88 => 5
  | 90 => 6
  | 103 => 2
  | 105 => 5
  | 110 => 7
  | 113 => 4
  | 174 => 3
  | 178 => 4
  | 190 => 8
  | _ => 1

theorem cellsD_else {t : Nat} (x : DD t) (h : t ≠ 3 ∧ t ≠ 9 ∧ t ≠ 31 ∧ t ≠ 33 ∧ t ≠ 37 ∧ t ≠ 56 ∧ t ≠ 88 ∧ t ≠ 90 ∧ t ≠ 103 ∧ t ≠ 105 ∧ t ≠ 110 ∧ t ≠ 113 ∧ t ≠ 174 ∧ t ≠ 178 ∧ t ≠ 190) : cellsD t x = [.v (.bool true)] ∧ widthD t = 1 := by
  obtain ⟨h3, h9, h31, h33, h37, h56, h88, h90, h103, h105, h110, h113, h174, h178, h190⟩ := h
  unfold cellsD widthD
  constructor
  · split <;> first | (exfalso; omega) | rfl
  · split <;> first | (exfalso; omega) | rfl

def UU : Univ DD where
  width := widthD
  cells := cellsD
  len t x := by
    by_cases h3 : t = 3
    · subst h3; rfl
    by_cases h9 : t = 9
    · subst h9; rfl
    by_cases h31 : t = 31
    · subst h31; rfl
    by_cases h33 : t = 33
    · subst h33; rfl
    by_cases h37 : t = 37
    · subst h37; rfl
    by_cases h56 : t = 56
    · subst h56; rfl
    by_cases h88 : t = 88
    · subst h88; rfl
    by_cases h90 : t = 90
    · subst h90; rfl
    by_cases h103 : t = 103
    · subst h103; rfl
    by_cases h105 : t = 105
    · subst h105; rfl
    by_cases h110 : t = 110
    · subst h110; rfl
    by_cases h113 : t = 113
    · subst h113; rfl
    by_cases h174 : t = 174
    · subst h174; rfl
    by_cases h178 : t = 178
    · subst h178; rfl
    by_cases h190 : t = 190
    · subst h190; rfl
    rw [(cellsD_else x ⟨h3, h9, h31, h33, h37, h56, h88, h90, h103, h105, h110, h113, h174, h178, h190⟩).1, (cellsD_else x ⟨h3, h9, h31, h33, h37, h56, h88, h90, h103, h105, h110, h113, h174, h178, h190⟩).2]; rfl
  pos t := by
    by_cases h3 : t = 3
    · subst h3; exact Nat.le_of_ble_eq_true rfl
    by_cases h9 : t = 9
    · subst h9; exact Nat.le_of_ble_eq_true rfl
    by_cases h31 : t = 31
    · subst h31; exact Nat.le_of_ble_eq_true rfl
    by_cases h33 : t = 33
    · subst h33; exact Nat.le_of_ble_eq_true rfl
    by_cases h37 : t = 37
    · subst h37; exact Nat.le_of_ble_eq_true rfl
    by_cases h56 : t = 56
    · subst h56; exact Nat.le_of_ble_eq_true rfl
    by_cases h88 : t = 88
    · subst h88; exact Nat.le_of_ble_eq_true rfl
    by_cases h90 : t = 90
    · subst h90; exact Nat.le_of_ble_eq_true rfl
    by_cases h103 : t = 103
    · subst h103; exact Nat.le_of_ble_eq_true rfl
    by_cases h105 : t = 105
    · subst h105; exact Nat.le_of_ble_eq_true rfl
    by_cases h110 : t = 110
    · subst h110; exact Nat.le_of_ble_eq_true rfl
    by_cases h113 : t = 113
    · subst h113; exact Nat.le_of_ble_eq_true rfl
    by_cases h174 : t = 174
    · subst h174; exact Nat.le_of_ble_eq_true rfl
    by_cases h178 : t = 178
    · subst h178; exact Nat.le_of_ble_eq_true rfl
    by_cases h190 : t = 190
    · subst h190; exact Nat.le_of_ble_eq_true rfl
    unfold widthD; split <;> omega
  ok t x := by
    by_cases h3 : t = 3
    · subst h3; rfl
    by_cases h9 : t = 9
    · subst h9; rfl
    by_cases h31 : t = 31
    · subst h31; rfl
    by_cases h33 : t = 33
    · subst h33; rfl
    by_cases h37 : t = 37
    · subst h37; rfl
    by_cases h56 : t = 56
    · subst h56; rfl
    by_cases h88 : t = 88
    · subst h88; rfl
    by_cases h90 : t = 90
    · subst h90; rfl
    by_cases h103 : t = 103
    · subst h103; rfl
    by_cases h105 : t = 105
    · subst h105; rfl
    by_cases h110 : t = 110
    · subst h110; rfl
    by_cases h113 : t = 113
    · subst h113; rfl
    by_cases h174 : t = 174
    · subst h174; rfl
    by_cases h178 : t = 178
    · subst h178; rfl
    by_cases h190 : t = 190
    · subst h190; rfl
    rw [(cellsD_else x ⟨h3, h9, h31, h33, h37, h56, h88, h90, h103, h105, h110, h113, h174, h178, h190⟩).1]; rfl

instance : Gl DD := ⟨fun _ => none⟩

theorem im_all {t : Nat} (h : ∀ x : DD t, (UU.cells t x).all immC = true) (l : List (DD t)) : (flatL UU t l).all immC = true := by
  induction l with
  | nil => rfl
  | cons x l ih => simp only [flatL, List.flatMap_cons, List.all_append, Bool.and_eq_true]; exact ⟨h x, ih⟩

theorem im3 (l : List (DD 3)) : (flatL UU 3 l).all immC = true := im_all (fun _ => rfl) l

theorem im9 (l : List (DD 9)) : (flatL UU 9 l).all immC = true := im_all (fun _ => rfl) l

theorem im33 (l : List (DD 33)) : (flatL UU 33 l).all immC = true := im_all (fun _ => rfl) l

theorem im56 (l : List (DD 56)) : (flatL UU 56 l).all immC = true := im_all (fun _ => rfl) l

theorem im103 (l : List (DD 103)) : (flatL UU 103 l).all immC = true := im_all (fun _ => rfl) l

theorem im105 (l : List (DD 105)) : (flatL UU 105 l).all immC = true := im_all (fun _ => rfl) l

theorem im174 (l : List (DD 174)) : (flatL UU 174 l).all immC = true := im_all (fun _ => rfl) l

theorem im178 (l : List (DD 178)) : (flatL UU 178 l).all immC = true := im_all (fun _ => rfl) l

theorem ob3 {l : List (Int)} {i : Int} {v : Int} (h : nth l i = some v) : 0 ≤ i ∧ ∃ x : DD 3, (show List (DD 3) from l)[i.toNat]? = some x ∧ UU.cells 3 x = c3 v := ⟨(nth_out h).1, v, (nth_out h).2, rfl⟩
theorem obn3 {l : List (Int)} {i : Nat} {v : Int} (h : l[i]? = some v) : ∃ x : DD 3, (show List (DD 3) from l)[i]? = some x ∧ UU.cells 3 x = c3 v := ⟨v, h, rfl⟩

theorem ob9 {l : List (ByteArray)} {i : Int} {v : ByteArray} (h : nth l i = some v) : 0 ≤ i ∧ ∃ x : DD 9, (show List (DD 9) from l)[i.toNat]? = some x ∧ UU.cells 9 x = c9 v := ⟨(nth_out h).1, v, (nth_out h).2, rfl⟩
theorem obn9 {l : List (ByteArray)} {i : Nat} {v : ByteArray} (h : l[i]? = some v) : ∃ x : DD 9, (show List (DD 9) from l)[i]? = some x ∧ UU.cells 9 x = c9 v := ⟨v, h, rfl⟩

theorem ob31 {l : List (Api_Net)} {i : Int} {v : Api_Net} (h : nth l i = some v) : 0 ≤ i ∧ ∃ x : DD 31, (show List (DD 31) from l)[i.toNat]? = some x ∧ UU.cells 31 x = c31 v := ⟨(nth_out h).1, v, (nth_out h).2, rfl⟩
theorem obn31 {l : List (Api_Net)} {i : Nat} {v : Api_Net} (h : l[i]? = some v) : ∃ x : DD 31, (show List (DD 31) from l)[i]? = some x ∧ UU.cells 31 x = c31 v := ⟨v, h, rfl⟩

theorem ob33 {l : List (Int)} {i : Int} {v : Int} (h : nth l i = some v) : 0 ≤ i ∧ ∃ x : DD 33, (show List (DD 33) from l)[i.toNat]? = some x ∧ UU.cells 33 x = c33 v := ⟨(nth_out h).1, v, (nth_out h).2, rfl⟩
theorem obn33 {l : List (Int)} {i : Nat} {v : Int} (h : l[i]? = some v) : ∃ x : DD 33, (show List (DD 33) from l)[i]? = some x ∧ UU.cells 33 x = c33 v := ⟨v, h, rfl⟩

theorem ob37 {l : List (Api_Line)} {i : Int} {v : Api_Line} (h : nth l i = some v) : 0 ≤ i ∧ ∃ x : DD 37, (show List (DD 37) from l)[i.toNat]? = some x ∧ UU.cells 37 x = c37 v := ⟨(nth_out h).1, v, (nth_out h).2, rfl⟩
theorem obn37 {l : List (Api_Line)} {i : Nat} {v : Api_Line} (h : l[i]? = some v) : ∃ x : DD 37, (show List (DD 37) from l)[i]? = some x ∧ UU.cells 37 x = c37 v := ⟨v, h, rfl⟩

theorem ob56 {l : List (Api_Device)} {i : Int} {v : Api_Device} (h : nth l i = some v) : 0 ≤ i ∧ ∃ x : DD 56, (show List (DD 56) from l)[i.toNat]? = some x ∧ UU.cells 56 x = c56 v := ⟨(nth_out h).1, v, (nth_out h).2, rfl⟩
theorem obn56 {l : List (Api_Device)} {i : Nat} {v : Api_Device} (h : l[i]? = some v) : ∃ x : DD 56, (show List (DD 56) from l)[i]? = some x ∧ UU.cells 56 x = c56 v := ⟨v, h, rfl⟩

theorem ob88 {l : List (Api_Vrf)} {i : Int} {v : Api_Vrf} (h : nth l i = some v) : 0 ≤ i ∧ ∃ x : DD 88, (show List (DD 88) from l)[i.toNat]? = some x ∧ UU.cells 88 x = c88 v := ⟨(nth_out h).1, v, (nth_out h).2, rfl⟩
theorem obn88 {l : List (Api_Vrf)} {i : Nat} {v : Api_Vrf} (h : l[i]? = some v) : ∃ x : DD 88, (show List (DD 88) from l)[i]? = some x ∧ UU.cells 88 x = c88 v := ⟨v, h, rfl⟩

theorem ob90 {l : List (Api_Domain)} {i : Int} {v : Api_Domain} (h : nth l i = some v) : 0 ≤ i ∧ ∃ x : DD 90, (show List (DD 90) from l)[i.toNat]? = some x ∧ UU.cells 90 x = c90 v := ⟨(nth_out h).1, v, (nth_out h).2, rfl⟩
theorem obn90 {l : List (Api_Domain)} {i : Nat} {v : Api_Domain} (h : l[i]? = some v) : ∃ x : DD 90, (show List (DD 90) from l)[i]? = some x ∧ UU.cells 90 x = c90 v := ⟨v, h, rfl⟩

theorem ob103 {l : List (Api_Prefix)} {i : Int} {v : Api_Prefix} (h : nth l i = some v) : 0 ≤ i ∧ ∃ x : DD 103, (show List (DD 103) from l)[i.toNat]? = some x ∧ UU.cells 103 x = c103 v := ⟨(nth_out h).1, v, (nth_out h).2, rfl⟩
theorem obn103 {l : List (Api_Prefix)} {i : Nat} {v : Api_Prefix} (h : l[i]? = some v) : ∃ x : DD 103, (show List (DD 103) from l)[i]? = some x ∧ UU.cells 103 x = c103 v := ⟨v, h, rfl⟩

theorem ob105 {l : List (Api_Irb)} {i : Int} {v : Api_Irb} (h : nth l i = some v) : 0 ≤ i ∧ ∃ x : DD 105, (show List (DD 105) from l)[i.toNat]? = some x ∧ UU.cells 105 x = c105 v := ⟨(nth_out h).1, v, (nth_out h).2, rfl⟩
theorem obn105 {l : List (Api_Irb)} {i : Nat} {v : Api_Irb} (h : l[i]? = some v) : ∃ x : DD 105, (show List (DD 105) from l)[i]? = some x ∧ UU.cells 105 x = c105 v := ⟨v, h, rfl⟩

theorem ob110 {l : List (Api_Port)} {i : Int} {v : Api_Port} (h : nth l i = some v) : 0 ≤ i ∧ ∃ x : DD 110, (show List (DD 110) from l)[i.toNat]? = some x ∧ UU.cells 110 x = c110 v := ⟨(nth_out h).1, v, (nth_out h).2, rfl⟩
theorem obn110 {l : List (Api_Port)} {i : Nat} {v : Api_Port} (h : l[i]? = some v) : ∃ x : DD 110, (show List (DD 110) from l)[i]? = some x ∧ UU.cells 110 x = c110 v := ⟨v, h, rfl⟩

theorem ob113 {l : List (Api_Flood)} {i : Int} {v : Api_Flood} (h : nth l i = some v) : 0 ≤ i ∧ ∃ x : DD 113, (show List (DD 113) from l)[i.toNat]? = some x ∧ UU.cells 113 x = c113 v := ⟨(nth_out h).1, v, (nth_out h).2, rfl⟩
theorem obn113 {l : List (Api_Flood)} {i : Nat} {v : Api_Flood} (h : l[i]? = some v) : ∃ x : DD 113, (show List (DD 113) from l)[i]? = some x ∧ UU.cells 113 x = c113 v := ⟨v, h, rfl⟩

theorem ob174 {l : List (Api_Link)} {i : Int} {v : Api_Link} (h : nth l i = some v) : 0 ≤ i ∧ ∃ x : DD 174, (show List (DD 174) from l)[i.toNat]? = some x ∧ UU.cells 174 x = c174 v := ⟨(nth_out h).1, v, (nth_out h).2, rfl⟩
theorem obn174 {l : List (Api_Link)} {i : Nat} {v : Api_Link} (h : l[i]? = some v) : ∃ x : DD 174, (show List (DD 174) from l)[i]? = some x ∧ UU.cells 174 x = c174 v := ⟨v, h, rfl⟩

theorem ob178 {l : List (Api_Static)} {i : Int} {v : Api_Static} (h : nth l i = some v) : 0 ≤ i ∧ ∃ x : DD 178, (show List (DD 178) from l)[i.toNat]? = some x ∧ UU.cells 178 x = c178 v := ⟨(nth_out h).1, v, (nth_out h).2, rfl⟩
theorem obn178 {l : List (Api_Static)} {i : Nat} {v : Api_Static} (h : l[i]? = some v) : ∃ x : DD 178, (show List (DD 178) from l)[i]? = some x ∧ UU.cells 178 x = c178 v := ⟨v, h, rfl⟩

theorem ob190 {l : List (Names_judge)} {i : Int} {v : Names_judge} (h : nth l i = some v) : 0 ≤ i ∧ ∃ x : DD 190, (show List (DD 190) from l)[i.toNat]? = some x ∧ UU.cells 190 x = c190 v := ⟨(nth_out h).1, v, (nth_out h).2, rfl⟩
theorem obn190 {l : List (Names_judge)} {i : Nat} {v : Names_judge} (h : l[i]? = some v) : ∃ x : DD 190, (show List (DD 190) from l)[i]? = some x ∧ UU.cells 190 x = c190 v := ⟨v, h, rfl⟩

theorem app_pt (e : Nat) {n b : Nat} {l xs : List (DD e)} (h : ptok l.length b xs.length = true) : n = n ∧ n = n ∧ 0 < l.length ∧ b + xs.length ≤ l.length ∧ (([] : List Nat) = [] ∨ b + xs.length = l.length) ∧ ∃ xs', (AObj.arr e (l.take b ++ (xs ++ l.drop (b + xs.length))) n false) = .arr e (l.take b ++ (xs' ++ l.drop (b + xs.length))) n false ∧ flatL UU e xs' = flatL UU e xs := by
  have h := of_decide_eq_true h
  exact ⟨rfl, rfl, h.1, h.2, .inl rfl, xs, rfl, rfl⟩
theorem apw_ob (e : Nat) {n b : Nat} {l xs : List (DD e)} (h : ptwok l.length b xs.length = true) : n = n ∧ n = n ∧ 0 < l.length ∧ b + xs.length ≤ l.length ∧ (([0] : List Nat) = [] ∨ b + xs.length = l.length) ∧ ∃ xs', (AObj.arr e (l.take b ++ (xs ++ l.drop (b + xs.length))) n false) = .arr e (l.take b ++ (xs' ++ l.drop (b + xs.length))) n false ∧ flatL UU e xs' = flatL UU e xs := by
  have h := of_decide_eq_true h
  exact ⟨rfl, rfl, h.1, Nat.le_of_eq h.2, .inr h.2, xs, rfl, rfl⟩

theorem cp_ob {n e : Nat} {l l2 : List (DD e)} {a b : Nat} : n = n ∧ ∃ xs : List (DD e), (AObj.arr e (l.take a ++ (l2.take (min l2.length (b - a)) ++ l.drop (a + min l2.length (b - a)))) n false) = .arr e (l.take a ++ (xs ++ l.drop (a + min l2.length (b - a)))) n false ∧ flatL UU e xs = flatL UU e (l2.take (min l2.length (b - a))) := ⟨rfl, _, rfl, rfl⟩
theorem cl_ob {n e : Nat} {l : List (DD e)} {a b : Nat} (y : DD e) : n = n ∧ ∃ y', (AObj.arr e (l.take a ++ (List.replicate (b - a) y ++ l.drop b)) n false) = .arr e (l.take a ++ (List.replicate (b - a) y' ++ l.drop b)) n false ∧ UU.cells e y' = UU.cells e y := ⟨rfl, y, rfl, rfl⟩
theorem rep_ob {α : Type} {l : List α} {i : Nat} {v : α} (h : l[i]? = some v) : (List.replicate l.length false)[i]? = some false := by
  have := (List.getElem?_eq_some_iff.1 h).1
  simp [List.getElem?_replicate, this]
theorem gcl_ob {n e : Nat} {l : List (DD e)} {pm : List Bool} {i : Nat} (y : DD e) (r : List (AV DD)) (hr : UU.cells e y = r) : ∃ y', (AObj.dp e (l.set i y) (pm.set i false) none n) = .dp e (l.set i y') (pm.set i false) none n ∧ UU.cells e y' = r := ⟨y, rfl, hr⟩
theorem gclt_ob {n e : Nat} {l : List (DD e)} {pm : List Bool} {i : Nat} (y : DD e) (r : List (AV DD)) (hr : UU.cells e y = r) : ∃ y', (AObj.dp e (l.set i y) (pm.set i true) none n) = .dp e (l.set i y') (pm.set i true) none n ∧ UU.cells e y' = r := ⟨y, rfl, hr⟩
theorem st_ob {n e : Nat} {l : List (DD e)} {i : Nat} {A : Prop} (y : DD e) (r : List (AV DD)) (h : A) (hr : UU.cells e y = r) : n = n ∧ A ∧ ∃ y', (AObj.arr e (l.set i y) n false) = .arr e (l.set i y') n false ∧ UU.cells e y' = r := ⟨rfl, h, y, rfl, hr⟩
theorem bs_ob (e : Nat) (l : List (DD e)) : flatL UU e l = flatL UU e l ∧ l.length = l.length ∧ l.length = l.length := ⟨rfl, rfl, rfl⟩
theorem mk_ob {n m : Int} {b : Nat} (e : Nat) (z : DD e) (h : mkok b n m = true) : 0 ≤ n ∧ n ≤ m ∧ m * b ≤ 140737488355328 ∧ m < 9223372036854775808 ∧ ∃ y : DD e, List.replicate n.toNat z = List.replicate n.toNat y ∧ UU.cells e y = UU.cells e z := by
  have h := of_decide_eq_true h
  exact ⟨h.1, h.2.1, h.2.2.1, h.2.2.2, z, rfl, rfl⟩
theorem app_ob (e : Nat) {n b : Nat} {l xs : List (DD e)} (h : roomy b (l ++ xs) = true) : n = n ∧ (l ++ xs).length = (l ++ xs).length ∧ (l.length + xs.length) * b ≤ 140737488355328 ∧ l.length + xs.length < 9223372036854775808 ∧ ∃ xs', (AObj.arr e (l ++ xs) (l ++ xs).length false) = .arr e (l ++ xs') (l ++ xs).length false ∧ flatL UU e xs' = flatL UU e xs := by
  have h := of_decide_eq_true h
  rw [List.length_append] at h
  exact ⟨rfl, rfl, h.1, h.2, xs, rfl, rfl⟩
theorem apd_ob (e : Nat) {b : Nat} {l : List (DD e)} (h : roomy b l = true) : l.length * b ≤ 140737488355328 ∧ l.length < 9223372036854775808 ∧ l.length = l.length ∧ flatL UU e l = flatL UU e l := by
  have h := of_decide_eq_true h
  exact ⟨h.1, h.2, rfl, rfl⟩
theorem apn_ob (e : Nat) {b : Nat} {l : List (DD e)} (h : roomy b l = true) : l.length * b ≤ 140737488355328 ∧ l.length < 9223372036854775808 ∧ l.length = l.length ∧ flatL UU e l = flatL UU e l ∧ l.length = l.length := by
  have h := of_decide_eq_true h
  exact ⟨h.1, h.2, rfl, rfl, rfl⟩

theorem mixedOrders : Tryz.prog.follows .mixedOrders = true := by kernel_rfl
@[reducible] def AV.z : AV DD := .v (.int .i64 0)
@[reducible] def AV.e : AV DD := .v (.string (⟨#[]⟩ : ByteArray))
@[reducible] def AObj.n (t : Nat) : AObj DD := .arr t [] 0 false
theorem rl {k N : Nat} {c : Code} {fr fr' : Fr DD} {hp h' : Heap DD} {ps : List Prop} {ex : Ex} (live ids : List Nat) (π : List (Ans DD)) (hps : AllP ps) (hx : runLp Tryz.prog UU k N c fr hp live ids π = some (ps, ex, fr', h') := by kernel_rfl) : ExecOK Tryz.prog UU k N c fr hp ex fr' h' := runLp_sound mixedOrders hx hps
theorem rf {f : FuncId} {fn : Func} {args : List (AV DD)} {h h' : Heap DD} {ps : List Prop} {r : AV DD} (hfn : Tryz.prog.funcs[f]? = some fn) (keep : Option (List Nat)) (π : List (Ans DD)) (hps : AllP ps) (hname : (fn.name == "runtime.NumGoroutine") = false := by rfl) (hrun : runFn Tryz.prog UU fn args h keep π = some (ps, r, h') := by kernel_rfl) : CallsOK Tryz.prog UU f args h r h' := runFn_sound mixedOrders hfn hname hrun hps
theorem rn (n : Nat) : n = n := rfl
theorem an (n : Nat) {p : Prop} (h : p) : n = n ∧ p := ⟨rfl, h⟩
@[reducible] def AV.j (n : Int) : AV DD := .v (.int .i64 n)
theorem oi {α : Type} {a b : α} (h : some a = some b) : a = b := by injection h
theorem rr (x : AV DD) : x = x := rfl
theorem rh (x : Heap DD) : x = x := rfl
theorem ro (x : AObj DD) : x = x := rfl
theorem rl2 (x : List (AV DD)) : x = x := rfl
theorem pd {p : Prop} {ps : List Prop} (h : p) (hs : AllP ps) : AllP (p :: p :: ps) := pc h (pc h hs)
@[reducible] def AObj.w {D : Den} (t : Nat) (l : List (D t)) : AObj D := .arr t l l.length false
@[reducible] def AObj.wt {D : Den} (t : Nat) (l : List (D t)) : AObj D := .arr t l l.length true
@[reducible] def AV.x (s : ByteArray) : AV DD := .v (.string s)
@[reducible] def AV.y (b : Bool) : AV DD := .v (.bool b)
@[reducible] def AV.o (k : Nat) : AV DD := .op k 1 0 0
@[reducible] def Ans.t : Ans DD := .dec true
@[reducible] def Ans.f : Ans DD := .dec false
@[reducible] def Ans.b (x : Bool) : Ans DD := .callv (.v (.bool x))
theorem bo {α β : Type} {o : Option α} {f : α → Option β} {r : β} (h : o.bind f = some r) : ∃ v, o = some v ∧ f v = some r := bind_out h
end Go.Eng
