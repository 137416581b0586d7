/- Part of the proof of NamesOwn: printed mirrors of the functions, or their contracts. No conditions. -/
import Derived.Test.YtcclngfmkodgjaaMAM
import Derived.Test.YtcclngfmkodgjaaProg
set_option linter.unusedVariables false
set_option maxRecDepth 100000
namespace Go.Eng
open Go Go.Proofs
def DD : Den := fun t => match t with
  | 3 => Int
  | 9 => ByteArray
  | 31 => Api_Net
  | 45 => Int
  | 47 => Api_Device
  | 49 => Api_Port
  | 51 => Api_Domain
  | 53 => Api_Vrf
  | 58 => Api_Flood
  | 88 => Api_Link
  | 92 => Api_Static
  | 97 => Api_Prefix
  | 99 => Api_Irb
  | 128 => Names_judge
  | _ => Unit

def c3 (x : Int) : List (AV DD) := [.v (.int .i64 x)]

def c9 (x : ByteArray) : List (AV DD) := [.v (.string x)]

def c31 (x : Api_Net) : List (AV DD) := [.sl 47 x.devices, .sl 49 x.ports, .sl 88 x.links, .sl 51 x.domains, .sl 92 x.statics, .sl 58 x.floods, .sl 53 x.vrfs, .sl 99 x.irbs]

def c45 (x : Int) : List (AV DD) := [.v (.int .u32 x)]

def c47 (x : Api_Device) : List (AV DD) := [.v (.int .i64 x.row), .v (.int .i64 x.priority), .v (.string x.name), .v (.int .u64 x.mac), .v (.int .u32 x.vtep)]

def c49 (x : Api_Port) : List (AV DD) := [.v (.int .i64 x.row), .v (.int .i64 x.dev), .v (.int .i64 x.native), .v (.int .i64 x.cost), .v (.int .i64 x.link), .v (.string x.name), .sl 3 x.tagged]

def c51 (x : Api_Domain) : List (AV DD) := [.v (.int .i64 x.dev), .v (.int .i64 x.vlan), .v (.int .i64 x.vni), .v (.int .i64 x.irb), .v (.int .i64 x.row), .sl 3 x.peers]

def c53 (x : Api_Vrf) : List (AV DD) := [.v (.int .i64 x.row), .v (.int .i64 x.dev), .v (.string x.name), .sl 3 x.imports, .sl 3 x.exports]

def c58 (x : Api_Flood) : List (AV DD) := [.v (.int .i64 x.row), .v (.int .i64 x.dev), .v (.int .i64 x.vni), .sl 45 x.addrs]

def c88 (x : Api_Link) : List (AV DD) := [.v (.int .i64 x.row), .v (.int .i64 x.a), .v (.int .i64 x.b)]

def c92 (x : Api_Static) : List (AV DD) := [.v (.int .i64 x.row), .v (.int .i64 x.domain), .v (.int .i64 x.port), .v (.int .u64 x.mac)]

def c97 (x : Api_Prefix) : List (AV DD) := [.v (.int .u32 x.addr), .v (.int .i64 x.bits)]

def c99 (x : Api_Irb) : List (AV DD) := [.v (.int .i64 x.row), .v (.int .i64 x.domain), .v (.int .i64 x.vrf), .v (.int .u32 x.net.addr), .v (.int .i64 x.net.bits)]

def c128 (x : Names_judge) : List (AV DD) := [.sl 47 x.n.devices, .sl 49 x.n.ports, .sl 88 x.n.links, .sl 51 x.n.domains, .sl 92 x.n.statics, .sl 58 x.n.floods, .sl 53 x.n.vrfs, .sl 99 x.n.irbs]

def cellsD : (t : Nat) → DD t → List (AV DD) := fun t => match t with
  | 3 => fun x => c3 x
  | 9 => fun x => c9 x
  | 31 => fun x => c31 x
  | 45 => fun x => c45 x
  | 47 => fun x => c47 x
  | 49 => fun x => c49 x
  | 51 => fun x => c51 x
  | 53 => fun x => c53 x
  | 58 => fun x => c58 x
  | 88 => fun x => c88 x
  | 92 => fun x => c92 x
  | 97 => fun x => c97 x
  | 99 => fun x => c99 x
  | 128 => fun x => c128 x
  | _ => fun _ => [.v (.bool true)]

def widthD : Nat → Nat := fun t => match t with
  | 3 => 1
  | 9 => 1
  | 31 => 8
  | 45 => 1
  | 47 => 5
  | 49 => 7
  | 51 => 6
  | 53 => 5
  | 58 => 4
  | 88 => 3
  | 92 => 4
  | 97 => 2
  | 99 => 5
  | 128 => 8
  | _ => 1

theorem cellsD_else {t : Nat} (x : DD t) (h : t ≠ 3 ∧ t ≠ 9 ∧ t ≠ 31 ∧ t ≠ 45 ∧ t ≠ 47 ∧ t ≠ 49 ∧ t ≠ 51 ∧ t ≠ 53 ∧ t ≠ 58 ∧ t ≠ 88 ∧ t ≠ 92 ∧ t ≠ 97 ∧ t ≠ 99 ∧ t ≠ 128) : cellsD t x = [.v (.bool true)] ∧ widthD t = 1 := by
  obtain ⟨h3, h9, h31, h45, h47, h49, h51, h53, h58, h88, h92, h97, h99, h128⟩ := h
  unfold cellsD widthD
  constructor
  · split <;> first | (exfalso; omega) | rfl
  · split <;> first | (exfalso; omega) | rfl

def UU : Univ DD where
  width := widthD
  cells := cellsD
  len t x := by
    by_cases h3 : t = 3
    · subst h3; rfl
    by_cases h9 : t = 9
    · subst h9; rfl
    by_cases h31 : t = 31
    · subst h31; rfl
    by_cases h45 : t = 45
    · subst h45; rfl
    by_cases h47 : t = 47
    · subst h47; rfl
    by_cases h49 : t = 49
    · subst h49; rfl
    by_cases h51 : t = 51
    · subst h51; rfl
    by_cases h53 : t = 53
    · subst h53; rfl
    by_cases h58 : t = 58
    · subst h58; rfl
    by_cases h88 : t = 88
    · subst h88; rfl
    by_cases h92 : t = 92
    · subst h92; rfl
    by_cases h97 : t = 97
    · subst h97; rfl
    by_cases h99 : t = 99
    · subst h99; rfl
    by_cases h128 : t = 128
    · subst h128; rfl
    rw [(cellsD_else x ⟨h3, h9, h31, h45, h47, h49, h51, h53, h58, h88, h92, h97, h99, h128⟩).1, (cellsD_else x ⟨h3, h9, h31, h45, h47, h49, h51, h53, h58, h88, h92, h97, h99, h128⟩).2]; rfl
  pos t := by
    by_cases h3 : t = 3
    · subst h3; exact Nat.le_of_ble_eq_true rfl
    by_cases h9 : t = 9
    · subst h9; exact Nat.le_of_ble_eq_true rfl
    by_cases h31 : t = 31
    · subst h31; exact Nat.le_of_ble_eq_true rfl
    by_cases h45 : t = 45
    · subst h45; exact Nat.le_of_ble_eq_true rfl
    by_cases h47 : t = 47
    · subst h47; exact Nat.le_of_ble_eq_true rfl
    by_cases h49 : t = 49
    · subst h49; exact Nat.le_of_ble_eq_true rfl
    by_cases h51 : t = 51
    · subst h51; exact Nat.le_of_ble_eq_true rfl
    by_cases h53 : t = 53
    · subst h53; exact Nat.le_of_ble_eq_true rfl
    by_cases h58 : t = 58
    · subst h58; exact Nat.le_of_ble_eq_true rfl
    by_cases h88 : t = 88
    · subst h88; exact Nat.le_of_ble_eq_true rfl
    by_cases h92 : t = 92
    · subst h92; exact Nat.le_of_ble_eq_true rfl
    by_cases h97 : t = 97
    · subst h97; exact Nat.le_of_ble_eq_true rfl
    by_cases h99 : t = 99
    · subst h99; exact Nat.le_of_ble_eq_true rfl
    by_cases h128 : t = 128
    · subst h128; exact Nat.le_of_ble_eq_true rfl
    unfold widthD; split <;> omega
  ok t x := by
    by_cases h3 : t = 3
    · subst h3; rfl
    by_cases h9 : t = 9
    · subst h9; rfl
    by_cases h31 : t = 31
    · subst h31; rfl
    by_cases h45 : t = 45
    · subst h45; rfl
    by_cases h47 : t = 47
    · subst h47; rfl
    by_cases h49 : t = 49
    · subst h49; rfl
    by_cases h51 : t = 51
    · subst h51; rfl
    by_cases h53 : t = 53
    · subst h53; rfl
    by_cases h58 : t = 58
    · subst h58; rfl
    by_cases h88 : t = 88
    · subst h88; rfl
    by_cases h92 : t = 92
    · subst h92; rfl
    by_cases h97 : t = 97
    · subst h97; rfl
    by_cases h99 : t = 99
    · subst h99; rfl
    by_cases h128 : t = 128
    · subst h128; rfl
    rw [(cellsD_else x ⟨h3, h9, h31, h45, h47, h49, h51, h53, h58, h88, h92, h97, h99, h128⟩).1]; rfl

instance : Gl DD := ⟨fun _ => none⟩

theorem im_all {t : Nat} (h : ∀ x : DD t, (UU.cells t x).all immC = true) (l : List (DD t)) : (flatL UU t l).all immC = true := by
  induction l with
  | nil => rfl
  | cons x l ih => simp only [flatL, List.flatMap_cons, List.all_append, Bool.and_eq_true]; exact ⟨h x, ih⟩

theorem im3 (l : List (DD 3)) : (flatL UU 3 l).all immC = true := im_all (fun _ => rfl) l

theorem im9 (l : List (DD 9)) : (flatL UU 9 l).all immC = true := im_all (fun _ => rfl) l

theorem im45 (l : List (DD 45)) : (flatL UU 45 l).all immC = true := im_all (fun _ => rfl) l

theorem im47 (l : List (DD 47)) : (flatL UU 47 l).all immC = true := im_all (fun _ => rfl) l

theorem im88 (l : List (DD 88)) : (flatL UU 88 l).all immC = true := im_all (fun _ => rfl) l

theorem im92 (l : List (DD 92)) : (flatL UU 92 l).all immC = true := im_all (fun _ => rfl) l

theorem im97 (l : List (DD 97)) : (flatL UU 97 l).all immC = true := im_all (fun _ => rfl) l

theorem im99 (l : List (DD 99)) : (flatL UU 99 l).all immC = true := im_all (fun _ => rfl) l

theorem ob3 {l : List (Int)} {i : Int} {v : Int} (h : nth l i = some v) : 0 ≤ i ∧ ∃ x : DD 3, (show List (DD 3) from l)[i.toNat]? = some x ∧ UU.cells 3 x = c3 v := ⟨(nth_out h).1, v, (nth_out h).2, rfl⟩
theorem obn3 {l : List (Int)} {i : Nat} {v : Int} (h : l[i]? = some v) : ∃ x : DD 3, (show List (DD 3) from l)[i]? = some x ∧ UU.cells 3 x = c3 v := ⟨v, h, rfl⟩

theorem ob9 {l : List (ByteArray)} {i : Int} {v : ByteArray} (h : nth l i = some v) : 0 ≤ i ∧ ∃ x : DD 9, (show List (DD 9) from l)[i.toNat]? = some x ∧ UU.cells 9 x = c9 v := ⟨(nth_out h).1, v, (nth_out h).2, rfl⟩
theorem obn9 {l : List (ByteArray)} {i : Nat} {v : ByteArray} (h : l[i]? = some v) : ∃ x : DD 9, (show List (DD 9) from l)[i]? = some x ∧ UU.cells 9 x = c9 v := ⟨v, h, rfl⟩

theorem ob31 {l : List (Api_Net)} {i : Int} {v : Api_Net} (h : nth l i = some v) : 0 ≤ i ∧ ∃ x : DD 31, (show List (DD 31) from l)[i.toNat]? = some x ∧ UU.cells 31 x = c31 v := ⟨(nth_out h).1, v, (nth_out h).2, rfl⟩
theorem obn31 {l : List (Api_Net)} {i : Nat} {v : Api_Net} (h : l[i]? = some v) : ∃ x : DD 31, (show List (DD 31) from l)[i]? = some x ∧ UU.cells 31 x = c31 v := ⟨v, h, rfl⟩

theorem ob45 {l : List (Int)} {i : Int} {v : Int} (h : nth l i = some v) : 0 ≤ i ∧ ∃ x : DD 45, (show List (DD 45) from l)[i.toNat]? = some x ∧ UU.cells 45 x = c45 v := ⟨(nth_out h).1, v, (nth_out h).2, rfl⟩
theorem obn45 {l : List (Int)} {i : Nat} {v : Int} (h : l[i]? = some v) : ∃ x : DD 45, (show List (DD 45) from l)[i]? = some x ∧ UU.cells 45 x = c45 v := ⟨v, h, rfl⟩

theorem ob47 {l : List (Api_Device)} {i : Int} {v : Api_Device} (h : nth l i = some v) : 0 ≤ i ∧ ∃ x : DD 47, (show List (DD 47) from l)[i.toNat]? = some x ∧ UU.cells 47 x = c47 v := ⟨(nth_out h).1, v, (nth_out h).2, rfl⟩
theorem obn47 {l : List (Api_Device)} {i : Nat} {v : Api_Device} (h : l[i]? = some v) : ∃ x : DD 47, (show List (DD 47) from l)[i]? = some x ∧ UU.cells 47 x = c47 v := ⟨v, h, rfl⟩

theorem ob49 {l : List (Api_Port)} {i : Int} {v : Api_Port} (h : nth l i = some v) : 0 ≤ i ∧ ∃ x : DD 49, (show List (DD 49) from l)[i.toNat]? = some x ∧ UU.cells 49 x = c49 v := ⟨(nth_out h).1, v, (nth_out h).2, rfl⟩
theorem obn49 {l : List (Api_Port)} {i : Nat} {v : Api_Port} (h : l[i]? = some v) : ∃ x : DD 49, (show List (DD 49) from l)[i]? = some x ∧ UU.cells 49 x = c49 v := ⟨v, h, rfl⟩

theorem ob51 {l : List (Api_Domain)} {i : Int} {v : Api_Domain} (h : nth l i = some v) : 0 ≤ i ∧ ∃ x : DD 51, (show List (DD 51) from l)[i.toNat]? = some x ∧ UU.cells 51 x = c51 v := ⟨(nth_out h).1, v, (nth_out h).2, rfl⟩
theorem obn51 {l : List (Api_Domain)} {i : Nat} {v : Api_Domain} (h : l[i]? = some v) : ∃ x : DD 51, (show List (DD 51) from l)[i]? = some x ∧ UU.cells 51 x = c51 v := ⟨v, h, rfl⟩

theorem ob53 {l : List (Api_Vrf)} {i : Int} {v : Api_Vrf} (h : nth l i = some v) : 0 ≤ i ∧ ∃ x : DD 53, (show List (DD 53) from l)[i.toNat]? = some x ∧ UU.cells 53 x = c53 v := ⟨(nth_out h).1, v, (nth_out h).2, rfl⟩
theorem obn53 {l : List (Api_Vrf)} {i : Nat} {v : Api_Vrf} (h : l[i]? = some v) : ∃ x : DD 53, (show List (DD 53) from l)[i]? = some x ∧ UU.cells 53 x = c53 v := ⟨v, h, rfl⟩

theorem ob58 {l : List (Api_Flood)} {i : Int} {v : Api_Flood} (h : nth l i = some v) : 0 ≤ i ∧ ∃ x : DD 58, (show List (DD 58) from l)[i.toNat]? = some x ∧ UU.cells 58 x = c58 v := ⟨(nth_out h).1, v, (nth_out h).2, rfl⟩
theorem obn58 {l : List (Api_Flood)} {i : Nat} {v : Api_Flood} (h : l[i]? = some v) : ∃ x : DD 58, (show List (DD 58) from l)[i]? = some x ∧ UU.cells 58 x = c58 v := ⟨v, h, rfl⟩

theorem ob88 {l : List (Api_Link)} {i : Int} {v : Api_Link} (h : nth l i = some v) : 0 ≤ i ∧ ∃ x : DD 88, (show List (DD 88) from l)[i.toNat]? = some x ∧ UU.cells 88 x = c88 v := ⟨(nth_out h).1, v, (nth_out h).2, rfl⟩
theorem obn88 {l : List (Api_Link)} {i : Nat} {v : Api_Link} (h : l[i]? = some v) : ∃ x : DD 88, (show List (DD 88) from l)[i]? = some x ∧ UU.cells 88 x = c88 v := ⟨v, h, rfl⟩

theorem ob92 {l : List (Api_Static)} {i : Int} {v : Api_Static} (h : nth l i = some v) : 0 ≤ i ∧ ∃ x : DD 92, (show List (DD 92) from l)[i.toNat]? = some x ∧ UU.cells 92 x = c92 v := ⟨(nth_out h).1, v, (nth_out h).2, rfl⟩
theorem obn92 {l : List (Api_Static)} {i : Nat} {v : Api_Static} (h : l[i]? = some v) : ∃ x : DD 92, (show List (DD 92) from l)[i]? = some x ∧ UU.cells 92 x = c92 v := ⟨v, h, rfl⟩

theorem ob97 {l : List (Api_Prefix)} {i : Int} {v : Api_Prefix} (h : nth l i = some v) : 0 ≤ i ∧ ∃ x : DD 97, (show List (DD 97) from l)[i.toNat]? = some x ∧ UU.cells 97 x = c97 v := ⟨(nth_out h).1, v, (nth_out h).2, rfl⟩
theorem obn97 {l : List (Api_Prefix)} {i : Nat} {v : Api_Prefix} (h : l[i]? = some v) : ∃ x : DD 97, (show List (DD 97) from l)[i]? = some x ∧ UU.cells 97 x = c97 v := ⟨v, h, rfl⟩

theorem ob99 {l : List (Api_Irb)} {i : Int} {v : Api_Irb} (h : nth l i = some v) : 0 ≤ i ∧ ∃ x : DD 99, (show List (DD 99) from l)[i.toNat]? = some x ∧ UU.cells 99 x = c99 v := ⟨(nth_out h).1, v, (nth_out h).2, rfl⟩
theorem obn99 {l : List (Api_Irb)} {i : Nat} {v : Api_Irb} (h : l[i]? = some v) : ∃ x : DD 99, (show List (DD 99) from l)[i]? = some x ∧ UU.cells 99 x = c99 v := ⟨v, h, rfl⟩

theorem ob128 {l : List (Names_judge)} {i : Int} {v : Names_judge} (h : nth l i = some v) : 0 ≤ i ∧ ∃ x : DD 128, (show List (DD 128) from l)[i.toNat]? = some x ∧ UU.cells 128 x = c128 v := ⟨(nth_out h).1, v, (nth_out h).2, rfl⟩
theorem obn128 {l : List (Names_judge)} {i : Nat} {v : Names_judge} (h : l[i]? = some v) : ∃ x : DD 128, (show List (DD 128) from l)[i]? = some x ∧ UU.cells 128 x = c128 v := ⟨v, h, rfl⟩

theorem app_pt (e : Nat) {n b : Nat} {l xs : List (DD e)} (h : ptok l.length b xs.length = true) : n = n ∧ n = n ∧ 0 < l.length ∧ b + xs.length ≤ l.length ∧ (([] : List Nat) = [] ∨ b + xs.length = l.length) ∧ ∃ xs', (AObj.arr e (l.take b ++ (xs ++ l.drop (b + xs.length))) n false) = .arr e (l.take b ++ (xs' ++ l.drop (b + xs.length))) n false ∧ flatL UU e xs' = flatL UU e xs := by
  have h := of_decide_eq_true h
  exact ⟨rfl, rfl, h.1, h.2, .inl rfl, xs, rfl, rfl⟩
theorem apw_ob (e : Nat) {n b : Nat} {l xs : List (DD e)} (h : ptwok l.length b xs.length = true) : n = n ∧ n = n ∧ 0 < l.length ∧ b + xs.length ≤ l.length ∧ (([0] : List Nat) = [] ∨ b + xs.length = l.length) ∧ ∃ xs', (AObj.arr e (l.take b ++ (xs ++ l.drop (b + xs.length))) n false) = .arr e (l.take b ++ (xs' ++ l.drop (b + xs.length))) n false ∧ flatL UU e xs' = flatL UU e xs := by
  have h := of_decide_eq_true h
  exact ⟨rfl, rfl, h.1, Nat.le_of_eq h.2, .inr h.2, xs, rfl, rfl⟩

theorem cp_ob {n e : Nat} {l l2 : List (DD e)} {a b : Nat} : n = n ∧ ∃ xs : List (DD e), (AObj.arr e (l.take a ++ (l2.take (min l2.length (b - a)) ++ l.drop (a + min l2.length (b - a)))) n false) = .arr e (l.take a ++ (xs ++ l.drop (a + min l2.length (b - a)))) n false ∧ flatL UU e xs = flatL UU e (l2.take (min l2.length (b - a))) := ⟨rfl, _, rfl, rfl⟩
theorem cl_ob {n e : Nat} {l : List (DD e)} {a b : Nat} (y : DD e) : n = n ∧ ∃ y', (AObj.arr e (l.take a ++ (List.replicate (b - a) y ++ l.drop b)) n false) = .arr e (l.take a ++ (List.replicate (b - a) y' ++ l.drop b)) n false ∧ UU.cells e y' = UU.cells e y := ⟨rfl, y, rfl, rfl⟩
theorem rep_ob {α : Type} {l : List α} {i : Nat} {v : α} (h : l[i]? = some v) : (List.replicate l.length false)[i]? = some false := by
  have := (List.getElem?_eq_some_iff.1 h).1
  simp [List.getElem?_replicate, this]
theorem gcl_ob {n e : Nat} {l : List (DD e)} {pm : List Bool} {i : Nat} (y : DD e) (r : List (AV DD)) (hr : UU.cells e y = r) : ∃ y', (AObj.dp e (l.set i y) (pm.set i false) none n) = .dp e (l.set i y') (pm.set i false) none n ∧ UU.cells e y' = r := ⟨y, rfl, hr⟩
theorem gclt_ob {n e : Nat} {l : List (DD e)} {pm : List Bool} {i : Nat} (y : DD e) (r : List (AV DD)) (hr : UU.cells e y = r) : ∃ y', (AObj.dp e (l.set i y) (pm.set i true) none n) = .dp e (l.set i y') (pm.set i true) none n ∧ UU.cells e y' = r := ⟨y, rfl, hr⟩
theorem st_ob {n e : Nat} {l : List (DD e)} {i : Nat} {A : Prop} (y : DD e) (r : List (AV DD)) (h : A) (hr : UU.cells e y = r) : n = n ∧ A ∧ ∃ y', (AObj.arr e (l.set i y) n false) = .arr e (l.set i y') n false ∧ UU.cells e y' = r := ⟨rfl, h, y, rfl, hr⟩
theorem bs_ob (e : Nat) (l : List (DD e)) : flatL UU e l = flatL UU e l ∧ l.length = l.length ∧ l.length = l.length := ⟨rfl, rfl, rfl⟩
theorem mk_ob {n m : Int} {b : Nat} (e : Nat) (z : DD e) (h : mkok b n m = true) : 0 ≤ n ∧ n ≤ m ∧ m * b ≤ 140737488355328 ∧ m < 9223372036854775808 ∧ ∃ y : DD e, List.replicate n.toNat z = List.replicate n.toNat y ∧ UU.cells e y = UU.cells e z := by
  have h := of_decide_eq_true h
  exact ⟨h.1, h.2.1, h.2.2.1, h.2.2.2, z, rfl, rfl⟩
theorem app_ob (e : Nat) {n b : Nat} {l xs : List (DD e)} (h : roomy b (l ++ xs) = true) : n = n ∧ (l ++ xs).length = (l ++ xs).length ∧ (l.length + xs.length) * b ≤ 140737488355328 ∧ l.length + xs.length < 9223372036854775808 ∧ ∃ xs', (AObj.arr e (l ++ xs) (l ++ xs).length false) = .arr e (l ++ xs') (l ++ xs).length false ∧ flatL UU e xs' = flatL UU e xs := by
  have h := of_decide_eq_true h
  rw [List.length_append] at h
  exact ⟨rfl, rfl, h.1, h.2, xs, rfl, rfl⟩
theorem apd_ob (e : Nat) {b : Nat} {l : List (DD e)} (h : roomy b l = true) : l.length * b ≤ 140737488355328 ∧ l.length < 9223372036854775808 ∧ l.length = l.length ∧ flatL UU e l = flatL UU e l := by
  have h := of_decide_eq_true h
  exact ⟨h.1, h.2, rfl, rfl⟩
theorem apn_ob (e : Nat) {b : Nat} {l : List (DD e)} (h : roomy b l = true) : l.length * b ≤ 140737488355328 ∧ l.length < 9223372036854775808 ∧ l.length = l.length ∧ flatL UU e l = flatL UU e l ∧ l.length = l.length := by
  have h := of_decide_eq_true h
  exact ⟨h.1, h.2, rfl, rfl, rfl⟩

theorem mixedOrders : Try.prog.follows .mixedOrders = true := by kernel_rfl
@[reducible] def AV.z : AV DD := .v (.int .i64 0)
@[reducible] def AV.e : AV DD := .v (.string (⟨#[]⟩ : ByteArray))
@[reducible] def AObj.n (t : Nat) : AObj DD := .arr t [] 0 false
theorem rl {k N : Nat} {c : Code} {fr fr' : Fr DD} {hp h' : Heap DD} {ps : List Prop} {ex : Ex} (live ids : List Nat) (π : List (Ans DD)) (hps : AllP ps) (hx : runLp Try.prog UU k N c fr hp live ids π = some (ps, ex, fr', h') := by kernel_rfl) : ExecOK Try.prog UU k N c fr hp ex fr' h' := runLp_sound mixedOrders hx hps
theorem rf {f : FuncId} {fn : Func} {args : List (AV DD)} {h h' : Heap DD} {ps : List Prop} {r : AV DD} (hfn : Try.prog.funcs[f]? = some fn) (keep : Option (List Nat)) (π : List (Ans DD)) (hps : AllP ps) (hname : (fn.name == "runtime.NumGoroutine") = false := by rfl) (hrun : runFn Try.prog UU fn args h keep π = some (ps, r, h') := by kernel_rfl) : CallsOK Try.prog UU f args h r h' := runFn_sound mixedOrders hfn hname hrun hps
theorem rn (n : Nat) : n = n := rfl
theorem an (n : Nat) {p : Prop} (h : p) : n = n ∧ p := ⟨rfl, h⟩
@[reducible] def AV.j (n : Int) : AV DD := .v (.int .i64 n)
theorem oi {α : Type} {a b : α} (h : some a = some b) : a = b := by injection h
theorem rr (x : AV DD) : x = x := rfl
theorem rh (x : Heap DD) : x = x := rfl
theorem ro (x : AObj DD) : x = x := rfl
theorem rl2 (x : List (AV DD)) : x = x := rfl
theorem pd {p : Prop} {ps : List Prop} (h : p) (hs : AllP ps) : AllP (p :: p :: ps) := pc h (pc h hs)
@[reducible] def AObj.w {D : Den} (t : Nat) (l : List (D t)) : AObj D := .arr t l l.length false
@[reducible] def AObj.wt {D : Den} (t : Nat) (l : List (D t)) : AObj D := .arr t l l.length true
@[reducible] def AV.x (s : ByteArray) : AV DD := .v (.string s)
@[reducible] def AV.y (b : Bool) : AV DD := .v (.bool b)
@[reducible] def AV.o (k : Nat) : AV DD := .op k 1 0 0
@[reducible] def Ans.t : Ans DD := .dec true
@[reducible] def Ans.f : Ans DD := .dec false
@[reducible] def Ans.b (x : Bool) : Ans DD := .callv (.v (.bool x))
theorem bo {α β : Type} {o : Option α} {f : α → Option β} {r : β} (h : o.bind f = some r) : ∃ v, o = some v ∧ f v = some r := bind_out h
end Go.Eng
