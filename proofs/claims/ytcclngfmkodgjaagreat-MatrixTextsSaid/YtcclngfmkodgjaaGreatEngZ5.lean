/- Chapter 43 (matrix): tables as texts: MatrixTexts. -/
import Derived.Test.YtcclngfmkodgjaaGreatEngGP1
import Derived.Test.YtcclngfmkodgjaaGreatEngQ1
import Derived.Test.YtcclngfmkodgjaaGreatEngT0
import Derived.Test.YtcclngfmkodgjaaGreatMAM
set_option linter.unusedVariables false
set_option linter.unusedSectionVars false
set_option linter.unusedSimpArgs false
namespace Go.Eng
open Go Classical
attribute [local congr] ite_cg
theorem sadok43 {a b : ByteArray} (h : a.size + b.size ≤ 1000000) : sadok a b = true := by
  unfold sadok
  have e2 : IntKind.i64.max = 9223372036854775807 := by decide
  rw [decide_eq_true_eq, e2]
  omega
theorem bts_append (a b : ByteArray) : bts (a ++ b) = bts a ++ bts b := by
  simp [bts, ByteArray.data_append]
theorem bstr_bts (s : ByteArray) : bstr (bts s) = s := by
  unfold bstr bts
  rw [List.map_map]
  have : ((fun n : Int => UInt8.ofNat n.toNat) ∘ fun b : UInt8 => (b.toNat : Int)) = id := by
    funext b
    simp
  rw [this]
  simp
theorem bytok_bts {s : ByteArray} (h : s.size ≤ 9223372036854775807) : bytok (bts s) = true := by
  unfold bytok
  rw [Bool.and_eq_true]
  refine ⟨decide_eq_true (by rw [bts_length]; exact h), List.all_eq_true.2 fun n hn => ?_⟩
  obtain ⟨b, _, rfl⟩ := List.mem_map.1 hn
  have := b.toNat_lt
  exact decide_eq_true ⟨by omega, by omega⟩
theorem iter_mono43 {σ ρ : Type} {f : σ → Option (σ ⊕ ρ)} : ∀ (n : Nat) (s : σ) (r : ρ), iter f n s = some r → iter f (n + 1) s = some r
  | 0, s, r, h => by simp [iter_zero] at h
  | n + 1, s, r, h => by
    rw [iter_succ] at h ⊢
    cases hq : f s with
    | none => rw [hq] at h; cases h
    | some q =>
      rw [hq] at h
      cases q with
      | inl s2 => exact iter_mono43 n s2 r h
      | inr r2 => exact h
theorem loopM_step43 {σ ρ : Type} {f : σ → Option (σ ⊕ ρ)} {s0 s : σ} {r : ρ} (hf : f s0 = some (.inl s)) (h : loopM f s0 = some r) : loopM f s = some r := by
  have h1 : iter f (18446744073709551615 + 1) s0 = some r := h
  rw [iter_succ, hf] at h1
  exact iter_mono43 _ _ _ h1
def cv43 (c : Matrix_Cell) : Palingref43_Cell := ⟨c.ports, c.from_, c.to⟩
def told43 (m : List (List Matrix_Cell)) : List (List Palingref43_Cell) := m.map fun r => r.map cv43


theorem i64b43 {v : Int} (h : okI .i64 v) : -9223372036854775808 ≤ v ∧ v < 9223372036854775808 := by
  have h1 := h.1
  have h2 := h.2
  have e1 : IntKind.i64.min = -9223372036854775808 := by decide
  have e2 : IntKind.i64.max = 9223372036854775807 := by decide
  omega
section
variable {m : List (List Matrix_Cell)} {names : List ByteArray}
theorem told_spec (hm : m.length ≤ 300) (hr : ∀ r ∈ m, r.length ≤ 300) : palinglaw43_told m = some (told43 m) := by
  unfold palinglaw43_told
  rw [loop_putmap m (fun r => r.map cv43) id (by unfold Few; omega) (fun q i i0 i1 hi hq => by
    have hw := wr64 (n := i + 1) (by omega) (by omega)
    have hrow := hr _ (getI_mem hi)
    simp only [palinglaw43_told_L1, i1, nth_getI hi, decide_true, if_true, Option.bind_some]
    rw [loop_putmap (getI m i) cv43 id (by unfold Few; omega) (fun p k k0 k1 hk hp => by
      have hw2 := wr64 (n := k + 1) (by omega) (by omega)
      have hro : roomy 24 (p ++ [(⟨(getI (getI m i) k).ports, (getI (getI m i) k).from_, (getI (getI m i) k).to⟩ : Palingref43_Cell)]) = true := by
        unfold roomy; rw [decide_eq_true_eq]; simp; omega
      simp only [palinglaw43_told_L2, k1, nth_getI hk, hro, hw2, decide_true, if_true, Option.bind_some]
      rfl) (fun p => by simp [palinglaw43_told_L2])]
    have hro : roomy 24 (q ++ [(getI m i).map cv43]) = true := by
      unfold roomy; rw [decide_eq_true_eq]; simp; omega
    simp only [id, Option.bind_some, hro, hw, if_true]) (fun q => by simp [palinglaw43_told_L1])]
  rfl
theorem told_get {i : Int} (hi : inL m i) : getI (told43 m) i = (getI m i).map cv43 := by
  have h := getI_get? hi
  unfold getI told43
  rw [List.getElem?_map, h]; rfl
theorem told_in {i : Int} : inL (told43 m) i ↔ inL m i := by unfold inL told43; simp
noncomputable def cellsT (v : ByteArray) (row : List Matrix_Cell) : ByteArray := row.zipIdx.foldl (fun s q => (s ++ (⟨#[32]⟩ : ByteArray)) ++ textI q.1.ports) v
theorem fold_size : ∀ (row : List Matrix_Cell) (k : Nat) (v : ByteArray), (∀ c ∈ row, okI .i64 c.ports) → ((row.zipIdx k).foldl (fun s q => (s ++ (⟨#[32]⟩ : ByteArray)) ++ textI q.1.ports) v).size ≤ v.size + 22 * row.length
  | [], k, v, _ => by simp
  | c :: r, k, v, h => by
    rw [List.zipIdx_cons, List.foldl_cons]
    have h1 := fold_size r (k + 1) ((v ++ (⟨#[32]⟩ : ByteArray)) ++ textI c.ports) (fun x hx => h x (by simp [hx]))
    have h2 := i64b43 (h c (by simp))
    have h3 := textI_len h2.1 h2.2
    rw [ByteArray.size_append, ByteArray.size_append] at h1
    have h4 : (⟨#[32]⟩ : ByteArray).size = 1 := rfl
    rw [List.length_cons]
    simp only at h1 ⊢
    omega
theorem sp_size : (⟨#[32]⟩ : ByteArray).size = 1 := rfl
theorem co_size : (⟨#[58]⟩ : ByteArray).size = 1 := rfl
theorem nl_size : (⟨#[10]⟩ : ByteArray).size = 1 := rfl
theorem wstr_is {s x : ByteArray} (h : s.size + x.size ≤ 1000000) : strings_Builder_WriteString_ownx (bts s) x = some () := by
  have hro : roomy 1 (bts s ++ bts x) = true := by
    unfold roomy; rw [decide_eq_true_eq, List.length_append, bts_length, bts_length]; omega
  simp only [strings_Builder_WriteString_ownx, strings_Builder_copyCheck_ownx, Option.bind_some, hro, if_true]
theorem wbyte_is {s : ByteArray} {c : Int} (h : s.size ≤ 1000000) : strings_Builder_WriteByte_own (bts s) c = some () := by
  have hro : roomy 1 (bts s ++ [c]) = true := by
    unfold roomy; rw [decide_eq_true_eq, List.length_append, bts_length]; simp; omega
  simp only [strings_Builder_WriteByte_own, strings_Builder_copyCheck_ownx, Option.bind_some, hro, if_true]
theorem mcells {row : List Matrix_Cell} {v : ByteArray} {x : Int} (hl : row.length ≤ 40) (hok : ∀ c ∈ row, okI .i64 c.ports) (hv : v.size ≤ 100000) :
    loopM (fun s : (List Int) × Int => match s with | (l51, v52) => matrix_Text_L3 names m x row l51 v52) (bts v, 0) = some (bts (cellsT v row)) := by
  refine loop_fold (f := fun s : (List Int) × Int => match s with | (l51, v52) => matrix_Text_L3 names m x row l51 v52) row (fun s i => (bts s, i)) (fun _ c s => (s ++ (⟨#[32]⟩ : ByteArray)) ++ textI c.ports) v (out := bts) (by omega) (fun i s => s.size ≤ v.size + 22 * i) (by simp) (fun i c s hc hi hs => ?_) (fun s hs => by simp [matrix_Text_L3])
  have h2 := i64b43 (hok c (List.mem_of_getElem? hc))
  have h3 := textI_len h2.1 h2.2
  have hw := wr64 (n := (i : Int) + 1) (by omega) (by omega)
  have hi' : ((i : Nat) : Int) < (row.length : Int) := by omega
  constructor
  · simp only [matrix_Text_L3, hi', decide_true, if_true]
    rw [nth_nat, hc, Option.bind_some, num_Text_spec h2.1 h2.2, Option.bind_some, if_pos (sadok43 (by rw [sp_size]; omega)), wstr_is (by rw [ByteArray.size_append, sp_size]; omega), Option.bind_some, hw, ByteArray.append_assoc, bts_append s]
  · rw [ByteArray.size_append, ByteArray.size_append, sp_size]; omega
theorem mcells2 {row : List Matrix_Cell} {v : ByteArray} (hl : row.length ≤ 40) (hok : ∀ c ∈ row, okI .i64 c.ports) (hv : v.size ≤ 100000) :
    loopM (fun s : (List Int) × Int => match s with | (l21, v22) => matrix_Text_L2 names m row l21 v22) (bts v, 0) = some (bts (cellsT v row)) := mcells (names := names) (m := m) (x := 0) hl hok hv
theorem rcells {row : List Matrix_Cell} {v : ByteArray} {x : Int} (hx : inL m x) (hxr : getI m x = row) (hl : row.length ≤ 40) (hok : ∀ c ∈ row, okI .i64 c.ports) (hv : v.size ≤ 100000) :
    loopM (fun s : ByteArray × Int => match s with | (v22, v23) => palingref43_Text_L3 names (told43 m) x v22 v23) (v, 0) = some (cellsT v row) := by
  have hxt : nth (told43 m) x = some (row.map cv43) := by rw [nth_getI (told_in.2 hx), told_get hx, hxr]
  refine loop_fold (f := fun s : ByteArray × Int => match s with | (v22, v23) => palingref43_Text_L3 names (told43 m) x v22 v23) row (fun s i => (s, i)) (fun _ c s => (s ++ (⟨#[32]⟩ : ByteArray)) ++ textI c.ports) v (out := id) (by omega) (fun i s => s.size ≤ v.size + 22 * i) (by simp) (fun i c s hc hi hs => ?_) (fun s hs => by simp [palingref43_Text_L3, hxt])
  have h2 := i64b43 (hok c (List.mem_of_getElem? hc))
  have h3 := textI_len h2.1 h2.2
  have hw := wr64 (n := (i : Int) + 1) (by omega) (by omega)
  have hi' : ((i : Nat) : Int) < ((row.map cv43).length : Int) := by rw [List.length_map]; omega
  constructor
  · simp only [palingref43_Text_L3]
    rw [hxt, Option.bind_some, if_pos (decide_eq_true hi'), if_pos (sadok43 (by rw [sp_size]; omega)), Option.bind_some, nth_nat, List.getElem?_map, hc]
    simp only [Option.map_some, Option.bind_some]
    rw [show (cv43 c).ports = c.ports from rfl, rText_spec h2.1 h2.2, Option.bind_some, if_pos (sadok43 (by rw [ByteArray.size_append, sp_size]; omega)), hw]
  · rw [ByteArray.size_append, ByteArray.size_append, sp_size]; omega
theorem cellsT_size {row : List Matrix_Cell} {v : ByteArray} (hok : ∀ c ∈ row, okI .i64 c.ports) : (cellsT v row).size ≤ v.size + 22 * row.length := fold_size row 0 v hok
noncomputable def rowT (v name : ByteArray) (row : List Matrix_Cell) : ByteArray := cellsT ((v ++ name) ++ (⟨#[58]⟩ : ByteArray)) row ++ (⟨#[10]⟩ : ByteArray)
noncomputable def tabT (names : List ByteArray) (m : List (List Matrix_Cell)) : ByteArray := m.zipIdx.foldl (fun s q => rowT s (getI names (q.2 : Int)) q.1) (⟨#[]⟩ : ByteArray)
structure Tab43 (names : List ByteArray) (m : List (List Matrix_Cell)) : Prop where
  len : m.length ≤ 40
  rows : ∀ r ∈ m, r.length ≤ 40
  same : names.length = m.length
  few : ∀ s ∈ names, s.size ≤ 300
  ok : ∀ r ∈ m, ∀ c ∈ r, okI .i64 c.ports
theorem bts_nl (s : ByteArray) : bts (s ++ (⟨#[10]⟩ : ByteArray)) = bts s ++ [10] := by rw [bts_append]; rfl
theorem mrow {s : ByteArray} {i : Nat} {row : List Matrix_Cell} (h : Tab43 names m) (hr : m[i]? = some row) (hs : s.size ≤ 1300 * i) :
    matrix_Text_L1 names m (bts s) i = some (.inl (bts (rowT s (getI names (i : Int)) row), (i : Int) + 1)) ∧ (rowT s (getI names (i : Int)) row).size ≤ 1300 * (i + 1) := by
  have hi := (List.getElem?_eq_some_iff.1 hr).1
  have h0 := h.len
  have hmem := List.mem_of_getElem? hr
  have h1 := h.rows row hmem
  have hn : inL names (i : Int) := ⟨by omega, by rw [h.same]; omega⟩
  have h2 := h.few _ (getI_mem hn)
  have hw := wr64 (n := (i : Int) + 1) (by omega) (by omega)
  have hi' : ((i : Nat) : Int) < (m.length : Int) := by omega
  have hz : ((s ++ getI names (i : Int)) ++ (⟨#[58]⟩ : ByteArray)).size = s.size + (getI names (i : Int)).size + 1 := by rw [ByteArray.size_append, ByteArray.size_append, co_size]
  have hc := cellsT_size (v := (s ++ getI names (i : Int)) ++ (⟨#[58]⟩ : ByteArray)) (h.ok row hmem)
  constructor
  · simp only [matrix_Text_L1, hi', decide_true, if_true]
    rw [nth_nat, hr, Option.bind_some, nth_getI hn, Option.bind_some, if_pos (sadok43 (by rw [co_size]; omega)), wstr_is (by rw [ByteArray.size_append, co_size]; omega), Option.bind_some, ← bts_append, ← ByteArray.append_assoc, mcells h1 (h.ok row hmem) (by omega), Option.bind_some]
    rw [wbyte_is (by omega), Option.bind_some, hw]
    unfold rowT
    rw [bts_nl]
  · unfold rowT
    rw [ByteArray.size_append, nl_size]; omega
theorem rrow {s : ByteArray} {i : Nat} {row : List Matrix_Cell} (h : Tab43 names m) (hr : m[i]? = some row) (hs : s.size ≤ 1300 * i) :
    palingref43_Text_L2 names (told43 m) s i = some (.inl (rowT s (getI names (i : Int)) row, (i : Int) + 1)) ∧ (rowT s (getI names (i : Int)) row).size ≤ 1300 * (i + 1) := by
  have hi := (List.getElem?_eq_some_iff.1 hr).1
  have h0 := h.len
  have hmem := List.mem_of_getElem? hr
  have h1 := h.rows row hmem
  have hn : inL names (i : Int) := ⟨by omega, by rw [h.same]; omega⟩
  have h2 := h.few _ (getI_mem hn)
  have hw := wr64 (n := (i : Int) + 1) (by omega) (by omega)
  have hi' : ((i : Nat) : Int) < ((told43 m).length : Int) := by unfold told43; rw [List.length_map]; omega
  have hz : ((s ++ getI names (i : Int)) ++ (⟨#[58]⟩ : ByteArray)).size = s.size + (getI names (i : Int)).size + 1 := by rw [ByteArray.size_append, ByteArray.size_append, co_size]
  have hc := cellsT_size (v := (s ++ getI names (i : Int)) ++ (⟨#[58]⟩ : ByteArray)) (h.ok row hmem)
  constructor
  · simp only [palingref43_Text_L2, hi', decide_true, if_true]
    rw [nth_getI hn, Option.bind_some, if_pos (sadok43 (by omega)), if_pos (sadok43 (by rw [ByteArray.size_append, co_size]; omega)), rcells (inL_nat hr) (getI_nat hr) h1 (h.ok row hmem) (by omega), Option.bind_some]
    rw [if_pos (sadok43 (by rw [nl_size]; omega)), hw]
    rfl
  · unfold rowT
    rw [ByteArray.size_append, nl_size]; omega
theorem mtab (h : Tab43 names m) : loopM (fun s : (List Int) × Int => match s with | (l11, v12) => matrix_Text_L1 names m l11 v12) ([], 0) = some (.inr (bts (tabT names m))) := by
  have h0 := h.len
  exact loop_fold (f := fun s : (List Int) × Int => match s with | (l11, v12) => matrix_Text_L1 names m l11 v12) m (fun s i => (bts s, i)) (fun i r s => rowT s (getI names (i : Int)) r) (⟨#[]⟩ : ByteArray) (out := fun s => .inr (bts s)) (by omega) (fun i s => s.size ≤ 1300 * i) (Nat.le_refl 0) (fun i r s hr hi hs => mrow h hr hs) (fun s hs => by simp [matrix_Text_L1])
theorem rtab (h : Tab43 names m) : loopM (fun s : ByteArray × Int => match s with | (v15, v16) => palingref43_Text_L2 names (told43 m) v15 v16) ((⟨#[]⟩ : ByteArray), 0) = some (tabT names m) := by
  have h0 := h.len
  exact loop_fold (f := fun s : ByteArray × Int => match s with | (v15, v16) => palingref43_Text_L2 names (told43 m) v15 v16) m (fun s i => (s, i)) (fun i r s => rowT s (getI names (i : Int)) r) (⟨#[]⟩ : ByteArray) (out := id) (by omega) (fun i s => s.size ≤ 1300 * i) (Nat.le_refl 0) (fun i r s hr hi hs => rrow h hr hs) (fun s hs => by simp [palingref43_Text_L2, told43])
theorem mnamed (hn : names.length ≤ 40) (hf : ∀ s ∈ names, s.size ≤ 300) : matrix_named names = some (decide (∀ s ∈ names, NameP s)) := by
  unfold matrix_named slices_ContainsFunc_string_named_1 slices_IndexFunc_string_named_1
  rw [loop_first (f := slices_IndexFunc_string_named_1_L1 names) names (fun s => ¬ NameP s) (by unfold Few; omega) (fun i i0 i1 hi => by
    have hw := wr64 (n := i + 1) (by omega) (by omega)
    have := hf _ (getI_mem hi)
    simp only [slices_IndexFunc_string_named_1_L1, matrix_named_1, i1, nth_getI hi, num_Name_spec (show (getI names i).size ≤ 1000000 by omega), hw, decide_true, if_true, Option.bind_some]
    by_cases c : NameP (getI names i) <;> simp [c]) (by simp [slices_IndexFunc_string_named_1_L1])]
  by_cases c : 0 ≤ fstI names (fun s => ¬ NameP s)
  · rw [if_pos c]
    have : ¬ ∀ s ∈ names, NameP s := fun h => by
      have := fstI_none_mem.2 (fun s hs (q : ¬ NameP s) => q (h s hs))
      omega
    simp [this, c]
  · rw [if_neg c]
    have : ∀ s ∈ names, NameP s := fun s hs => Classical.byContradiction (fstI_none_mem.1 (by omega : fstI names (fun s => ¬ NameP s) < 0) s hs)
    rw [decide_eq_true this]
    rfl
theorem rnamed (hn : names.length ≤ 40) (hf : ∀ s ∈ names, s.size ≤ 300) : palingref43_named names = some (decide (∀ s ∈ names, NameP s)) := by
  unfold palingref43_named
  rw [loop_each (f := palingref43_named_L1 names) names (fun _ s => NameP s) (.inl () : Unit ⊕ Unit) (.inr ()) (by unfold Few; omega) (fun i i0 i1 hi => by
    have hw := wr64 (n := i + 1) (by omega) (by omega)
    have := hf _ (getI_mem hi)
    simp only [palingref43_named_L1, i1, nth_getI hi, r03Name_spec (show (getI names i).size ≤ 1000000 by omega), hw, decide_true, if_true, Option.bind_some]
    by_cases c : NameP (getI names i) <;> simp [c]) (by simp [palingref43_named_L1])]
  by_cases c : EachP names (fun _ s => NameP s)
  · rw [if_pos c, decide_eq_true (show ∀ s ∈ names, NameP s from fun s hs => by obtain ⟨i, hi, rfl⟩ := mem_getI hs; exact c i hi)]; rfl
  · rw [if_neg c, decide_eq_false (fun h : ∀ s ∈ names, NameP s => c fun i hi => h _ (getI_mem hi))]; rfl
theorem msquare (hm : m.length ≤ 40) : slices_ContainsFunc_Cell_Text_1 m m = some (decide (¬ ∀ r ∈ m, r.length = m.length)) := by
  unfold slices_ContainsFunc_Cell_Text_1 slices_IndexFunc_Cell_Text_1
  rw [loop_first (f := slices_IndexFunc_Cell_Text_1_L1 m m) m (fun r => r.length ≠ m.length) (by unfold Few; omega) (fun i i0 i1 hi => by
    have hw := wr64 (n := i + 1) (by omega) (by omega)
    simp only [slices_IndexFunc_Cell_Text_1_L1, matrix_Text_1, i1, nth_getI hi, hw, decide_true, if_true, Option.bind_some]
    by_cases c : (getI m i).length = m.length <;> simp [c] <;> omega) (by simp [slices_IndexFunc_Cell_Text_1_L1])]
  by_cases c : 0 ≤ fstI m (fun r => r.length ≠ m.length)
  · rw [if_pos c]
    have : ¬ ∀ r ∈ m, r.length = m.length := fun h => by
      have := fstI_none_mem.2 (fun s hs (q : s.length ≠ m.length) => q (h s hs))
      omega
    simp only [Option.bind_some, this, not_false_eq_true, decide_true]
    simp [c]
  · rw [if_neg c]
    have : ∀ r ∈ m, r.length = m.length := fun s hs => Classical.byContradiction (fstI_none_mem.1 (by omega : fstI m (fun r => r.length ≠ m.length) < 0) s hs)
    rw [decide_eq_false (show ¬ ¬ ∀ r ∈ m, r.length = m.length from fun h => h this)]
    rfl
theorem rsquare (hm : m.length ≤ 40) : loopM (palingref43_Text_L1 names (told43 m)) 0 = if ∀ r ∈ m, r.length = m.length then some (.inr ()) else some (.inl ()) := by
  have hlen : (told43 m).length = m.length := by unfold told43; rw [List.length_map]
  rw [loop_each (f := palingref43_Text_L1 names (told43 m)) m (fun _ r => r.length = m.length) (.inl () : Unit ⊕ Unit) (.inr ()) (by unfold Few; omega) (fun i i0 i1 hi => by
    have hw := wr64 (n := i + 1) (by omega) (by omega)
    have i1' : i < ((told43 m).length : Int) := by rw [hlen]; exact i1
    simp only [palingref43_Text_L1, i1', nth_getI (told_in.2 hi), told_get hi, List.length_map, hw, decide_true, if_true, Option.bind_some]
    rw [hlen]
    by_cases c : (getI m i).length = m.length
    · rw [if_neg (by simp; omega), if_pos c]
    · rw [if_pos (by simp; omega), if_neg c]) (by simp [palingref43_Text_L1, hlen])]
  by_cases c : ∀ r ∈ m, r.length = m.length
  · rw [if_pos c, if_pos (show EachP m (fun _ r => r.length = m.length) from fun i hi => c _ (getI_mem hi))]
  · rw [if_neg c, if_neg (fun h : EachP m (fun _ r => r.length = m.length) => c fun r hr => by obtain ⟨i, hi, rfl⟩ := mem_getI hr; exact h i hi)]
theorem ByteArray.empty_append43 (s : ByteArray) : (⟨#[]⟩ : ByteArray) ++ s = s := ByteArray.empty_append
theorem row_pos {s n : ByteArray} {row : List Matrix_Cell} : 0 < (rowT s n row).size := by
  unfold rowT
  rw [ByteArray.size_append, nl_size]; omega
theorem tab_pos (h : Tab43 names m) (hm : m ≠ []) : 0 < (bts (tabT names m)).length := by
  rw [bts_length]
  have key : ∀ (l : List (List Matrix_Cell × Nat)) (s : ByteArray), 0 < s.size → 0 < (l.foldl (fun s q => rowT s (getI names (q.2 : Int)) q.1) s).size := by
    intro l
    induction l with
    | nil => intro s h; exact h
    | cons q t ih => intro s h; rw [List.foldl_cons]; exact ih _ row_pos
  cases m with
  | nil => exact absurd rfl hm
  | cons r t =>
    unfold tabT
    rw [List.zipIdx_cons, List.foldl_cons]
    exact key _ _ row_pos
noncomputable def texR (names : List ByteArray) (m : List (List Matrix_Cell)) : ByteArray × Int :=
  if names.length ≠ m.length ∨ (¬ ∀ r ∈ m, r.length = m.length) ∨ (¬ ∀ s ∈ names, NameP s) then ((⟨#[]⟩ : ByteArray), 2)
  else if 10 < m.length then ((⟨#[]⟩ : ByteArray), 3) else (tabT names m, 0)
theorem tabT_nil (h : m = []) : tabT names m = (⟨#[]⟩ : ByteArray) := by subst h; rfl
theorem tabT_size (h : Tab43 names m) : (tabT names m).size ≤ 1300 * m.length := by
  have key : ∀ (l : List (List Matrix_Cell)) (k : Nat) (s : ByteArray), (∀ j r, l[j]? = some r → m[k + j]? = some r) → s.size ≤ 1300 * k → ((l.zipIdx k).foldl (fun s q => rowT s (getI names (q.2 : Int)) q.1) s).size ≤ 1300 * (k + l.length) := by
    intro l
    induction l with
    | nil => intro k s _ hs; simpa using hs
    | cons r t ih =>
      intro k s hl hs
      rw [List.zipIdx_cons, List.foldl_cons]
      have h1 := (mrow h (hl 0 r rfl) hs).2
      have h2 := ih (k + 1) _ (fun j q hq => by have := hl (j + 1) q (by simpa using hq); rwa [show k + 1 + j = k + (j + 1) by omega]) h1
      rw [List.length_cons]
      have e : k + 1 + t.length = k + (t.length + 1) := by omega
      rw [e] at h2
      exact h2
  have := key m 0 (⟨#[]⟩ : ByteArray) (fun j r hr => by simpa using hr) (Nat.le_refl 0)
  simpa [tabT] using this
theorem loopP_is (h : Tab43 names m) : loopP (matrix_Text_L1z names m) (fun s : (List Int) × Int => match s with | (l11, v12) => matrix_Text_L1 names m l11 v12) = some (if m = [] then .inl () else .inr (bts (tabT names m))) := by
  by_cases hm : m = []
  · subst hm
    simp [loopP, matrix_Text_L1z]
  · rw [if_neg hm]
    have hl : 0 < m.length := List.length_pos_iff.2 hm
    have hr : m[0]? = some m[0] := List.getElem?_eq_getElem hl
    have h1 := mrow (s := (⟨#[]⟩ : ByteArray)) (i := 0) h hr (Nat.le_refl 0)
    have hu := mtab h
    have hb : bts (⟨#[]⟩ : ByteArray) = [] := rfl
    have h1' : matrix_Text_L1 names m [] 0 = some (.inl (bts (rowT (⟨#[]⟩ : ByteArray) (getI names 0) m[0]), 0 + 1)) := by
      have := h1.1
      rw [hb] at this
      exact this
    have hu := loopM_step43 (f := fun s : (List Int) × Int => match s with | (l11, v12) => matrix_Text_L1 names m l11 v12) (s0 := ([], 0)) h1' hu
    have hz : matrix_Text_L1z names m = some (.inl (bts (rowT (⟨#[]⟩ : ByteArray) (getI names 0) m[0]), 0 + 1)) := by
      have h0 := h.len
      have hmem := List.mem_of_getElem? hr
      have hrow := h.rows _ hmem
      have hn : inL names 0 := ⟨by omega, by rw [h.same]; omega⟩
      have h2 := h.few _ (getI_mem hn)
      have hz0 : (getI names 0 ++ (⟨#[58]⟩ : ByteArray)).size = (getI names 0).size + 1 := by rw [ByteArray.size_append, co_size]
      have hc := cellsT_size (v := getI names 0 ++ (⟨#[58]⟩ : ByteArray)) (h.ok _ hmem)
      have hw0 : strings_Builder_WriteString_own (getI names 0 ++ (⟨#[58]⟩ : ByteArray)) = some () := by
        have hro : roomy 1 (bts (getI names 0 ++ (⟨#[58]⟩ : ByteArray))) = true := by
          unfold roomy; rw [decide_eq_true_eq, bts_length]; omega
        simp only [strings_Builder_WriteString_own, strings_Builder_copyCheck_own, Option.bind_some, hro, if_true]
        rw [if_pos (decide_eq_true (by omega))]
      unfold matrix_Text_L1z
      rw [if_pos (decide_eq_true (by omega)), nth_zero, hr, Option.bind_some, nth_getI hn, Option.bind_some, if_pos (sadok43 (by rw [co_size]; omega)), hw0, Option.bind_some, mcells2 hrow (h.ok _ hmem) (by omega), Option.bind_some]
      simp only
      rw [wbyte_is (by omega), Option.bind_some]
      unfold rowT
      rw [bts_nl, ByteArray.empty_append43]
      rfl
    simp only [loopP, hz]
    exact hu
theorem mtext (hm : m.length ≤ 40) (hr : ∀ r ∈ m, r.length ≤ 40) (hn : names.length ≤ 40) (hf : ∀ s ∈ names, s.size ≤ 300) (hok : ∀ r ∈ m, ∀ c ∈ r, okI .i64 c.ports) : matrix_Text names m = some (texR names m) := by
  unfold matrix_Text texR
  rw [msquare hm, Option.bind_some]
  by_cases c1 : names.length = m.length
  case neg => rw [if_pos (by simp; omega), if_pos (.inl c1)]
  rw [if_neg (by simp; omega)]
  by_cases c2 : ∀ r ∈ m, r.length = m.length
  case neg => rw [decide_eq_true c2, if_pos (by rfl), if_pos (.inr (.inl c2))]
  rw [decide_eq_false (show ¬ ¬ ∀ r ∈ m, r.length = m.length from fun q => q c2), if_neg (by simp), mnamed hn hf, Option.bind_some]
  by_cases c3 : ∀ s ∈ names, NameP s
  case neg => rw [decide_eq_false c3, if_pos (by rfl), if_pos (.inr (.inr c3))]
  rw [decide_eq_true c3, if_neg (by simp), if_neg (show ¬ (names.length ≠ m.length ∨ (¬ ∀ r ∈ m, r.length = m.length) ∨ ¬ ∀ s ∈ names, NameP s) from by rintro (q | q | q); exact q c1; exact q c2; exact q c3)]
  by_cases c4 : 10 < m.length
  · rw [if_pos (decide_eq_true (by omega)), if_pos c4]
  rw [if_neg (by simp; omega), if_neg c4]
  have h : Tab43 names m := ⟨hm, hr, c1, hf, hok⟩
  rw [loopP_is h, Option.bind_some]
  by_cases c5 : m = []
  · rw [if_pos c5]
    simp only [strings_Builder_String_own, Option.bind_some]
    rw [tabT_nil c5]
  · rw [if_neg c5]
    have hz := tabT_size h
    have hpos : 0 < (bts (tabT names m)).length := tab_pos h c5
    simp only [strings_Builder_String_ownx, hpos, decide_true, if_true]
    rw [if_pos (bytok_bts (by omega)), Option.bind_some, bstr_bts]
theorem rtext (hm : m.length ≤ 40) (hr : ∀ r ∈ m, r.length ≤ 40) (hn : names.length ≤ 40) (hf : ∀ s ∈ names, s.size ≤ 300) (hok : ∀ r ∈ m, ∀ c ∈ r, okI .i64 c.ports) : palingref43_Text names (told43 m) = some (texR names m) := by
  have hlen : (told43 m).length = m.length := by unfold told43; rw [List.length_map]
  unfold palingref43_Text texR
  rw [hlen]
  by_cases c1 : names.length = m.length
  case neg => rw [if_pos (by simp; omega), if_pos (.inl c1)]
  rw [if_neg (by simp; omega), rnamed hn hf, Option.bind_some]
  by_cases c3 : ∀ s ∈ names, NameP s
  case neg => rw [decide_eq_false c3, if_pos (by rfl), if_pos (.inr (.inr c3))]
  rw [decide_eq_true c3, if_neg (by simp), rsquare hm]
  by_cases c2 : ∀ r ∈ m, r.length = m.length
  case neg =>
    rw [if_neg c2, Option.bind_some]
    simp only
    rw [if_pos (.inr (.inl c2))]
  rw [if_pos c2, Option.bind_some, if_neg (show ¬ (names.length ≠ m.length ∨ (¬ ∀ r ∈ m, r.length = m.length) ∨ ¬ ∀ s ∈ names, NameP s) from by rintro (q | q | q); exact q c1; exact q c2; exact q c3)]
  by_cases c4 : 10 < m.length
  · simp only
    rw [if_pos (decide_eq_true (by omega)), if_pos c4]
  simp only
  rw [if_neg (by simp; omega), if_neg c4, rtab ⟨hm, hr, c1, hf, hok⟩, Option.bind_some]
def ApP (m : List (List Matrix_Cell)) : Prop := EachP m fun s row => EachP row fun t c => s = t ∨ c.ports = 0
theorem mapart (hm : m.length ≤ 300) (hr : ∀ r ∈ m, r.length ≤ 300) : matrix_Apart m = some (decide (ApP m)) := by
  unfold matrix_Apart
  rw [loop_each (f := matrix_Apart_L1 m) m (fun s row => EachP row fun t c => s = t ∨ c.ports = 0) (.inl () : Unit ⊕ Unit) (.inr ()) (by unfold Few; omega) (fun i i0 i1 hi => by
    have hw := wr64 (n := i + 1) (by omega) (by omega)
    have hrow := hr _ (getI_mem hi)
    simp only [matrix_Apart_L1, i1, nth_getI hi, decide_true, if_true, Option.bind_some]
    rw [loop_each (f := matrix_Apart_L2 m i (getI m i)) (getI m i) (fun t c => i = t ∨ c.ports = 0) (.inl () : Unit ⊕ Unit) (.inr ()) (by unfold Few; omega) (fun k k0 k1 hk => by
      have hw2 := wr64 (n := k + 1) (by omega) (by omega)
      simp only [matrix_Apart_L2, k1, nth_getI hk, hw2, decide_true, if_true, Option.bind_some]
      by_cases c1 : i = k <;> by_cases c2 : (getI (getI m i) k).ports = 0 <;> simp [c1, c2]) (by simp [matrix_Apart_L2])]
    by_cases c : EachP (getI m i) (fun t c => i = t ∨ c.ports = 0)
    · rw [if_pos c, if_pos c, Option.bind_some, hw]
    · rw [if_neg c, if_neg c, Option.bind_some]) (by simp [matrix_Apart_L1])]
  by_cases c : ApP m
  · rw [if_pos (show EachP m _ from c), decide_eq_true c]; rfl
  · rw [if_neg (show ¬ EachP m _ from c), decide_eq_false c]; rfl
theorem rapart (hm : m.length ≤ 300) (hr : ∀ r ∈ m, r.length ≤ 300) : palingref43_Apart (told43 m) = some (decide (ApP m)) := by
  have hlen : (told43 m).length = m.length := by unfold told43; rw [List.length_map]
  unfold palingref43_Apart
  rw [loop_each (f := palingref43_Apart_L1 (told43 m)) m (fun s row => EachP row fun t c => s = t ∨ c.ports = 0) (.inl () : Unit ⊕ Unit) (.inr ()) (by unfold Few; omega) (fun i i0 i1 hi => by
    have hw := wr64 (n := i + 1) (by omega) (by omega)
    have hrow := hr _ (getI_mem hi)
    have i1' : i < ((told43 m).length : Int) := by rw [hlen]; exact i1
    simp only [palingref43_Apart_L1, i1', decide_true, if_true]
    rw [loop_each (f := palingref43_Apart_L2 (told43 m) i) (getI m i) (fun t c => i = t ∨ c.ports = 0) (.inl () : Unit ⊕ Unit) (.inr ()) (by unfold Few; omega) (fun k k0 k1 hk => by
      have hw2 := wr64 (n := k + 1) (by omega) (by omega)
      have hk' : inL ((getI m i).map cv43) k := ⟨hk.1, by rw [List.length_map]; exact hk.2⟩
      have k1' : k < (((getI m i).map cv43).length : Int) := by rw [List.length_map]; exact k1
      have hg : (getI ((getI m i).map cv43) k).ports = (getI (getI m i) k).ports := by
        have h := getI_get? hk
        unfold getI at h ⊢
        rw [List.getElem?_map, h]; rfl
      simp only [palingref43_Apart_L2, nth_getI (told_in.2 hi), told_get hi, k1', nth_getI hk', hg, hw2, decide_true, if_true, Option.bind_some]
      by_cases c1 : i = k <;> by_cases c2 : (getI (getI m i) k).ports = 0 <;> simp [c1, c2]) (by simp [palingref43_Apart_L2, nth_getI (told_in.2 hi), told_get hi])]
    by_cases c : EachP (getI m i) (fun t c => i = t ∨ c.ports = 0)
    · rw [if_pos c, if_pos c, Option.bind_some, hw]
    · rw [if_neg c, if_neg c, Option.bind_some]) (by simp [palingref43_Apart_L1, hlen])]
  by_cases c : ApP m
  · rw [if_pos (show EachP m _ from c), decide_eq_true c]; rfl
  · rw [if_neg (show ¬ EachP m _ from c), decide_eq_false c]; rfl
theorem long43 : palinglaw43_long names = some (decide (¬ (names.length ≤ 40 ∧ ∀ s ∈ names, s.size ≤ 300))) := by
  unfold palinglaw43_long
  by_cases h : names.length ≤ 40
  case neg => rw [if_pos (decide_eq_true (by omega)), decide_eq_true (show ¬ (names.length ≤ 40 ∧ ∀ s ∈ names, s.size ≤ 300) from fun q => h q.1)]
  rw [if_neg (by simp; omega), loop_each (f := palinglaw43_long_L1 names) names (fun _ s => s.size ≤ 300) (.inl () : Unit ⊕ Unit) (.inr ()) (by unfold Few; omega) (fun i i0 i1 hi => by
    have hw := wr64 (n := i + 1) (by omega) (by omega)
    simp only [palinglaw43_long_L1, i1, nth_getI hi, hw, decide_true, if_true, Option.bind_some]
    by_cases c : (getI names i).size ≤ 300
    · rw [if_neg (by simp; omega), if_pos c]
    · rw [if_pos (decide_eq_true (by omega)), if_neg c]) (by simp [palinglaw43_long_L1])]
  by_cases c : EachP names (fun _ s => s.size ≤ 300)
  · rw [if_pos c, decide_eq_false (show ¬ ¬ (names.length ≤ 40 ∧ ∀ s ∈ names, s.size ≤ 300) from fun q => q ⟨h, fun s hs => by obtain ⟨i, hi, rfl⟩ := mem_getI hs; exact c i hi⟩)]; rfl
  · rw [if_neg c, decide_eq_true (show ¬ (names.length ≤ 40 ∧ ∀ s ∈ names, s.size ≤ 300) from fun q => c fun i hi => q.2 _ (getI_mem hi))]; rfl
end
theorem works43 : palinglaw43_works = some true := by kernel_rfl
theorem matrixTexts (names : List ByteArray) (m : List (List Matrix_Cell)) (_ : okL okS names) (hm : okL (okL Matrix_Cell.Ok) m) : palinglaw43_MatrixTexts names m = some true := by
  unfold palinglaw43_MatrixTexts
  rw [works43]
  by_cases h1 : m.length ≤ 40
  case neg => rw [if_pos (decide_eq_true (by omega))]; rfl
  rw [if_neg (by simp; omega), long43, Option.bind_some]
  by_cases h2 : names.length ≤ 40 ∧ ∀ s ∈ names, s.size ≤ 300
  case neg => rw [decide_eq_true h2, if_pos rfl]; rfl
  rw [decide_eq_false (show ¬ ¬ (names.length ≤ 40 ∧ ∀ s ∈ names, s.size ≤ 300) from fun q => q h2), if_neg (by simp)]
  rw [loop_firstv (f := palinglaw43_MatrixTexts_L1 names m) m (fun r => ¬ r.length ≤ 40) (fun _ _ => true) (by unfold Few; omega) (fun i i0 i1 hi => by
    have hw := wr64 (n := i + 1) (by omega) (by omega)
    simp only [palinglaw43_MatrixTexts_L1, works43, i1, nth_getI hi, hw, decide_true, if_true, Option.bind_some]
    by_cases c : (getI m i).length ≤ 40
    · rw [if_neg (by simp; omega), if_neg (show ¬ ¬ (getI m i).length ≤ 40 from fun q => q c)]
    · rw [if_pos (decide_eq_true (by omega)), if_pos c]) (by simp [palinglaw43_MatrixTexts_L1])]
  by_cases h3 : 0 ≤ fstI m (fun r => ¬ r.length ≤ 40)
  · rw [if_pos h3]; rfl
  rw [if_neg h3, Option.bind_some]
  have hr : ∀ r ∈ m, r.length ≤ 40 := fun r hr => Classical.byContradiction (fstI_none_mem.1 (by omega : fstI m (fun r => ¬ r.length ≤ 40) < 0) r hr)
  have hok : ∀ r ∈ m, ∀ c ∈ r, okI .i64 c.ports := fun r hr c hc => ((hm.2 r hr).2 c hc).1
  have hr3 : ∀ r ∈ m, r.length ≤ 300 := fun r q => by have := hr r q; omega
  simp only [mtext h1 hr h2.1 h2.2 hok, told_spec (by omega : m.length ≤ 300) hr3, rtext h1 hr h2.1 h2.2 hok, mapart (by omega : m.length ≤ 300) hr3, rapart (by omega : m.length ≤ 300) hr3, Option.bind_some, seqB_dec, decide_true, if_true, beq_self_eq_true]
end Go.Eng
