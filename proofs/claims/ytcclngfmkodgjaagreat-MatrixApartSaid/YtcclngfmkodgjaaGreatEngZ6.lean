/- Chapter 43 (matrix): who gets to whom: MatrixTells. -/
import Derived.Test.YtcclngfmkodgjaaGreatEngZ5
import Derived.Test.YtcclngfmkodgjaaGreatEngGV0
set_option linter.unusedVariables false
set_option linter.unusedSectionVars false
set_option linter.unusedSimpArgs false
namespace Go.Eng
open Go Classical
attribute [local congr] ite_cg
section
variable {of sets : List Int}
def hit43 (of sets : List Int) (s t : Int) (k : Nat) : Prop := getI of (k : Int) = t ∧ hasP (getI sets (k : Int)) s
noncomputable def mny43 (of sets : List Int) (s t : Int) : Nat → Int × Int
  | 0 => (0, -1)
  | k + 1 => if hit43 of sets s t k then ((mny43 of sets s t k).1 + 1, if (mny43 of sets s t k).2 < 0 then (k : Int) else (mny43 of sets s t k).2) else mny43 of sets s t k
noncomputable def frm43 (of : List Int) (s : Int) : Int := fstI of fun x => x = s
noncomputable def cel43 (of sets : List Int) (s t : Int) (k : Nat) : Matrix_Cell := ⟨(mny43 of sets s t k).1, if 0 < (mny43 of sets s t k).1 then frm43 of s else -1, (mny43 of sets s t k).2⟩
theorem mny_bnd {s t : Int} : ∀ k, 0 ≤ (mny43 of sets s t k).1 ∧ (mny43 of sets s t k).1 ≤ k ∧ -1 ≤ (mny43 of sets s t k).2 ∧ (mny43 of sets s t k).2 < k ∧ ((mny43 of sets s t k).1 = 0 ↔ (mny43 of sets s t k).2 = -1)
  | 0 => by simp [mny43]
  | k + 1 => by
    have ih := mny_bnd (s := s) (t := t) k
    unfold mny43
    by_cases h : hit43 of sets s t k
    · rw [if_pos h]
      refine ⟨by simp only; omega, by simp only; omega, ?_, ?_, ?_⟩
      · simp only; split <;> omega
      · simp only; split <;> omega
      · simp only
        constructor
        · intro q; omega
        · intro q; split at q <;> omega
    · rw [if_neg h]
      exact ⟨ih.1, by omega, ih.2.2.1, by omega, ih.2.2.2.2⟩
theorem cel_succ {s t : Int} {k : Nat} : cel43 of sets s t (k + 1) = if hit43 of sets s t k then (if cel43 of sets s t k = ⟨0, -1, -1⟩ then ⟨1, frm43 of s, (k : Int)⟩ else { cel43 of sets s t k with ports := (cel43 of sets s t k).ports + 1 }) else cel43 of sets s t k := by
  have hb := mny_bnd (of := of) (sets := sets) (s := s) (t := t) k
  by_cases h : hit43 of sets s t k
  case neg => rw [if_neg h]; unfold cel43; rw [mny43, if_neg h]
  rw [if_pos h]
  by_cases h0 : (mny43 of sets s t k).1 = 0
  · have h1 := hb.2.2.2.2.1 h0
    have : cel43 of sets s t k = ⟨0, -1, -1⟩ := by unfold cel43; rw [h0, h1]; rfl
    rw [if_pos this]
    unfold cel43
    rw [mny43, if_pos h, h0, h1]
    simp
  · have hpos : 0 < (mny43 of sets s t k).1 := by omega
    have hto : ¬ (mny43 of sets s t k).2 < 0 := by
      intro q
      exact h0 (hb.2.2.2.2.2 (by omega))
    have : ¬ cel43 of sets s t k = ⟨0, -1, -1⟩ := by
      intro q
      have := congrArg Matrix_Cell.ports q
      exact h0 this
    rw [if_neg this]
    unfold cel43
    rw [mny43, if_pos h, if_neg hto]
    simp only
    rw [if_pos hpos, if_pos (by omega)]
noncomputable def row43 (of sets : List Int) (T k : Nat) (s : Int) : List Matrix_Cell := (List.range T).map fun (t : Nat) => cel43 of sets s (t : Int) k
noncomputable def tab43 (of sets : List Int) (T k : Nat) : List (List Matrix_Cell) := (List.range T).map fun (s : Nat) => row43 of sets T k (s : Int)
theorem rep43_0 : slices_Repeat_Cell [(⟨0, -1, -1⟩ : Matrix_Cell)] ((0 : Nat) : Int) = some (List.replicate 0 ⟨0, -1, -1⟩, 0) := by kernel_rfl
theorem rep43_1 : slices_Repeat_Cell [(⟨0, -1, -1⟩ : Matrix_Cell)] ((1 : Nat) : Int) = some (List.replicate 1 ⟨0, -1, -1⟩, 1) := by kernel_rfl
theorem rep43_2 : slices_Repeat_Cell [(⟨0, -1, -1⟩ : Matrix_Cell)] ((2 : Nat) : Int) = some (List.replicate 2 ⟨0, -1, -1⟩, 2) := by kernel_rfl
theorem rep43_3 : slices_Repeat_Cell [(⟨0, -1, -1⟩ : Matrix_Cell)] ((3 : Nat) : Int) = some (List.replicate 3 ⟨0, -1, -1⟩, 3) := by kernel_rfl
theorem rep43_4 : slices_Repeat_Cell [(⟨0, -1, -1⟩ : Matrix_Cell)] ((4 : Nat) : Int) = some (List.replicate 4 ⟨0, -1, -1⟩, 4) := by kernel_rfl
theorem rep43_5 : slices_Repeat_Cell [(⟨0, -1, -1⟩ : Matrix_Cell)] ((5 : Nat) : Int) = some (List.replicate 5 ⟨0, -1, -1⟩, 5) := by kernel_rfl
theorem rep43_6 : slices_Repeat_Cell [(⟨0, -1, -1⟩ : Matrix_Cell)] ((6 : Nat) : Int) = some (List.replicate 6 ⟨0, -1, -1⟩, 6) := by kernel_rfl
theorem rep43_7 : slices_Repeat_Cell [(⟨0, -1, -1⟩ : Matrix_Cell)] ((7 : Nat) : Int) = some (List.replicate 7 ⟨0, -1, -1⟩, 7) := by kernel_rfl
theorem rep43_8 : slices_Repeat_Cell [(⟨0, -1, -1⟩ : Matrix_Cell)] ((8 : Nat) : Int) = some (List.replicate 8 ⟨0, -1, -1⟩, 8) := by kernel_rfl
theorem rep43_9 : slices_Repeat_Cell [(⟨0, -1, -1⟩ : Matrix_Cell)] ((9 : Nat) : Int) = some (List.replicate 9 ⟨0, -1, -1⟩, 9) := by kernel_rfl
theorem rep43_10 : slices_Repeat_Cell [(⟨0, -1, -1⟩ : Matrix_Cell)] ((10 : Nat) : Int) = some (List.replicate 10 ⟨0, -1, -1⟩, 10) := by kernel_rfl
theorem repeat_none {T : Nat} (hT : T ≤ 10) : slices_Repeat_Cell [(⟨0, -1, -1⟩ : Matrix_Cell)] (T : Int) = some (List.replicate T ⟨0, -1, -1⟩, T) := by
  have h : T = 0 ∨ T = 1 ∨ T = 2 ∨ T = 3 ∨ T = 4 ∨ T = 5 ∨ T = 6 ∨ T = 7 ∨ T = 8 ∨ T = 9 ∨ T = 10 := by omega
  rcases h with rfl | rfl | rfl | rfl | rfl | rfl | rfl | rfl | rfl | rfl | rfl
  · exact rep43_0
  · exact rep43_1
  · exact rep43_2
  · exact rep43_3
  · exact rep43_4
  · exact rep43_5
  · exact rep43_6
  · exact rep43_7
  · exact rep43_8
  · exact rep43_9
  · exact rep43_10
theorem none43 : matrix_none = some ⟨0, -1, -1⟩ := by kernel_rfl
theorem tab43_zero {T : Nat} : tab43 of sets T 0 = List.replicate T (List.replicate T ⟨0, -1, -1⟩) := by
  have h : ∀ s : Int, row43 of sets T 0 s = List.replicate T ⟨0, -1, -1⟩ := fun s => by
    unfold row43
    rw [List.eq_replicate_iff]
    refine ⟨by simp, fun c hc => ?_⟩
    obtain ⟨t, _, rfl⟩ := List.mem_map.1 hc
    rfl
  unfold tab43
  rw [List.eq_replicate_iff]
  refine ⟨by simp, fun c hc => ?_⟩
  obtain ⟨s, _, rfl⟩ := List.mem_map.1 hc
  exact h _
theorem pmis43 {p : List Bool} {i : Nat} {b : Bool} (h : p[i]? = some b) : pmis p i b = true := by
  unfold pmis; rw [h]; simp
theorem mOf_rows {T : Nat} {l9 : List Int} {n10 : Nat} (hT : T ≤ 10) :
    loopM (fun q : (List (List Matrix_Cell)) × (List Bool) × Int => match q with | (l13, p14, v15) => matrix_Of_L1 of (T : Int) l9 n10 l13 p14 v15) (List.replicate T [], List.replicate T false, 0) = some (tab43 of sets T 0, List.replicate T true) := by
  have := loopM_trace (f := fun q : (List (List Matrix_Cell)) × (List Bool) × Int => match q with | (l13, p14, v15) => matrix_Of_L1 of (T : Int) l9 n10 l13 p14 v15) (r := (tab43 of sets T 0, List.replicate T true))
    (fun k => (List.replicate k (List.replicate T (⟨0, -1, -1⟩ : Matrix_Cell)) ++ List.replicate (T - k) [], List.replicate k true ++ List.replicate (T - k) false, (k : Int))) T (by omega) (fun k hk => by
      have hw := wr64 (n := (k : Int) + 1) (by omega) (by omega)
      have hg : (List.replicate k (List.replicate T (⟨0, -1, -1⟩ : Matrix_Cell)) ++ List.replicate (T - k) ([] : List Matrix_Cell))[k]? = some [] := by
        rw [List.getElem?_append_right (by simp)]
        simp only [List.length_replicate, Nat.sub_self]
        rw [List.getElem?_replicate, if_pos (by omega)]
      have hp : pmis (List.replicate k true ++ List.replicate (T - k) false) k false = true := pmis43 (by
        rw [List.getElem?_append_right (by simp)]
        simp only [List.length_replicate, Nat.sub_self]
        rw [List.getElem?_replicate, if_pos (by omega)])
      have hlin : lin (List.replicate k (List.replicate T (⟨0, -1, -1⟩ : Matrix_Cell)) ++ List.replicate (T - k) ([] : List Matrix_Cell)) (k : Int) = true := by
        rw [lin_dec]; exact decide_eq_true ⟨by omega, by simp; omega⟩
      simp only [matrix_Of_L1, Int.toNat_natCast]
      rw [if_pos (decide_eq_true (by omega)), hg, Option.bind_some, if_pos hp, none43, Option.bind_some, repeat_none hT, Option.bind_some]
      simp only
      rw [if_pos hlin, hw]
      have e1 : ∀ {α : Type} (x y : α), (List.replicate k x ++ List.replicate (T - k) y).set k x = List.replicate (k + 1) x ++ List.replicate (T - (k + 1)) y := by
        intro α x y
        rw [List.set_append_right _ _ (by simp), show T - k = (T - (k + 1)) + 1 by omega, List.replicate_succ]
        simp only [List.length_replicate, Nat.sub_self, List.set_cons_zero]
        rw [List.replicate_succ', List.append_assoc]
        rfl
      rw [e1, e1]
      simp) (by
      simp only [matrix_Of_L1, Int.toNat_natCast]
      rw [if_neg (by simp), tab43_zero]
      simp)
  simpa using this
end
end Go.Eng
