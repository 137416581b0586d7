/- Plain laws of chapter 42: LabelsLists. -/
import Derived.Test.YtcclngfmkodgjaaGreatEngGV0
set_option linter.unusedVariables false
set_option linter.unusedSectionVars false
set_option linter.unusedSimpArgs false
namespace Go.Eng
open Go Classical
attribute [local congr] ite_cg

section
variable {n : Api_Net} {of : List Int}
noncomputable def picks (k : Nat) (P : Int → Prop) : List Int := ((List.range k).map fun (i : Nat) => (i : Int)).filter fun i => decide (P i)
theorem picks_succ {k : Nat} {P : Int → Prop} : picks (k + 1) P = if P (k : Int) then picks k P ++ [(k : Int)] else picks k P := by
  unfold picks
  rw [List.range_succ, List.map_append, List.filter_append]
  by_cases c : P (k : Int)
  · rw [if_pos c]; simp [c]
  · rw [if_neg c]; simp [c]
theorem picks_len {k : Nat} {P : Int → Prop} : (picks k P).length ≤ k := by
  unfold picks
  refine Nat.le_trans (List.length_filter_le _ _) (by simp)
theorem names_spec42 {x : Int} (x0 : 0 ≤ x) (x1 : x < 1000000000000) : labels_Names x = some (picks 10 (hasP x)) := by
  have e := loopM_trace (f := fun s : (List Int) × Int => match s with | (l2, v3) => labels_Names_L1 x l2 v3) (r := picks 10 (hasP x)) (fun k => (picks k (hasP x), (k : Int))) 10 (by decide) (fun k hk => by
    have hl := picks_len (k := k) (P := hasP x)
    simp only [labels_Names_L1]
    rw [if_pos (by simp; omega), has_spec x0 x1, Option.bind_some, wr64 (by omega) (by omega), picks_succ]
    by_cases c : hasP x (k : Int)
    · rw [if_pos (decide_eq_true c), if_pos (roomy_few (by simp; omega)), if_pos c]; rfl
    · rw [if_neg (by simpa using c), if_neg c]; rfl) (by simp only [labels_Names_L1]; rw [if_neg (by simp)])
  unfold labels_Names
  have e' : loopM (fun s : (List Int) × Int => match s with | (l2, v3) => labels_Names_L1 x l2 v3) ([], 0) = some (picks 10 (hasP x)) := e
  rw [e']; rfl
end
end Go.Eng
