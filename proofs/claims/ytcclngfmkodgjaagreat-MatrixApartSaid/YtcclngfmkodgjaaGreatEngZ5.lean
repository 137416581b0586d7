/- Chapter 43 (matrix): tables as texts: MatrixTexts. -/
import Derived.Test.YtcclngfmkodgjaaGreatEngGP1
import Derived.Test.YtcclngfmkodgjaaGreatEngQ1
import Derived.Test.YtcclngfmkodgjaaGreatEngT0
import Derived.Test.YtcclngfmkodgjaaGreatMAM
set_option linter.unusedVariables false
set_option linter.unusedSectionVars false
set_option linter.unusedSimpArgs false
namespace Go.Eng
open Go Classical
attribute [local congr] ite_cg
section
variable {m : List (List Matrix_Cell)} {names : List ByteArray}
def ApP (m : List (List Matrix_Cell)) : Prop := EachP m fun s row => EachP row fun t c => s = t ∨ c.ports = 0
theorem mapart (hm : m.length ≤ 300) (hr : ∀ r ∈ m, r.length ≤ 300) : matrix_Apart m = some (decide (ApP m)) := by
  unfold matrix_Apart
  rw [loop_each (f := matrix_Apart_L1 m) m (fun s row => EachP row fun t c => s = t ∨ c.ports = 0) (.inl () : Unit ⊕ Unit) (.inr ()) (by unfold Few; omega) (fun i i0 i1 hi => by
    have hw := wr64 (n := i + 1) (by omega) (by omega)
    have hrow := hr _ (getI_mem hi)
    simp only [matrix_Apart_L1, i1, nth_getI hi, decide_true, if_true, Option.bind_some]
    rw [loop_each (f := matrix_Apart_L2 m i (getI m i)) (getI m i) (fun t c => i = t ∨ c.ports = 0) (.inl () : Unit ⊕ Unit) (.inr ()) (by unfold Few; omega) (fun k k0 k1 hk => by
      have hw2 := wr64 (n := k + 1) (by omega) (by omega)
      simp only [matrix_Apart_L2, k1, nth_getI hk, hw2, decide_true, if_true, Option.bind_some]
      by_cases c1 : i = k <;> by_cases c2 : (getI (getI m i) k).ports = 0 <;> simp [c1, c2]) (by simp [matrix_Apart_L2])]
    by_cases c : EachP (getI m i) (fun t c => i = t ∨ c.ports = 0)
    · rw [if_pos c, if_pos c, Option.bind_some, hw]
    · rw [if_neg c, if_neg c, Option.bind_some]) (by simp [matrix_Apart_L1])]
  by_cases c : ApP m
  · rw [if_pos (show EachP m _ from c), decide_eq_true c]; rfl
  · rw [if_neg (show ¬ EachP m _ from c), decide_eq_false c]; rfl
end
theorem works43 : palinglaw43_works = some true := by kernel_rfl
end Go.Eng
