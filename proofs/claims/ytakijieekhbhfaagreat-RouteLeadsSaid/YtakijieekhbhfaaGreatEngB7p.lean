/- Chapter 28: LeavePorts. -/
import Derived.Test.YtakijieekhbhfaaGreatEngB7
set_option linter.unusedVariables false
set_option linter.unusedSectionVars false
set_option linter.unusedSimpArgs false
namespace Go.Eng
open Go Classical
attribute [local congr] ite_cg
section
variable {n : Api_Net}
theorem works28 : palinglaw28_works = some true := by kernel_rfl
theorem leavePorts (n : Api_Net) (p d : Int) (f : Api_Frame) (b : List Int) (_ : n.Ok) (_ : okI .i64 p) (_ : okI .i64 d) (hf : f.Ok) (hb : okL (okI .u8) b) : palinglaw28_LeavePorts n p d f b = some true := by
  unfold palinglaw28_LeavePorts
  rw [works28, Great_spec, Option.bind_some]
  by_cases hg : BndN n 200 100
  case neg => rw [if_pos (by simpa using hg)]; rfl
  rw [if_neg (by simpa using hg)]
  have hs := hg.sm
  by_cases c : (f.body.length : Int) > 4000
  · rw [if_pos (decide_eq_true c)]; rfl
  rw [if_neg (by simpa using c)]
  by_cases c2 : (b.length : Int) > 4000
  · rw [if_pos (decide_eq_true c2)]; rfl
  rw [if_neg (by simpa using c2), leave_At_spec hs, rLeave_At_spec hs hf]
  obtain ⟨l, k, q, dm, d', s, t, e, h1, h2⟩ := link_both hs (p := p) (bytes_ok hb) (by omega)
  rw [h1, h2]
  simp [seqB_self, same_self]
end
end Go.Eng
