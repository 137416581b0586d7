/- The plain law of LinksCrosses. -/
import Derived.Test.YtlinloabahbioaaEngP17
import Derived.Test.YtlinloabahbioaaEngR15
set_option linter.unusedVariables false
set_option linter.unusedSectionVars false
set_option linter.unusedSimpArgs false
namespace Go.Eng
open Go Classical
attribute [local congr] ite_cg
variable {n : Api_Net}

theorem rOther_spec (hs : SmN n) (hr : RightP n) {p : Int} : palingref17_Other n p = some (othI n p) := by
  unfold palingref17_Other
  rw [loop_firstv n.links (fun l => l.a = p ∨ l.b = p) (fun _ l => if l.a = p then l.b else l.a) hs.links (fun i h0 h1 h2 => by
    have := hs.links
    simp (disch := omega) only [palingref17_Other_L1, h1, nth_getI h2, wr64, bind_ite, Option.bind_some, dif1, dif2, dif3, dif4, dif5, dif6, dif7, dnot, ibeq, ibne, decide_eq_true_eq, if_not2, ge_iff_le, gt_iff_lt, fst_ret, Bool.false_eq_true, decide_false, decide_true, if_true]
    grind) (by simp [palingref17_Other_L1])]
  simp only [bind_ite, Option.bind_some, dif1, dif2, dif3, dif4, dif5, dif6, dif7, dnot, ibeq, ibne, decide_eq_true_eq, if_not2, ge_iff_le, gt_iff_lt, fst_ret, Bool.false_eq_true, decide_false]
  split
  · rename_i h
    have hk := fstI_inL.1 h
    have he := fstI_is h
    generalize fstI n.links (fun l => l.a = p ∨ l.b = p) = f at *
    obtain ⟨ha, hb, _, la, lb⟩ := hr.links f hk
    have hp : inL n.ports p ∧ (getI n.ports p).link = f := by
      rcases he with e | e
      · rw [← e]; exact ⟨ha, la⟩
      · rw [← e]; exact ⟨hb, lb⟩
    congr 1
    symm
    unfold othI
    rw [if_pos ⟨hr, hp.1, by rw [hp.2]; exact hk.1⟩, hp.2]
  · rename_i h
    have hn := fstI_none.1 (by omega : fstI n.links (fun l => l.a = p ∨ l.b = p) < 0)
    unfold othI
    rw [if_neg]
    rintro ⟨_, hp, hl⟩
    obtain ⟨hk, he⟩ := hr.link hp hl
    exact hn _ hk he

theorem links_Domain_spec (hs : SmN n) (hr : RightP n) {p v : Int} : links_Domain n p v = some (if (crossI n p v).2.2 = true then (domIx n.domains (getI n.ports (othI n p)).dev (toI n p (othI n p) v), true) else (0, false)) := by
  simp only [links_Domain, links_Cross_spec hs, Option.bind_some]
  unfold crossI
  by_cases h : 0 ≤ othI n p ∧ MemP (getI n.ports p) v ∧ toI n p (othI n p) v ≠ 0
  · have hO := othI_othP h.1
    simp only [if_pos h, Bool.not_true, Bool.false_eq_true, if_false, if_true, nth_getI hO.iq, Option.bind_some, names_Domain_spec hs, if_pos hr]
  · simp only [if_neg h, Bool.not_false, Bool.false_eq_true, if_false, if_true]

end Go.Eng
