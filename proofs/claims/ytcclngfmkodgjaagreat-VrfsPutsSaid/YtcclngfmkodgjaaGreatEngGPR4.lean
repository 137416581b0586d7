/- Part of the proof of VrfsPuts: plain laws of the printed mirrors. No conditions. -/
import Derived.Test.YtcclngfmkodgjaaGreatEngGP1
import Derived.Test.YtcclngfmkodgjaaGreatEngGR15
import Derived.Test.YtcclngfmkodgjaaGreatEngGF1
set_option linter.unusedVariables false
set_option linter.unusedSectionVars false
set_option linter.unusedSimpArgs false
namespace Go.Eng
open Go Classical
attribute [local congr] ite_cg
section

end
end Go.Eng

set_option linter.unusedVariables false
set_option linter.unusedSectionVars false
set_option linter.unusedSimpArgs false
namespace Go.Eng
open Go Classical
attribute [local congr] ite_cg
section

end
end Go.Eng

set_option linter.unusedVariables false
set_option linter.unusedSectionVars false
set_option linter.unusedSimpArgs false
namespace Go.Eng
open Go Classical
attribute [local congr] ite_cg
def sizesL (l : Api_Line) : List Int := [(l.dev.size : Int), (l.port.size : Int), (l.peer.size : Int), (l.far.size : Int), (l.name.size : Int), (l.tagged.length : Int), (l.imports.length : Int), (l.exports.length : Int), (l.addrs.length : Int)]
theorem great12_in {l : Api_Line} {a : List Api_Line} {v4 v3 : Int} (h0 : 0 ≤ v3) (h1 : v3 ≤ 1000000) : ∃ r, loopM (fun s : Int × Int => match s with | (v24, v25) => palinglaw12_Great_L2 a v4 l l l l l l l l l v24 v25) (v3, 0) = some r ∧ ∀ s, r = .inr s → ∀ x ∈ sizesL l, x ≤ 300 := by
  have hpos : ∀ x ∈ sizesL l, 0 ≤ x := by intro x hx; simp [sizesL] at hx; omega
  have hlen : (sizesL l).length = 9 := rfl
  obtain ⟨r, e, h⟩ := loopM_rule (f := fun s : Int × Int => match s with | (v24, v25) => palinglaw12_Great_L2 a v4 l l l l l l l l l v24 v25)
    (fun s => 0 ≤ s.2 ∧ s.2 ≤ 9 ∧ 0 ≤ s.1 ∧ s.1 ≤ 1000000 + 300 * s.2 ∧ ∀ j : Int, 0 ≤ j → j < s.2 → getI (sizesL l) j ≤ 300) (fun r => ∀ s, r = .inr s → ∀ x ∈ sizesL l, x ≤ 300) (fun s => (9 - s.2).toNat) (s := (v3, 0)) (fun s hI => by
    obtain ⟨v, i⟩ := s
    obtain ⟨i0, i1, w0, w1, hall⟩ := hI
    simp only at i0 i1 w0 w1 hall
    by_cases c : i < 9
    · have hin : inL (sizesL l) i := ⟨i0, by rw [hlen]; exact c⟩
      have hp := hpos _ (getI_mem hin)
      have hn : nth (sizesL l) i = some (getI (sizesL l) i) := nth_getI hin
      have hlt : decide (i < ((sizesL l).length : Int)) = true := decide_eq_true (by rw [hlen]; exact c)
      have hw := wr64 (n := i + 1) (by omega) (by omega)
      by_cases c2 : getI (sizesL l) i > 300
      · refine ⟨.inr (.inl ()), ?_, fun s h => by cases h⟩
        show palinglaw12_Great_L2 a v4 l l l l l l l l l v i = _
        unfold palinglaw12_Great_L2
        show (if decide (i < ((sizesL l).length : Int)) = true then (nth (sizesL l) i).bind _ else _) = _
        rw [if_pos hlt, hn, Option.bind_some, if_pos (decide_eq_true c2)]
      · have hw2 := wr64 (n := v + getI (sizesL l) i) (by omega) (by omega)
        refine ⟨.inl (v + getI (sizesL l) i, i + 1), ?_, ⟨by simp only; omega, by simp only; omega, by simp only; omega, by simp only; omega, fun j j0 j1 => ?_⟩, by simp only; omega⟩
        · show palinglaw12_Great_L2 a v4 l l l l l l l l l v i = _
          unfold palinglaw12_Great_L2
          show (if decide (i < ((sizesL l).length : Int)) = true then (nth (sizesL l) i).bind _ else _) = _
          rw [if_pos hlt, hn, Option.bind_some, if_neg (by simpa using c2), hw, hw2]
        · simp only at j1
          by_cases e : j = i
          · rw [e]; omega
          · exact hall j j0 (by omega)
    · have hlt : ¬ decide (i < ((sizesL l).length : Int)) = true := by rw [hlen]; simpa using c
      refine ⟨.inr (.inr v), ?_, fun s _ x hx => ?_⟩
      · show palinglaw12_Great_L2 a v4 l l l l l l l l l v i = _
        unfold palinglaw12_Great_L2
        show (if decide (i < ((sizesL l).length : Int)) = true then (nth (sizesL l) i).bind _ else _) = _
        rw [if_neg hlt]
      · obtain ⟨j, hj, rfl⟩ := mem_getI hx
        have h2 := hj.2
        rw [hlen] at h2
        exact hall j hj.1 (by omega)) ⟨by simp, by simp, by simpa using h0, by simp; omega, fun j j0 j1 => by simp only at j1; omega⟩ (by simp only; omega)
  exact ⟨r, e, h⟩
theorem great12_spec {l : Api_Line} : ∃ b, palinglaw12_Great [l] = some b ∧ (b = false → ∀ x ∈ sizesL l, x ≤ 300) := by
  unfold palinglaw12_Great
  rw [if_neg (by simp)]
  have hin : inL [l] 0 := ⟨by omega, by simp⟩
  have hg : getI [l] 0 = l := rfl
  obtain ⟨r, e, h⟩ := great12_in (l := l) (a := [l]) (v4 := 0) (v3 := 0) (by omega) (by omega)
  have hs : (match ((0, 0) : Int × Int) with | (v3, v4) => palinglaw12_Great_L1 [l] v3 v4) = (match r with | Sum.inl () => some (.inr (.inl ())) | Sum.inr v31 => some (.inl (v31, 1))) := by
    show palinglaw12_Great_L1 [l] 0 0 = _
    unfold palinglaw12_Great_L1
    have hw : wr_i64 (0 + 1) = 1 := wr64 (by omega) (by omega)
    rw [if_pos (by simp)]
    simp only [nth_getI hin, hg, Option.bind_some, e, hw]
    rcases r with r | r <;> rfl
  rcases r with r | r
  · have := loopM_trace (f := fun s : Int × Int => match s with | (v3, v4) => palinglaw12_Great_L1 [l] v3 v4) (fun _ => ((0, 0) : Int × Int)) 0 (r := Sum.inl ()) (by omega) (fun i hi => by omega) hs
    rw [this]
    exact ⟨true, rfl, fun h => by cases h⟩
  · have := loopM_trace (f := fun s : Int × Int => match s with | (v3, v4) => palinglaw12_Great_L1 [l] v3 v4) (fun i => if i = 0 then ((0, 0) : Int × Int) else (r, 1)) 1 (r := Sum.inr r) (by omega) (fun i hi => by
      have : i = 0 := by omega
      subst this
      exact hs) (by
      show palinglaw12_Great_L1 [l] r 1 = _
      unfold palinglaw12_Great_L1
      rw [if_neg (by simp)])
    have e2 : loopM (fun s : Int × Int => match s with | (v3, v4) => palinglaw12_Great_L1 [l] v3 v4) (0, 0) = some (Sum.inr r) := this
    rw [e2]
    exact ⟨_, rfl, fun _ => h r rfl⟩
end Go.Eng

set_option linter.unusedVariables false
set_option linter.unusedSectionVars false
set_option linter.unusedSimpArgs false
namespace Go.Eng
open Go Classical
attribute [local congr] ite_cg
section

end
end Go.Eng

set_option linter.unusedVariables false
set_option linter.unusedSectionVars false
set_option linter.unusedSimpArgs false
namespace Go.Eng
open Go Classical
attribute [local congr] ite_cg

end Go.Eng

set_option linter.unusedVariables false
set_option linter.unusedSectionVars false
set_option linter.unusedSimpArgs false
namespace Go.Eng
open Go Classical
attribute [local congr] ite_cg
section

end
end Go.Eng

set_option linter.unusedVariables false
set_option linter.unusedSectionVars false
set_option linter.unusedSimpArgs false
namespace Go.Eng
open Go Classical
attribute [local congr] ite_cg
section

end
end Go.Eng

set_option linter.unusedVariables false
set_option linter.unusedSectionVars false
set_option linter.unusedSimpArgs false
namespace Go.Eng
open Go Classical

def LeL (l' l : List Int) : Prop := l'.length = l.length ∧ ∀ x, inL l x → getI l' x ≤ getI l x
theorem LeL.refl (l : List Int) : LeL l l := ⟨rfl, fun _ _ => Int.le_refl _⟩
theorem LeL.trans {a b c : List Int} (h : LeL a b) (g : LeL b c) : LeL a c :=
  ⟨h.1.trans g.1, fun x hx => Int.le_trans (h.2 x (by unfold inL at *; rw [g.1]; exact hx)) (g.2 x hx)⟩
theorem LeL.inL {a b : List Int} (h : LeL a b) {x : Int} : inL a x ↔ inL b x := by unfold Go.Eng.inL; rw [h.1]

section
variable {E : Int → Int → Prop} {N : Nat} {next : Int → List Int}
end
end Go.Eng

set_option linter.unusedVariables false
set_option linter.unusedSectionVars false
set_option linter.unusedSimpArgs false
namespace Go.Eng
open Go Classical
attribute [local congr] ite_cg
section

end
end Go.Eng

set_option linter.unusedVariables false
set_option linter.unusedSectionVars false
set_option linter.unusedSimpArgs false
namespace Go.Eng
open Go Classical
attribute [local congr] ite_cg

end Go.Eng

set_option linter.unusedVariables false
set_option linter.unusedSectionVars false
set_option linter.unusedSimpArgs false
namespace Go.Eng
open Go Classical
attribute [local congr] ite_cg
section

end
end Go.Eng

set_option linter.unusedVariables false
set_option linter.unusedSectionVars false
set_option linter.unusedSimpArgs false
namespace Go.Eng
open Go Classical

section

end

/-! ### How many roots -/
end Go.Eng

set_option linter.unusedVariables false
set_option linter.unusedSectionVars false
set_option linter.unusedSimpArgs false
namespace Go.Eng
open Go Classical
attribute [local congr] ite_cg

section

end

section

end

section

end
end Go.Eng

set_option linter.unusedVariables false
set_option linter.unusedSectionVars false
set_option linter.unusedSimpArgs false
namespace Go.Eng
open Go Classical
attribute [local congr] ite_cg

section
variable {n : Api_Net}
theorem rDevice_spec (hs : SmN n) {s : ByteArray} : palingref15_Device n s = some (devI n s) := by
  unfold palingref15_Device
  rw [loop_first n.devices (fun d => d.name = s) hs.devices (fun i h0 h1 h2 => by
    have := hs.devices
    simp (disch := omega) only [palingref15_Device_L1, seqB_dec, h1, nth_getI h2, wr64, bind_ite, Option.bind_some, dif1, dif2, dif3, dif4, dif5, dif6, dif7, dnot, ibeq, ibne, decide_eq_true_eq, if_not2, ge_iff_le, gt_iff_lt, fst_ret, Bool.false_eq_true, decide_false, decide_true, if_true]; split <;> rfl) (by simp [palingref15_Device_L1])]
  simp only [bind_ite, Option.bind_some, dif1, dif2, dif3, dif4, dif5, dif6, dif7, dnot, ibeq, ibne, decide_eq_true_eq, if_not2, ge_iff_le, gt_iff_lt, fst_ret, Bool.false_eq_true, decide_false]
  rfl
end
end Go.Eng
