/- Part of the proof of MatrixApart: plain laws of the printed mirrors. No conditions. -/
import Derived.Test.YtcclngfmkodgjaaGreatEngGV0
set_option linter.unusedVariables false
set_option linter.unusedSectionVars false
set_option linter.unusedSimpArgs false
namespace Go.Eng
open Go Classical
attribute [local congr] ite_cg

abbrev domH : Reach_Hop → Int := fun h => h.domain
abbrev rootH (a : Int) : Reach_Hop := ⟨0, 0, a, 0⟩
structure Arr (N : Nat) (a : Int) (ws : List (List Reach_Hop)) (st : List Int) (fi : List Reach_Hop) (ba : List Int) : Prop where
  l1 : st.length = N
  l2 : fi.length = N
  l3 : ba.length = N
  st : ∀ d, inL st d → getI st d = DW domH ws d
  root : getI fi a = rootH a
  ba : ∀ j, inL ws j → 0 < j → ∃ k, 0 ≤ k ∧ k < j ∧ getI ws j = getI ws k ++ [getI fi (endD domH (getI ws j))] ∧ getI ba (endD domH (getI ws j)) = endD domH (getI ws k)
section
variable {H : Int → List Reach_Hop} {N : Nat} {a : Int} {ws : List (List Reach_Hop)} {i : Int} {st ba : List Int} {fi : List Reach_Hop}
theorem Arr.add (ha : Arr N a ws st fi ba) (g : Good domH H N (rootH a) ws i) (hi : i < ws.length) {h : Reach_Hop} (hh : h ∈ H (endD domH (getI ws i))) (hN : 0 ≤ h.domain ∧ h.domain < N) (hf : h.domain ∉ ws.map (endD domH)) :
    Arr N a (ws ++ [getI ws i ++ [h]]) (List.set st (Int.toNat h.domain) (((getI ws i).length : Int) - 1 + 1)) (List.set fi (Int.toNat h.domain) h) (List.set ba (Int.toNat h.domain) (endD domH (getI ws i))) := by
  have ii : inL ws i := ⟨g.i0, hi⟩
  have g2 := (good_add g hi hh hN).1
  have e2 : addW domH (getI ws i) ws h = ws ++ [getI ws i ++ [h]] := by unfold addW; rw [if_neg hf]
  rw [e2] at g2
  have gL : getI (ws ++ [getI ws i ++ [h]]) (ws.length : Int) = getI ws i ++ [h] := getI_last
  have gA : ∀ j, inL ws j → getI (ws ++ [getI ws i ++ [h]]) j = getI ws j := fun j hj => getI_app hj
  have iL : inL (ws ++ [getI ws i ++ [h]]) (ws.length : Int) := inL_app1.2 (.inr rfl)
  have hno : ∀ j, inL ws j → endD domH (getI ws j) ≠ h.domain := fun j hj e => hf (mem_ends.2 ⟨j, hj, e⟩)
  have h1 : inL st h.domain := ⟨hN.1, by have := ha.l1; omega⟩
  have h2 : inL fi h.domain := ⟨hN.1, by have := ha.l2; omega⟩
  have h3 : inL ba h.domain := ⟨hN.1, by have := ha.l3; omega⟩
  have h0 : inL ws 0 := ⟨by omega, by have := g.pos; omega⟩
  have hra : a ≠ h.domain := fun e => hno 0 h0 (by rw [g.root, endD_one]; exact e)
  have hin : ∀ j, inL ws j → inL fi (endD domH (getI ws j)) ∧ inL ba (endD domH (getI ws j)) := fun j hj => by
    have := g.rng j hj
    have := ha.l2; have := ha.l3
    exact ⟨⟨by omega, by omega⟩, ⟨by omega, by omega⟩⟩
  have ia : inL fi a := by
    have := (hin 0 h0).1
    rwa [g.root, endD_one] at this
  refine ⟨by rw [List.length_set]; exact ha.l1, by rw [List.length_set]; exact ha.l2, by rw [List.length_set]; exact ha.l3, ?_, ?_, ?_⟩
  · intro d hd
    have hd := inL_setI.1 hd
    rw [getI_setI h1 hd]
    by_cases e : d = h.domain
    · rw [if_pos e, e]
      have := g2.DW_at iL
      rw [gL, endD_app] at this
      rw [this]; simp
    · rw [if_neg e, ha.st d hd]
      by_cases hm : d ∈ ws.map (endD domH)
      · obtain ⟨j, hj, rfl⟩ := mem_ends.1 hm
        have := g2.DW_at (inL_app hj)
        rw [gA j hj] at this
        rw [this, g.DW_at hj]
      · rw [DW_no hm, DW_no]
        rw [List.map_append, List.mem_append]
        rintro (q | q)
        · exact hm q
        · simp [endD_app] at q; exact e q
  · rw [getI_setI h2 ia, if_neg hra]; exact ha.root
  · intro j hj j0
    rcases inL_app1.1 hj with hj | rfl
    · obtain ⟨k, k0, kj, e, e'⟩ := ha.ba j hj j0
      have hk : inL ws k := ⟨k0, by have := hj.2; omega⟩
      refine ⟨k, k0, kj, ?_, ?_⟩
      · rw [gA j hj, gA k hk, getI_setI h2 (hin j hj).1, if_neg (hno j hj)]; exact e
      · rw [gA j hj, gA k hk, getI_setI h3 (hin j hj).2, if_neg (hno j hj)]; exact e'
    · refine ⟨i, g.i0, hi, ?_, ?_⟩
      · rw [gL, gA i ii, endD_app, getI_setI h2 h2, if_pos rfl]
      · rw [gL, gA i ii, endD_app, getI_setI h3 h3, if_pos rfl]
end
section
variable {n : Api_Net}
end
end Go.Eng

set_option linter.unusedVariables false
set_option linter.unusedSectionVars false
set_option linter.unusedSimpArgs false
namespace Go.Eng
open Go Classical
attribute [local congr] ite_cg

theorem getI_rev {α : Type} [Inhabited α] {l : List α} {i : Int} (h : inL l i) : getI l.reverse i = getI l ((l.length : Int) - 1 - i) := by
  have h0 := h.1; have h1 := h.2
  unfold getI
  rw [List.getElem?_reverse (by omega)]
  congr 2
  omega
theorem Reverse_spec {l : List Reach_Hop} (hl : Few l) : slices_Reverse_Hop_own l = some l.reverse := by
  unfold Few at hl
  have key : ∃ r, loopM (fun s : (List Reach_Hop) × Int × Int => match s with | (l2, v3, v4) => slices_Reverse_Hop_own_L1 l l2 v3 v4) (l, 0, (l.length : Int) - 1) = some r ∧ r = l.reverse := by
    refine loopM_rule (f := fun s : (List Reach_Hop) × Int × Int => match s with | (l2, v3, v4) => slices_Reverse_Hop_own_L1 l l2 v3 v4) (fun s => 0 ≤ s.2.1 ∧ s.2.1 ≤ s.2.2 + 1 + 1 ∧ s.2.1 + s.2.2 = (l.length : Int) - 1 ∧ s.1.length = l.length ∧ ∀ k, inL l k → getI s.1 k = if k < s.2.1 ∨ s.2.2 < k then getI l ((l.length : Int) - 1 - k) else getI l k) _ (fun s => (s.2.2 - s.2.1 + 2).toNat) (fun s hI => ?_) ⟨by simp, by simp only; omega, by simp only; omega, rfl, fun k hk => by have := hk.1; have := hk.2; rw [if_neg (by simp only; omega)]⟩ (by simp only; omega)
    obtain ⟨r, i, j⟩ := s
    obtain ⟨i0, ij, hij, hlen, hg⟩ := hI
    simp only at i0 ij hij hlen hg ⊢
    by_cases c : i < j
    · have hi : inL r i := ⟨i0, by omega⟩
      have hj : inL r j := ⟨by omega, by omega⟩
      have hj2 : inL (List.set r (Int.toNat i) (getI r j)) j := inL_setI.2 hj
      refine ⟨.inl (List.set (List.set r (Int.toNat i) (getI r j)) (Int.toNat j) (getI r i), i + 1, j - 1), ?_, ⟨by simp only; omega, by simp only; omega, by simp only; omega, by simp only [List.length_set]; exact hlen, fun k hk => ?_⟩, by simp only; omega⟩
      · simp only [slices_Reverse_Hop_own_L1]
        rw [if_pos (by simpa using c), if_pos (linT hj), getI_get? hj, Option.bind_some, if_pos (linT hi), getI_get? hi, Option.bind_some, Option.bind_some, if_pos (linT hj2), getI_get? hj2, Option.bind_some, wr64 (by omega) (by omega), wr64 (by omega) (by omega)]
      · have hkr : inL r k := ⟨hk.1, by have := hk.2; omega⟩
        have hil : inL l i := ⟨i0, by omega⟩
        have hjl : inL l j := ⟨by omega, by omega⟩
        simp only
        rw [getI_setI hj2 (inL_setI.2 hkr), getI_setI hi hkr]
        by_cases e1 : k = j
        · rw [if_pos e1, hg i hil, if_neg (by omega), if_pos (by omega)]
          congr 1; omega
        rw [if_neg e1]
        by_cases e2 : k = i
        · rw [if_pos e2, hg j hjl, if_neg (by omega), if_pos (by omega)]
          congr 1; omega
        rw [if_neg e2, hg k hk]
        by_cases e3 : k < i ∨ j < k
        · rw [if_pos e3, if_pos (by omega)]
        · rw [if_neg e3, if_neg (by omega)]
    · refine ⟨.inr r, by simp only [slices_Reverse_Hop_own_L1]; rw [if_neg (by simpa using c)], ?_⟩
      refine list_eqI.2 ⟨by simp [hlen], fun k hk => ?_⟩
      have hkl : inL l k := ⟨hk.1, by have := hk.2; omega⟩
      show getI r k = getI l.reverse k
      rw [getI_rev hkl, hg k hkl]
      by_cases e : k < i ∨ j < k
      · rw [if_pos e]
      · rw [if_neg e]; congr 1; omega
  obtain ⟨r, e, rfl⟩ := key
  simp only [slices_Reverse_Hop_own]
  rw [wr64 (by omega) (by omega), e]; rfl

section
variable {n : Api_Net}
end
end Go.Eng
