/- Plain laws of chapter 35 (reach): the way told. -/
import Derived.Test.YtlinloabahbioaaEngW2
set_option linter.unusedVariables false
set_option linter.unusedSectionVars false
set_option linter.unusedSimpArgs false
namespace Go.Eng
open Go Classical
attribute [local congr] ite_cg

theorem getI_rev {α : Type} [Inhabited α] {l : List α} {i : Int} (h : inL l i) : getI l.reverse i = getI l ((l.length : Int) - 1 - i) := by
  have h0 := h.1; have h1 := h.2
  unfold getI
  rw [List.getElem?_reverse (by omega)]
  congr 2
  omega
theorem Reverse_spec {l : List Reach_Hop} (hl : Few l) : slices_Reverse_Hop_own l = some l.reverse := by
  unfold Few at hl
  have key : ∃ r, loopM (fun s : (List Reach_Hop) × Int × Int => match s with | (l2, v3, v4) => slices_Reverse_Hop_own_L1 l l2 v3 v4) (l, 0, (l.length : Int) - 1) = some r ∧ r = l.reverse := by
    refine loopM_rule (f := fun s : (List Reach_Hop) × Int × Int => match s with | (l2, v3, v4) => slices_Reverse_Hop_own_L1 l l2 v3 v4) (fun s => 0 ≤ s.2.1 ∧ s.2.1 ≤ s.2.2 + 1 + 1 ∧ s.2.1 + s.2.2 = (l.length : Int) - 1 ∧ s.1.length = l.length ∧ ∀ k, inL l k → getI s.1 k = if k < s.2.1 ∨ s.2.2 < k then getI l ((l.length : Int) - 1 - k) else getI l k) _ (fun s => (s.2.2 - s.2.1 + 2).toNat) (fun s hI => ?_) ⟨by simp, by simp only; omega, by simp only; omega, rfl, fun k hk => by have := hk.1; have := hk.2; rw [if_neg (by simp only; omega)]⟩ (by simp only; omega)
    obtain ⟨r, i, j⟩ := s
    obtain ⟨i0, ij, hij, hlen, hg⟩ := hI
    simp only at i0 ij hij hlen hg ⊢
    by_cases c : i < j
    · have hi : inL r i := ⟨i0, by omega⟩
      have hj : inL r j := ⟨by omega, by omega⟩
      have hj2 : inL (List.set r (Int.toNat i) (getI r j)) j := inL_setI.2 hj
      refine ⟨.inl (List.set (List.set r (Int.toNat i) (getI r j)) (Int.toNat j) (getI r i), i + 1, j - 1), ?_, ⟨by simp only; omega, by simp only; omega, by simp only; omega, by simp only [List.length_set]; exact hlen, fun k hk => ?_⟩, by simp only; omega⟩
      · simp only [slices_Reverse_Hop_own_L1]
        rw [if_pos (by simpa using c), if_pos (linT hj), getI_get? hj, Option.bind_some, if_pos (linT hi), getI_get? hi, Option.bind_some, Option.bind_some, if_pos (linT hj2), getI_get? hj2, Option.bind_some, wr64 (by omega) (by omega), wr64 (by omega) (by omega)]
      · have hkr : inL r k := ⟨hk.1, by have := hk.2; omega⟩
        have hil : inL l i := ⟨i0, by omega⟩
        have hjl : inL l j := ⟨by omega, by omega⟩
        simp only
        rw [getI_setI hj2 (inL_setI.2 hkr), getI_setI hi hkr]
        by_cases e1 : k = j
        · rw [if_pos e1, hg i hil, if_neg (by omega), if_pos (by omega)]
          congr 1; omega
        rw [if_neg e1]
        by_cases e2 : k = i
        · rw [if_pos e2, hg j hjl, if_neg (by omega), if_pos (by omega)]
          congr 1; omega
        rw [if_neg e2, hg k hk]
        by_cases e3 : k < i ∨ j < k
        · rw [if_pos e3, if_pos (by omega)]
        · rw [if_neg e3, if_neg (by omega)]
    · refine ⟨.inr r, by simp only [slices_Reverse_Hop_own_L1]; rw [if_neg (by simpa using c)], ?_⟩
      refine list_eqI.2 ⟨by simp [hlen], fun k hk => ?_⟩
      have hkl : inL l k := ⟨hk.1, by have := hk.2; omega⟩
      show getI r k = getI l.reverse k
      rw [getI_rev hkl, hg k hkl]
      by_cases e : k < i ∨ j < k
      · rw [if_pos e]
      · rw [if_neg e]; congr 1; omega
  obtain ⟨r, e, rfl⟩ := key
  simp only [slices_Reverse_Hop_own]
  rw [wr64 (by omega) (by omega), e]; rfl

section
variable {n : Api_Net}
/-- The way to a domain. -/
noncomputable def wayI (n : Api_Net) (a b : Int) : List Reach_Hop := getI (fullW n a) (fstI (fullW n a) fun w => endD domH w = b)
theorem wayI_at (hg : BndN n 200 100) (hr : RightP n) {a : Int} (ha : inL n.domains a) {j : Int} (hj : inL (fullW n a) j) : wayI n a (endD domH (getI (fullW n a) j)) = getI (fullW n a) j := by
  unfold wayI; rw [(full_good hg hr ha).fst hj]
theorem way_pos (hg : BndN n 200 100) (hr : RightP n) {a b : Int} (ha : inL n.domains a) : 0 ≤ DW domH (fullW n a) b ↔ ∃ j, inL (fullW n a) j ∧ endD domH (getI (fullW n a) j) = b := by
  rw [(full_good hg hr ha).DW_pos, mem_ends]
/-- The walk back. -/
theorem walk_spec {H : Int → List Reach_Hop} {N : Nat} {a : Int} {ws : List (List Reach_Hop)} {i : Int} {st ba : List Int} {fi : List Reach_Hop} (hN : N ≤ 200) {n1 : Api_Net} {n15 : Nat} (g : Good domH H N (rootH a) ws i) (hA : Arr N a ws st fi ba) {jb : Int} (hj : inL ws jb) :
    loopM (fun s : (List Reach_Hop) × Int => match s with | (l23, v24) => reach_Path_L1 n1 a st fi ba n15 l23 v24) ([getI fi (endD domH (getI ws jb))], endD domH (getI ws jb)) = some (getI ws jb).reverse := by
  have h0 : inL ws 0 := ⟨by omega, by have := g.pos; omega⟩
  have e0 : endD domH (getI ws 0) = a := by rw [g.root, endD_one]
  have hl := g.lens hj
  have hwl := g.len
  have hfi : ∀ j, inL ws j → ∃ w, getI ws j = w ++ [getI fi (endD domH (getI ws j))] := fun j hj => by
    by_cases j0 : j = 0
    · rw [j0, e0, hA.root, g.root]; exact ⟨[], rfl⟩
    · obtain ⟨k, _, _, e, _⟩ := hA.ba j hj (by have := hj.1; omega)
      exact ⟨_, e⟩
  have hinb : ∀ j, inL ws j → inL ba (endD domH (getI ws j)) ∧ inL fi (endD domH (getI ws j)) := fun j hj => by
    have := g.rng j hj
    have := hA.l3; have := hA.l2
    exact ⟨⟨by omega, by omega⟩, ⟨by omega, by omega⟩⟩
  obtain ⟨r, e, rfl⟩ := loopM_rule (f := fun s : (List Reach_Hop) × Int => match s with | (l23, v24) => reach_Path_L1 n1 a st fi ba n15 l23 v24)
    (fun s => ∃ j w, inL ws j ∧ s.2 = endD domH (getI ws j) ∧ getI ws j = w ++ [getI fi (endD domH (getI ws j))] ∧ getI ws jb = w ++ s.1.reverse) (fun r => r = (getI ws jb).reverse)
    (fun s => (fstI ws fun w => endD domH w = s.2).toNat) (s := ([getI fi (endD domH (getI ws jb))], endD domH (getI ws jb))) (fun s hI => by
      obtain ⟨l, v⟩ := s
      obtain ⟨j, w, hj1, rfl, e1, e2⟩ := hI
      simp only at e2 ⊢
      have hll : l.length ≤ 200 := by
        have := congrArg List.length e2
        simp at this
        have := hj.2
        omega
      by_cases c : endD domH (getI ws j) = a
      · have j0 : j = 0 := g.nd j 0 hj1 h0 (by rw [c, e0])
        subst j0
        refine ⟨.inr l, by simp only [reach_Path_L1]; rw [if_neg (by simpa using c)], ?_⟩
        rw [g.root] at e1
        have hw : w = [] := by
          have := congrArg List.length e1
          simp at this; exact this
        rw [e2, hw]; simp
      · have j0 : 0 < j := by
          have := hj1.1
          by_cases e : j = 0
          · rw [e, e0] at c; exact absurd rfl c
          · omega
        obtain ⟨k, k0, kj, e3, e4⟩ := hA.ba j hj1 j0
        have hk : inL ws k := ⟨k0, by have := hj1.2; omega⟩
        have hww : w = getI ws k := by
          rw [e3] at e1
          exact (List.append_inj' e1 rfl).1.symm
        obtain ⟨w', e5⟩ := hfi k hk
        obtain ⟨i1, _⟩ := hinb j hj1
        obtain ⟨_, i2⟩ := hinb k hk
        refine ⟨.inl (l ++ [getI fi (endD domH (getI ws k))], endD domH (getI ws k)), ?_, ⟨k, w', hk, rfl, e5, ?_⟩, ?_⟩
        · simp only [reach_Path_L1]
          rw [if_pos (by simpa using c), if_pos (linT i1), getI_get? i1, Option.bind_some, e4, if_pos (linT i2), getI_get? i2, Option.bind_some, if_pos (roomy_few (by simp; omega))]
        · rw [e2, hww, List.reverse_append]
          conv => lhs; rw [e5]
          simp
        · simp only
          rw [g.fst hk, g.fst hj1]; omega) ⟨jb, _, hj, rfl, (hfi jb hj).choose_spec, by rw [List.reverse_singleton]; exact (hfi jb hj).choose_spec⟩ (by simp only; rw [g.fst hj]; have := hj.2; omega)
  exact e
theorem reach_Path_no (hs : SmN n) {a b : Int} (h : ¬ (inL n.domains a ∧ RightP n) ∨ ¬ (inL n.domains b ∧ RightP n)) : reach_Path n a b = some ([], 0, false) := by
  by_cases h1 : inL n.domains a ∧ RightP n
  · have h2 := h.resolve_left (fun g => g h1)
    simp only [reach_Path, place_spec hs, Option.bind_some, decide_eq_false h2, decide_eq_true h1, Bool.not_false, Bool.not_true, Bool.false_eq_true, if_false, if_true]
  · simp only [reach_Path, place_spec hs, Option.bind_some, decide_eq_false h1, Bool.not_false, if_true]
theorem reach_Path_spec (hg : BndN n 200 100) (hr : RightP n) {a b : Int} (ha : inL n.domains a) (hb : inL n.domains b) :
    reach_Path n a b = some (if 0 ≤ DW domH (fullW n a) b then (wayI n a b, (wayI n a b).length, true) else ([], 0, false)) := by
  have hs := hg.sm
  obtain ⟨ws, i, st, fi, ba, e, g, hA, hp, h⟩ := find_spec hg hr ha hb
  have hF := full_good hg hr ha
  have hDD : 0 ≤ DW domH ws b ↔ 0 ≤ DW domH (fullW n a) b := by
    rw [g.DW_pos, hF.DW_pos]
    constructor
    · intro q
      obtain ⟨j, hj, rfl⟩ := mem_ends.1 q
      exact mem_ends.2 ⟨j, pre_in hp hj, by rw [pre_get hp hj]⟩
    · intro q
      rcases h with rfl | h
      · exact q
      · exact g.DW_pos.1 h.2
  have hi1 : inL st b := ⟨hb.1, by have := hA.l1; have := hb.2; omega⟩
  have hi2 : inL fi b := ⟨hb.1, by have := hA.l2; have := hb.2; omega⟩
  simp only [reach_Path, place_spec hs, Option.bind_some, decide_eq_true (show inL n.domains a ∧ RightP n from ⟨ha, hr⟩), decide_eq_true (show inL n.domains b ∧ RightP n from ⟨hb, hr⟩), Bool.not_true, Bool.false_eq_true, if_false, e]
  rw [if_pos (linT hi1), getI_get? hi1, Option.bind_some, hA.st b hi1]
  by_cases c : 0 ≤ DW domH (fullW n a) b
  · have c' := hDD.2 c
    rw [if_neg (by simpa using c'), if_pos (linT hi2), getI_get? hi2, Option.bind_some, if_pos c]
    obtain ⟨j, hj, rfl⟩ := mem_ends.1 (g.DW_pos.1 c')
    have hw : wayI n a (endD domH (getI ws j)) = getI ws j := by
      have := wayI_at hg hr ha (pre_in hp hj)
      rwa [pre_get hp hj] at this
    rw [hw, walk_spec hg.domains g hA hj, Option.bind_some]
    have hl := g.lens hj
    have := hj.2; have := g.len; have := hg.domains
    rw [Reverse_spec (by unfold Few; simp; omega)]
    simp
  · rw [if_neg c, if_pos (by have := mt hDD.1 c; simp; omega)]
end
end Go.Eng
