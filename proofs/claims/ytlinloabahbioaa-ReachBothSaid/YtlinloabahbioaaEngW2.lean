/- Plain laws of chapter 35 (reach): what the program finds. -/
import Derived.Test.YtlinloabahbioaaEngW1
set_option linter.unusedVariables false
set_option linter.unusedSectionVars false
set_option linter.unusedSimpArgs false
namespace Go.Eng
open Go Classical
attribute [local congr] ite_cg

theorem mul_small {N : Nat} (h : N ≤ 200) : math_bits_Mul (wr_u64 1) (wr_u64 (N : Int)) = some (0, (N : Int)) := by
  have key : ∀ N : Fin 201, math_bits_Mul (wr_u64 1) (wr_u64 (N.val : Int)) = some (0, (N.val : Int)) := by decide +kernel
  exact key ⟨N, by omega⟩
theorem Repeat_spec {x : Int} {N : Nat} (h : N ≤ 200) : slices_Repeat_int [x] (N : Int) = some (List.replicate N x, N) := by
  have hw := wr64 (n := (N : Int)) (by omega) (by omega)
  have hmk : mkok 8 (N : Int) (N : Int) = true := by unfold mkok; simp; omega
  have h1 := mul_small h
  have hlen1 : (([x] : List Int).length : Int) = 1 := rfl
  simp only [slices_Repeat_int, hlen1, h1, Option.bind_some, hw, hmk, if_true, Int.toNat_natCast]
  rw [if_neg (by simp), if_neg (by simp), if_neg (by simp; omega)]
  by_cases h0 : N = 0
  · subst h0
    have e : loopM (fun s : (List Int) × Int => match s with | (l9, v10) => slices_Repeat_int_L1 (0, ((0 : Nat) : Int)) l9 v10) ([], 0) = some [] :=
      loopM_trace (f := fun s : (List Int) × Int => match s with | (l9, v10) => slices_Repeat_int_L1 (0, ((0 : Nat) : Int)) l9 v10) (fun _ => ([], 0)) 0 (by decide) (fun i hi => by omega) (by simp only [slices_Repeat_int_L1]; rw [if_neg (by rw [wr64 (by decide) (by decide)]; decide)])
    exact congrArg (fun o : Option (List Int) => o.bind fun l16 => some (l16, 0)) e
  have key : ∃ r, loopM (fun s : (List Int) × Int => match s with | (l9, v10) => slices_Repeat_int_L1 (0, (N : Int)) l9 v10) (x :: List.replicate (N - 1) 0, 1) = some r ∧ r = List.replicate N x := by
    refine loopM_rule (f := fun s : (List Int) × Int => match s with | (l9, v10) => slices_Repeat_int_L1 (0, (N : Int)) l9 v10) (fun s => ∃ v : Nat, 1 ≤ v ∧ v ≤ N ∧ s = (List.replicate v x ++ List.replicate (N - v) 0, (v : Int))) _ (fun s => N - s.2.toNat) (fun s hs => ?_) ⟨1, by omega, by omega, by simp⟩ (by simp; omega)
    obtain ⟨v, v1, v2, rfl⟩ := hs
    by_cases c : v = N
    · subst c
      refine ⟨.inr (List.replicate v x), ?_, rfl⟩
      simp only [slices_Repeat_int_L1]
      rw [if_neg (by rw [hw]; simp)]
      simp
    have hvN : v < N := by omega
    refine ⟨.inl (List.replicate (v + min v (N - v)) x ++ List.replicate (N - (v + min v (N - v))) 0, ((v + min v (N - v) : Nat) : Int)), ?_, ⟨v + min v (N - v), by omega, by omega, rfl⟩, by simp only; omega⟩
    have hlen : (List.replicate v x ++ List.replicate (N - v) (0 : Int)).length = N := by simp; omega
    simp only [slices_Repeat_int_L1, hlen]
    rw [if_pos (by rw [hw]; simpa using hvN), if_pos (by rw [slok_dec]; simp; omega), if_pos (by rw [slok_dec]; simp; omega)]
    have t1 : List.take v (List.replicate v x ++ List.replicate (N - v) (0 : Int)) = List.replicate v x := by rw [List.take_append_of_le_length (by simp)]; simp
    simp only [Int.toNat_natCast, Int.toNat_zero, List.drop_zero, t1, List.length_replicate]
    have hm : min v (N - v) ≤ v := by omega
    have t2 : List.take (min v (N - v)) (List.replicate v x) = List.replicate (min v (N - v)) x := by rw [List.take_replicate]; congr 1; omega
    have t3 : List.drop (v + min v (N - v)) (List.replicate v x ++ List.replicate (N - v) (0 : Int)) = List.replicate (N - (v + min v (N - v))) 0 := by
      rw [List.drop_append, List.drop_replicate, List.drop_replicate]
      simp
      omega
    rw [t2, t3, ← List.append_assoc, List.replicate_append_replicate, wr64 (by omega) (by omega)]
    simp
  obtain ⟨r, e, rfl⟩ := key
  have hN1 : 1 ≤ N := by omega
  have e1 : min 1 N = 1 := by omega
  simp only [List.length_singleton, List.length_replicate, Nat.sub_zero, e1, List.take_zero, List.nil_append, Nat.zero_add, List.drop_replicate] 
  simp only [List.take_succ_cons, List.take_zero, List.singleton_append]
  have e' := e
  simp only [Int.natCast_one] at e' ⊢
  rw [e']; rfl

abbrev domH : Reach_Hop → Int := fun h => h.domain
abbrev rootH (a : Int) : Reach_Hop := ⟨0, 0, a, 0⟩
/-- What is kept of the ways: how long one is, its last hop, and whence that goes. -/
structure Arr (N : Nat) (a : Int) (ws : List (List Reach_Hop)) (st : List Int) (fi : List Reach_Hop) (ba : List Int) : Prop where
  l1 : st.length = N
  l2 : fi.length = N
  l3 : ba.length = N
  st : ∀ d, inL st d → getI st d = DW domH ws d
  root : getI fi a = rootH a
  ba : ∀ j, inL ws j → 0 < j → ∃ k, 0 ≤ k ∧ k < j ∧ getI ws j = getI ws k ++ [getI fi (endD domH (getI ws j))] ∧ getI ba (endD domH (getI ws j)) = endD domH (getI ws k)
section
variable {H : Int → List Reach_Hop} {N : Nat} {a : Int} {ws : List (List Reach_Hop)} {i : Int} {st ba : List Int} {fi : List Reach_Hop}
theorem Arr.add (ha : Arr N a ws st fi ba) (g : Good domH H N (rootH a) ws i) (hi : i < ws.length) {h : Reach_Hop} (hh : h ∈ H (endD domH (getI ws i))) (hN : 0 ≤ h.domain ∧ h.domain < N) (hf : h.domain ∉ ws.map (endD domH)) :
    Arr N a (ws ++ [getI ws i ++ [h]]) (List.set st (Int.toNat h.domain) (((getI ws i).length : Int) - 1 + 1)) (List.set fi (Int.toNat h.domain) h) (List.set ba (Int.toNat h.domain) (endD domH (getI ws i))) := by
  have ii : inL ws i := ⟨g.i0, hi⟩
  have g2 := (good_add g hi hh hN).1
  have e2 : addW domH (getI ws i) ws h = ws ++ [getI ws i ++ [h]] := by unfold addW; rw [if_neg hf]
  rw [e2] at g2
  have gL : getI (ws ++ [getI ws i ++ [h]]) (ws.length : Int) = getI ws i ++ [h] := getI_last
  have gA : ∀ j, inL ws j → getI (ws ++ [getI ws i ++ [h]]) j = getI ws j := fun j hj => getI_app hj
  have iL : inL (ws ++ [getI ws i ++ [h]]) (ws.length : Int) := inL_app1.2 (.inr rfl)
  have hno : ∀ j, inL ws j → endD domH (getI ws j) ≠ h.domain := fun j hj e => hf (mem_ends.2 ⟨j, hj, e⟩)
  have h1 : inL st h.domain := ⟨hN.1, by have := ha.l1; omega⟩
  have h2 : inL fi h.domain := ⟨hN.1, by have := ha.l2; omega⟩
  have h3 : inL ba h.domain := ⟨hN.1, by have := ha.l3; omega⟩
  have h0 : inL ws 0 := ⟨by omega, by have := g.pos; omega⟩
  have hra : a ≠ h.domain := fun e => hno 0 h0 (by rw [g.root, endD_one]; exact e)
  have hin : ∀ j, inL ws j → inL fi (endD domH (getI ws j)) ∧ inL ba (endD domH (getI ws j)) := fun j hj => by
    have := g.rng j hj
    have := ha.l2; have := ha.l3
    exact ⟨⟨by omega, by omega⟩, ⟨by omega, by omega⟩⟩
  have ia : inL fi a := by
    have := (hin 0 h0).1
    rwa [g.root, endD_one] at this
  refine ⟨by rw [List.length_set]; exact ha.l1, by rw [List.length_set]; exact ha.l2, by rw [List.length_set]; exact ha.l3, ?_, ?_, ?_⟩
  · intro d hd
    have hd := inL_setI.1 hd
    rw [getI_setI h1 hd]
    by_cases e : d = h.domain
    · rw [if_pos e, e]
      have := g2.DW_at iL
      rw [gL, endD_app] at this
      rw [this]; simp
    · rw [if_neg e, ha.st d hd]
      by_cases hm : d ∈ ws.map (endD domH)
      · obtain ⟨j, hj, rfl⟩ := mem_ends.1 hm
        have := g2.DW_at (inL_app hj)
        rw [gA j hj] at this
        rw [this, g.DW_at hj]
      · rw [DW_no hm, DW_no]
        rw [List.map_append, List.mem_append]
        rintro (q | q)
        · exact hm q
        · simp [endD_app] at q; exact e q
  · rw [getI_setI h2 ia, if_neg hra]; exact ha.root
  · intro j hj j0
    rcases inL_app1.1 hj with hj | rfl
    · obtain ⟨k, k0, kj, e, e'⟩ := ha.ba j hj j0
      have hk : inL ws k := ⟨k0, by have := hj.2; omega⟩
      refine ⟨k, k0, kj, ?_, ?_⟩
      · rw [gA j hj, gA k hk, getI_setI h2 (hin j hj).1, if_neg (hno j hj)]; exact e
      · rw [gA j hj, gA k hk, getI_setI h3 (hin j hj).2, if_neg (hno j hj)]; exact e'
    · refine ⟨i, g.i0, hi, ?_, ?_⟩
      · rw [gL, gA i ii, endD_app, getI_setI h2 h2, if_pos rfl]
      · rw [gL, gA i ii, endD_app, getI_setI h3 h3, if_pos rfl]
end
section
variable {n : Api_Net}
/-- All ways from a domain. -/
noncomputable def fullW (n : Api_Net) (a : Int) : List (List Reach_Hop) := runW domH (hopsI n) (rootH a) n.domains.length
theorem take_succ_foldl {α β : Type} {f : β → α → β} {l : List α} {b : β} {k : Nat} {x : α} (h : l[k]? = some x) : (l.take (k + 1)).foldl f b = f ((l.take k).foldl f b) x := by
  rw [List.take_add_one, h]; simp
theorem find_in (hg : BndN n 200 100) (hr : RightP n) {a b : Int} {n7 : Nat} {v20 : Int} {ws : List (List Reach_Hop)} {i : Int} (g : Good domH (hopsI n) n.domains.length (rootH a) ws i) (hi : i < ws.length) (hb : inL n.domains b)
    {st ba : List Int} {fi : List Reach_Hop} (hA : Arr n.domains.length a ws st fi ba) :
    ∃ r, loopM (fun s : (List Int) × (List Reach_Hop) × (List Int) × (List Int) × Int => match s with | (l28, l29, l30, l31, v32) => reach_find_L2 n a b n7 v20 (endD domH (getI ws i)) (hopsI n (endD domH (getI ws i))) l28 l29 l30 l31 v32) (st, fi, ba, ws.map (endD domH), 0) = some r ∧
      match r with
      | .inl (st', fi', ba') => ∃ ws', ws' <+: (hopsI n (endD domH (getI ws i))).foldl (addW domH (getI ws i)) ws ∧ Good domH (hopsI n) n.domains.length (rootH a) ws' i ∧ Arr n.domains.length a ws' st' fi' ba' ∧ b ≠ a ∧ 0 ≤ DW domH ws' b
      | .inr (st', fi', ba', q) => Arr n.domains.length a ((hopsI n (endD domH (getI ws i))).foldl (addW domH (getI ws i)) ws) st' fi' ba' ∧ q = ((hopsI n (endD domH (getI ws i))).foldl (addW domH (getI ws i)) ws).map (endD domH) := by
  have ii : inL ws i := ⟨g.i0, hi⟩
  have hri := g.rng i ii
  have hdi : inL n.domains (endD domH (getI ws i)) := ⟨hri.1, hri.2⟩
  have hhl := hopsI_len hg hdi
  have hdl := hg.domains
  have hHin : ∀ h ∈ hopsI n (endD domH (getI ws i)), h ∈ hopsI n (endD domH (getI ws i)) ∧ 0 ≤ domH h ∧ domH h < (n.domains.length : Int) := fun h hh => ⟨hh, hops_in hr _ hri.1 hri.2 h hh⟩
  generalize hhs : hopsI n (endD domH (getI ws i)) = hs at *
  refine loopM_rule (f := fun s : (List Int) × (List Reach_Hop) × (List Int) × (List Int) × Int => match s with | (l28, l29, l30, l31, v32) => reach_find_L2 n a b n7 v20 (endD domH (getI ws i)) hs l28 l29 l30 l31 v32)
    (fun s => ∃ k : Nat, k ≤ hs.length ∧ s.2.2.2.2 = (k : Int) ∧ Arr n.domains.length a ((hs.take k).foldl (addW domH (getI ws i)) ws) s.1 s.2.1 s.2.2.1 ∧ s.2.2.2.1 = ((hs.take k).foldl (addW domH (getI ws i)) ws).map (endD domH)) _ (fun s => hs.length - s.2.2.2.2.toNat) (fun s hI => ?_) ⟨0, by omega, rfl, hA, rfl⟩ (by simp only; omega)
  obtain ⟨st, fi, ba, q, v⟩ := s
  obtain ⟨k, hk, rfl, hA, rfl⟩ := hI
  simp only at hA hk ⊢
  have hpre : ws <+: (hs.take k).foldl (addW domH (getI ws i)) ws := fold_pre _ _
  have hge : getI ((hs.take k).foldl (addW domH (getI ws i)) ws) i = getI ws i := pre_get hpre ii
  have hgood := (good_fold (hs.take k) ws g hi rfl (fun h hh => ⟨by rw [hhs]; exact List.mem_of_mem_take hh, (hHin h (List.mem_of_mem_take hh)).2⟩)).1
  have hlt : i < ((hs.take k).foldl (addW domH (getI ws i)) ws).length := by have := hpre.length_le; omega
  by_cases c : k < hs.length
  · have hx : hs[k]? = some hs[k] := List.getElem?_eq_getElem c
    have hik : inL hs (k : Int) := ⟨by omega, by omega⟩
    have hgx : getI hs (k : Int) = hs[k] := getI_nat hx
    have htake := take_succ_foldl (f := addW domH (getI ws i)) (b := ws) hx
    have hmem : hs[k] ∈ hs := List.getElem_mem c
    have hin := hHin _ hmem
    generalize hs[k] = h at *
    have hprek : (hs.take k).foldl (addW domH (getI ws i)) ws <+: hs.foldl (addW domH (getI ws i)) ws := by
      conv => rhs; rw [← List.take_append_drop k hs, List.foldl_append]
      exact fold_pre _ _
    generalize (hs.take k).foldl (addW domH (getI ws i)) ws = cur at *
    have l1 := hA.l1; have l2 := hA.l2; have l3 := hA.l3
    have hb0 := hb.1; have hb1 := hb.2
    have ib : inL st b := ⟨hb.1, by omega⟩
    have hcur := hgood.len
    simp only [reach_find_L2]
    rw [if_pos (by simpa using c), if_pos (linT hik), getI_get? hik, hgx, Option.bind_some]
    have hJ : reach_find_J3 n a b n7 v20 (endD domH (getI ws i)) hs st fi ba (cur.map (endD domH)) (k : Int) h = some (if b ≠ a ∧ 0 ≤ DW domH cur b then .inl () else .inr ()) := by
      unfold reach_find_J3
      rw [if_pos (linT ib), getI_get? ib, Option.bind_some, hA.st b ib]
      by_cases c1 : 0 ≤ DW domH cur b
      · by_cases c2 : b = a
        · simp [c2, c1]
        · simp [c2, c1]
      · simp [c1]
    rw [hJ, Option.bind_some]
    by_cases cj : b ≠ a ∧ 0 ≤ DW domH cur b
    · rw [if_pos cj]
      exact ⟨_, rfl, cur, hprek, hgood, hA, cj.1, cj.2⟩
    rw [if_neg cj]
    have id1 : inL st h.domain := ⟨hin.2.1, by have : h.domain < (n.domains.length : Int) := hin.2.2; omega⟩
    have id2 : inL fi h.domain := ⟨hin.2.1, by have : h.domain < (n.domains.length : Int) := hin.2.2; omega⟩
    have id3 : inL ba h.domain := ⟨hin.2.1, by have : h.domain < (n.domains.length : Int) := hin.2.2; omega⟩
    have ix : inL st (endD domH (getI ws i)) := ⟨hri.1, by omega⟩
    have hw := wr64 (n := (k : Int) + 1) (by omega) (by omega)
    simp only
    rw [if_pos (linT id1), getI_get? id1, Option.bind_some, hA.st _ id1, hw]
    by_cases hm : h.domain ∈ cur.map (endD domH)
    · rw [if_neg (by have := hgood.DW_pos.2 hm; simp; exact this)]
      refine ⟨_, rfl, ⟨k + 1, by omega, by simp, ?_, ?_⟩, by simp only; omega⟩
      · rw [htake, addW, if_pos hm]; exact hA
      · rw [htake, addW, if_pos hm]
    · rw [if_pos (by rw [DW_no hm]; rfl), if_pos (linT ix), getI_get? ix, Option.bind_some, Option.bind_some, if_pos (linT id2), getI_get? id2, Option.bind_some, if_pos (linT id3), getI_get? id3, Option.bind_some,
        if_pos (roomy_few (by simp; omega)), hA.st _ ix]
      have hDx : DW domH cur (endD domH (getI ws i)) = ((getI ws i).length : Int) - 1 := by
        have := hgood.DW_at (pre_in hpre ii)
        rwa [hge] at this
      have hlx := g.lens ii
      have hil := hgood.len
      rw [hDx, wr64 (by omega) (by have := g.len; have := ii.2; omega)]
      have := hA.add hgood hlt (h := h) (by rw [hge, hhs]; exact hmem) hin.2 hm
      rw [hge] at this
      refine ⟨_, rfl, ⟨k + 1, by omega, by simp, ?_, ?_⟩, by simp only; omega⟩
      · rw [htake, addW, if_neg hm]; exact this
      · rw [htake, addW, if_neg hm]; simp [endD_app]
  · have hkl : k = hs.length := by omega
    subst hkl
    refine ⟨.inr (.inr (st, fi, ba, ((hs.take hs.length).foldl (addW domH (getI ws i)) ws).map (endD domH))), ?_, ?_, ?_⟩
    · simp only [reach_find_L2]
      rw [if_neg (by simp)]
    · rw [List.take_length] at hA; exact hA
    · rw [List.take_length]
theorem find_spec (hg : BndN n 200 100) (hr : RightP n) {a b : Int} (ha : inL n.domains a) (hb : inL n.domains b) :
    ∃ ws i st fi ba, reach_find n a b = some (st, fi, ba, n.domains.length) ∧ Good domH (hopsI n) n.domains.length (rootH a) ws i ∧ Arr n.domains.length a ws st fi ba ∧ ws <+: fullW n a ∧ (ws = fullW n a ∨ b ≠ a ∧ 0 ≤ DW domH ws b) := by
  have hdl := hg.domains
  have a0 := ha.1; have a1 := ha.2
  have hrun := good_run (dom := domH) (hops_in hr) (root := rootH a) ⟨a0, a1⟩
  have hmk1 : mkok 32 (n.domains.length : Int) (n.domains.length : Int) = true := by unfold mkok; simp; omega
  have hmk2 : mkok 8 (n.domains.length : Int) (n.domains.length : Int) = true := by unfold mkok; simp; omega
  have i1 : inL (List.replicate n.domains.length (-1 : Int)) a := ⟨a0, by simpa using a1⟩
  have i2 : inL (List.replicate n.domains.length (⟨0, 0, 0, 0⟩ : Reach_Hop)) a := ⟨a0, by simpa using a1⟩
  have gr : ∀ {β : Type} [Inhabited β] {x : β} {d : Int}, inL (List.replicate n.domains.length x) d → getI (List.replicate n.domains.length x) d = x := fun {β} _ {x} {d} hd => List.eq_of_mem_replicate (getI_mem hd)
  have hA0 : Arr n.domains.length a (runW domH (hopsI n) (rootH a) 0) (List.set (List.replicate n.domains.length (-1 : Int)) (Int.toNat a) 0) (List.set (List.replicate n.domains.length (⟨0, 0, 0, 0⟩ : Reach_Hop)) (Int.toNat a) (rootH a)) (List.replicate n.domains.length (0 : Int)) := by
    have g0 := hrun 0
    have e0 : inL (runW domH (hopsI n) (rootH a) 0) 0 := ⟨by omega, by simp [runW]⟩
    refine ⟨by simp, by simp, by simp, ?_, ?_, ?_⟩
    · intro d hd
      have hd := inL_setI.1 hd
      rw [getI_setI i1 hd, gr hd]
      have := g0.DW_at e0
      rw [g0.root, endD_one] at this
      by_cases e : d = a
      · rw [if_pos e, e]; simpa using this.symm
      · rw [if_neg e, DW_no]
        simp [runW, endD_one]; exact e
    · rw [getI_setI i2 i2, if_pos rfl]
    · intro j hj j0
      have := hj.2; simp [runW] at this; omega
  simp only [reach_find, Repeat_spec hdl, Option.bind_some, hmk1, hmk2, if_true, Int.toNat_natCast]
  rw [if_pos (linT i1), getI_get? i1, Option.bind_some, if_pos (linT i2), getI_get? i2, Option.bind_some]
  have hstep : ∀ k : Nat, k < (runW domH (hopsI n) (rootH a) k).length → k + 1 ≤ (runW domH (hopsI n) (rootH a) (k + 1)).length := fun k hk => by
    have := (runW_pre (dom := domH) (H := hopsI n) (root := rootH a) (k := k)).length_le; omega
  have key : ∃ r, loopM (fun s : (List Int) × (List Reach_Hop) × (List Int) × (List Int) × Int => match s with | (l16, l17, l18, l19, v20) => reach_find_L1 n a b n.domains.length l16 l17 l18 l19 v20) (List.set (List.replicate n.domains.length (-1 : Int)) (Int.toNat a) 0, List.set (List.replicate n.domains.length (⟨0, 0, 0, 0⟩ : Reach_Hop)) (Int.toNat a) (rootH a), List.replicate n.domains.length (0 : Int), [a], 0) = some r ∧
      ∃ ws i, Good domH (hopsI n) n.domains.length (rootH a) ws i ∧ Arr n.domains.length a ws r.1 r.2.1 r.2.2 ∧ ws <+: fullW n a ∧ (ws = fullW n a ∨ b ≠ a ∧ 0 ≤ DW domH ws b) := by
    refine loopM_rule (f := fun s : (List Int) × (List Reach_Hop) × (List Int) × (List Int) × Int => match s with | (l16, l17, l18, l19, v20) => reach_find_L1 n a b n.domains.length l16 l17 l18 l19 v20)
      (fun s => ∃ k : Nat, k ≤ (runW domH (hopsI n) (rootH a) k).length ∧ s.2.2.2.2 = (k : Int) ∧ Arr n.domains.length a (runW domH (hopsI n) (rootH a) k) s.1 s.2.1 s.2.2.1 ∧ s.2.2.2.1 = (runW domH (hopsI n) (rootH a) k).map (endD domH)) _ (fun s => n.domains.length - s.2.2.2.2.toNat) (fun s hI => ?_) ⟨0, by omega, rfl, hA0, by simp [runW, endD_one]⟩ (by simp only; omega)
    obtain ⟨st, fi, ba, q, v⟩ := s
    obtain ⟨k, hk, rfl, hA, rfl⟩ := hI
    simp only at hA hk ⊢
    have gk := hrun k
    rw [Int.min_eq_left (by omega)] at gk
    have hl := gk.len
    by_cases c : k < (runW domH (hopsI n) (rootH a) k).length
    · have iq : inL ((runW domH (hopsI n) (rootH a) k).map (endD domH)) (k : Int) := ⟨by omega, by simpa using c⟩
      have ik : inL (runW domH (hopsI n) (rootH a) k) (k : Int) := ⟨by omega, by omega⟩
      have gx : getI ((runW domH (hopsI n) (rootH a) k).map (endD domH)) (k : Int) = endD domH (getI (runW domH (hopsI n) (rootH a) k) (k : Int)) := by
        have := getI_get? ik
        rw [Int.toNat_natCast] at this
        exact getI_nat (by rw [List.getElem?_map, this]; rfl)
      have hrx := gk.rng k ik
      obtain ⟨r, er, hrr⟩ := find_in hg hr (n7 := n.domains.length) (v20 := (k : Int)) gk (by omega) hb hA
      have eW : runW domH (hopsI n) (rootH a) (k + 1) = (hopsI n (endD domH (getI (runW domH (hopsI n) (rootH a) k) (k : Int)))).foldl (addW domH (getI (runW domH (hopsI n) (rootH a) k) (k : Int))) (runW domH (hopsI n) (rootH a) k) := by rw [runW, if_pos c]
      rw [← eW] at hrr
      simp only [reach_find_L1]
      rw [if_pos (by simpa using c), if_pos (linT iq), getI_get? iq, Option.bind_some, gx, reach_Hops_spec hg hr ⟨hrx.1, hrx.2⟩, Option.bind_some]
      rw [er, Option.bind_some]
      rcases r with ⟨st', fi', ba'⟩ | ⟨st', fi', ba', q'⟩
      · obtain ⟨ws', p1, p2, p3, p4, p5⟩ := hrr
        exact ⟨_, rfl, ws', _, p2, p3, p1.trans (runW_pre2 (by omega)), .inr ⟨p4, p5⟩⟩
      · obtain ⟨p1, rfl⟩ := hrr
        refine ⟨_, rfl, ⟨k + 1, hstep k c, ?_, p1, rfl⟩, ?_⟩
        · simp only; rw [wr64 (by omega) (by omega)]; simp
        · simp only; rw [wr64 (by omega) (by omega)]; omega
    · have hkl : (runW domH (hopsI n) (rootH a) k).length ≤ k := by omega
      have he : fullW n a = runW domH (hopsI n) (rootH a) k := runW_end hkl _ (by omega)
      refine ⟨.inr (st, fi, ba), ?_, runW domH (hopsI n) (rootH a) k, _, gk, hA, ?_, .inl he.symm⟩
      · simp only [reach_find_L1]
        rw [if_neg (by simpa using hkl)]
      · rw [he]; exact List.prefix_refl _
  obtain ⟨⟨st, fi, ba⟩, e, ws, i, k1, k2, k3, k4⟩ := key
  refine ⟨ws, i, st, fi, ba, ?_, k1, k2, k3, k4⟩
  rw [e]; rfl
theorem full_good (hg : BndN n 200 100) (hr : RightP n) {a : Int} (ha : inL n.domains a) : Good domH (hopsI n) n.domains.length (rootH a) (fullW n a) (fullW n a).length := by
  have g := good_run (dom := domH) (hops_in hr) (root := rootH a) ⟨ha.1, ha.2⟩ n.domains.length
  have := g.len
  rw [Int.min_eq_right (by omega)] at g
  exact g
theorem full_dist (hg : BndN n 200 100) (hr : RightP n) {a : Int} (ha : inL n.domains a) : Dist domH (hopsI n) n.domains.length a (DW domH (fullW n a)) := (full_good hg hr ha).dist rfl
theorem reach_Steps_no (hs : SmN n) {a : Int} (h : ¬ (inL n.domains a ∧ RightP n)) : reach_Steps n a = some ([], 0) := by
  simp only [reach_Steps, place_spec hs, Option.bind_some, decide_eq_false h, Bool.not_false, if_true]
theorem reach_Steps_spec (hg : BndN n 200 100) (hr : RightP n) {a : Int} (ha : inL n.domains a) : reach_Steps n a = some (mkL n.domains.length (DW domH (fullW n a)), n.domains.length) := by
  have hs := hg.sm
  obtain ⟨ws, i, st, fi, ba, e, g, hA, hp, h⟩ := find_spec hg hr ha ha
  have hw : ws = fullW n a := h.resolve_right (fun h => h.1 rfl)
  subst hw
  simp only [reach_Steps, place_spec hs, Option.bind_some, decide_eq_true (show inL n.domains a ∧ RightP n from ⟨ha, hr⟩), Bool.not_true, Bool.false_eq_true, if_false, e]
  rw [eq_mkL hA.l1 hA.st]
end
end Go.Eng
