/- Chapter 43 (matrix): who gets to whom: the table grows port by port. -/
import Derived.Test.YtcclngfmkodgjaaGreatEngZ6
import Derived.Test.YtcclngfmkodgjaaGreatEngV8
import Derived.Test.YtcclngfmkodgjaaGreatEngGV0
set_option linter.unusedVariables false
set_option linter.unusedSectionVars false
set_option linter.unusedSimpArgs false
namespace Go.Eng
open Go Classical
attribute [local congr] ite_cg
section
variable {of sets : List Int}
theorem rep_set_true43 {n i : Nat} : (List.replicate n true).set i true = List.replicate n true := by
  apply List.ext_getElem?
  intro k
  rw [List.getElem?_set]
  split
  · rename_i h
    subst h
    simp only [List.length_replicate, List.getElem?_replicate]
  · rfl
theorem eqCell43 {x y : Matrix_Cell} : eq_Matrix_Cell x y = decide (x = y) := by
  cases x; cases y
  rw [Bool.eq_iff_iff]
  simp [eq_Matrix_Cell]
theorem picks_nodup {k : Nat} {P : Int → Prop} : (picks k P).Nodup := by
  unfold picks
  exact List.Pairwise.filter _ (List.Pairwise.map _ (fun a b h => by
    intro e
    exact h (by omega)) List.nodup_range)
theorem row_get {T k : Nat} {s : Int} {t : Int} (h0 : 0 ≤ t) (h1 : t < T) : (row43 of sets T k s)[t.toNat]? = some (cel43 of sets s t k) := by
  unfold row43
  rw [List.getElem?_map, List.getElem?_range (by omega)]
  simp only [Option.map_some]
  congr 2
  omega
theorem row_len {T k : Nat} {s : Int} : (row43 of sets T k s).length = T := by simp [row43]
theorem row_succ {T k : Nat} {s t : Int} (h0 : 0 ≤ t) (h1 : t < T) (hk : getI of (k : Int) = t) (hh : hasP (getI sets (k : Int)) s) :
    row43 of sets T (k + 1) s = (row43 of sets T k s).set t.toNat (cel43 of sets s t (k + 1)) := by
  apply List.ext_getElem?
  intro j
  rw [List.getElem?_set, row_len]
  by_cases hj : j < T
  case neg => rw [List.getElem?_eq_none (by rw [row_len]; omega), if_neg (by omega), List.getElem?_eq_none (by rw [row_len]; omega)]
  have e1 : ∀ k, (row43 of sets T k s)[j]? = some (cel43 of sets s (j : Int) k) := fun k => by
    have := row_get (of := of) (sets := sets) (T := T) (k := k) (s := s) (t := (j : Int)) (by omega) (by omega)
    simpa using this
  by_cases c : t.toNat = j
  · rw [if_pos c, if_pos (by omega), e1]
    congr 2; omega
  · rw [if_neg c, e1, e1, cel_succ, if_neg (fun q => c (by have := q.1; omega))]
theorem row_same {T k : Nat} {s : Int} (hh : ¬ hasP (getI sets (k : Int)) s) : row43 of sets T (k + 1) s = row43 of sets T k s := by
  unfold row43
  refine List.map_congr_left fun j hj => ?_
  rw [cel_succ, if_neg (fun q => hh q.2)]
theorem row_skip {T k : Nat} {s : Int} (hh : getI of (k : Int) < 0) : row43 of sets T (k + 1) s = row43 of sets T k s := by
  unfold row43
  refine List.map_congr_left fun j hj => ?_
  rw [cel_succ, if_neg (fun q => by have := q.1; omega)]
noncomputable def tabU (of sets : List Int) (T k : Nat) (D : Int → Prop) : List (List Matrix_Cell) := (List.range T).map fun (s : Nat) => if D (s : Int) then row43 of sets T (k + 1) (s : Int) else row43 of sets T k (s : Int)
theorem tabU_len {T k : Nat} {D : Int → Prop} : (tabU of sets T k D).length = T := by simp [tabU]
theorem tabU_get {T k : Nat} {D : Int → Prop} {s : Int} (h0 : 0 ≤ s) (h1 : s < T) : (tabU of sets T k D)[s.toNat]? = some (if D s then row43 of sets T (k + 1) s else row43 of sets T k s) := by
  unfold tabU
  rw [List.getElem?_map, List.getElem?_range (by omega)]
  have e : ((s.toNat : Nat) : Int) = s := by omega
  simp only [Option.map_some, e]
theorem tabU_set {T k : Nat} {D : Int → Prop} {s : Int} (h0 : 0 ≤ s) (h1 : s < T) : (tabU of sets T k D).set s.toNat (row43 of sets T (k + 1) s) = tabU of sets T k (fun x => D x ∨ x = s) := by
  apply List.ext_getElem?
  intro j
  rw [List.getElem?_set, tabU_len]
  by_cases hj : j < T
  case neg => rw [List.getElem?_eq_none (by rw [tabU_len]; omega), if_neg (by omega), List.getElem?_eq_none (by rw [tabU_len]; omega)]
  have e1 : ∀ D : Int → Prop, (tabU of sets T k D)[j]? = some (if D (j : Int) then row43 of sets T (k + 1) (j : Int) else row43 of sets T k (j : Int)) := fun D => by
    have := tabU_get (of := of) (sets := sets) (T := T) (k := k) (D := D) (s := (j : Int)) (by omega) (by omega)
    simpa using this
  by_cases c : s.toNat = j
  · have e : s = (j : Int) := by omega
    rw [if_pos c, if_pos (by omega), e1, if_pos (.inr e.symm), e]
  · rw [if_neg c, e1, e1]
    have : ((D (j : Int) ∨ (j : Int) = s) ↔ D (j : Int)) := ⟨fun q => q.resolve_right (fun q => c (by omega)), .inl⟩
    by_cases d : D (j : Int)
    · rw [if_pos d, if_pos (.inl d)]
    · rw [if_neg d, if_neg (fun q => d (this.1 q))]
theorem tabU_none {T k : Nat} : tabU of sets T k (fun _ => False) = tab43 of sets T k := by
  unfold tabU tab43
  simp
theorem tabU_all {T k : Nat} {D : Int → Prop} (h : ∀ s : Int, 0 ≤ s → s < T → ¬ D s → row43 of sets T (k + 1) s = row43 of sets T k s) : tabU of sets T k D = tab43 of sets T (k + 1) := by
  unfold tabU tab43
  refine List.map_congr_left fun j hj => ?_
  have hj := List.mem_range.1 hj
  by_cases d : D (j : Int)
  · rw [if_pos d]
  · rw [if_neg d, h _ (by omega) (by omega) d]
theorem mOf_names {T k : Nat} {l9 : List Int} {n10 : Nat} {t : Int} (hT : T ≤ 10) (hk : k < of.length) (hf : of.length ≤ 300) (ht : getI of (k : Int) = t) (h0 : 0 ≤ t) (h1 : t < T) (hsT : ∀ s, hasP (getI sets (k : Int)) s → s < T) :
    loopM (fun q : (List (List Matrix_Cell)) × (List Bool) × Int => match q with | (l54, p55, v56) => matrix_Of_L3 of (T : Int) l9 n10 (k : Int) t (picks 10 (hasP (getI sets (k : Int)))) l54 p55 v56) (tab43 of sets T k, List.replicate T true, 0) = some (tab43 of sets T (k + 1), List.replicate T true) := by
  generalize hL : picks 10 (hasP (getI sets (k : Int))) = L
  have hlen : L.length ≤ 10 := by rw [← hL]; exact picks_len
  have hnd : L.Nodup := by rw [← hL]; exact picks_nodup
  have hmem : ∀ s, s ∈ L ↔ hasP (getI sets (k : Int)) s := fun s => by
    rw [← hL]
    unfold picks
    simp only [List.mem_filter, List.mem_map, List.mem_range, decide_eq_true_eq]
    constructor
    · exact fun h => h.2
    · intro h
      exact ⟨⟨s.toNat, by have := h.1; have := h.2.1; omega, by have := h.1; omega⟩, h⟩
  have main := loopM_trace (f := fun q : (List (List Matrix_Cell)) × (List Bool) × Int => match q with | (l54, p55, v56) => matrix_Of_L3 of (T : Int) l9 n10 (k : Int) t L l54 p55 v56) (r := (tab43 of sets T (k + 1), List.replicate T true))
    (fun j => (tabU of sets T k (fun s => s ∈ L.take j), List.replicate T true, (j : Int))) L.length (by omega) (fun j hj => by
      have hw := wr64 (n := (j : Int) + 1) (by omega) (by omega)
      have hg : L[j]? = some L[j] := List.getElem?_eq_getElem hj
      generalize L[j] = s at hg
      have hsm := (hmem s).1 (List.mem_of_getElem? hg)
      have s0 := hsm.1
      have s1 := hsT s hsm
      have hnot : s ∉ L.take j := by
        intro q
        obtain ⟨i, hi⟩ := List.getElem?_of_mem q
        have hij : i < j := by have := (List.getElem?_eq_some_iff.1 hi).1; simp at this; omega
        rw [List.getElem?_take_of_lt hij] at hi
        have := (List.getElem?_eq_some_iff.1 hi).2
        have e2 := (List.getElem?_eq_some_iff.1 hg).2
        have hii := (List.getElem?_eq_some_iff.1 hi).1
        exact List.pairwise_iff_getElem.1 hnd i j hii hj hij (by
          have q1 := (List.getElem?_eq_some_iff.1 hi).2
          rw [q1, e2])
      have hrow := tabU_get (of := of) (sets := sets) (T := T) (k := k) (D := fun s => s ∈ L.take j) s0 s1
      rw [if_neg hnot] at hrow
      have hp : pmis (List.replicate T true) s.toNat true = true := pmis43 (by rw [List.getElem?_replicate, if_pos (by omega)])
      have hl1 : lin (tabU of sets T k (fun s => s ∈ L.take j)) s = true := by rw [lin_dec]; exact decide_eq_true ⟨s0, by rw [tabU_len]; exact s1⟩
      have hl2 : lin (row43 of sets T k s) t = true := by rw [lin_dec]; exact decide_eq_true ⟨h0, by rw [row_len]; exact h1⟩
      have hlj : lin L (j : Int) = true := by rw [lin_dec]; exact decide_eq_true ⟨by omega, by omega⟩
      have hc := row_get (of := of) (sets := sets) (T := T) (k := k) (s := s) h0 h1
      have hb := mny_bnd (of := of) (sets := sets) (s := s) (t := t) k
      have hset : ∀ x : Matrix_Cell, ((row43 of sets T k s).set t.toNat x)[t.toNat]? = some x := fun x => by
        rw [List.getElem?_set, if_pos rfl, if_pos (by rw [row_len]; omega)]
      have hpr : List.set (List.replicate T true) s.toNat true = List.replicate T true := rep_set_true43
      have hfin : ∀ c, c = cel43 of sets s t (k + 1) → (some (.inl (List.set (tabU of sets T k (fun s => s ∈ L.take j)) s.toNat ((row43 of sets T k s).set t.toNat c), List.replicate T true, (j : Int) + 1)) : Option (((List (List Matrix_Cell)) × (List Bool) × Int) ⊕ (((List (List Matrix_Cell)) × (List Bool))))) = some (.inl (tabU of sets T k (fun s => s ∈ L.take (j + 1)), List.replicate T true, ((j + 1 : Nat) : Int))) := fun c e => by
        rw [e, ← row_succ h0 h1 ht hsm, tabU_set s0 s1]
        have : (fun x => x ∈ L.take j ∨ x = s) = fun x => x ∈ L.take (j + 1) := by
          funext x
          rw [List.take_add_one, hg]
          simp
        rw [this]
        rfl
      simp only [matrix_Of_L3, Int.toNat_natCast]
      rw [if_pos (decide_eq_true (by omega)), if_pos hlj, hg, Option.bind_some, hrow, Option.bind_some, if_pos hp, if_pos hl1, if_pos hl2, hc, Option.bind_some, none43, Option.bind_some, eqCell43]
      by_cases cn : cel43 of sets s t k = ⟨0, -1, -1⟩
      · rw [if_pos (decide_eq_true cn), Index_int_spec (by unfold Few; omega), Option.bind_some]
        simp only [Option.bind_some, hset, List.set_set, hw, hpr]
        refine hfin _ ?_
        rw [cel_succ, if_pos ⟨ht, hsm⟩, if_pos cn, cn]
        have ef : fstI of (fun y => s = y) = frm43 of s := by unfold frm43; congr 1; funext y; exact propext eq_comm
        rw [ef, wr64 (by simp only; omega) (by simp only; omega)]
        rfl
      · rw [if_neg (by simpa using cn)]
        simp only [Option.bind_some, hw, hpr]
        refine hfin _ ?_
        rw [cel_succ, if_pos ⟨ht, hsm⟩, if_neg cn, wr64 (by unfold cel43; simp only; omega) (by unfold cel43; simp only; omega)]) (by
      simp only [matrix_Of_L3]
      rw [if_neg (by simp)]
      rw [List.take_length, tabU_all (fun s s0 s1 hn => row_same (fun q => hn ((hmem s).2 q)))])
  have e0 : tabU of sets T k (fun s => s ∈ L.take 0) = tab43 of sets T k := by
    rw [← tabU_none]
    congr 1
    funext s
    simp
  rw [e0] at main
  exact main
theorem tab_skip {T k : Nat} (h : getI of (k : Int) < 0) : tab43 of sets T (k + 1) = tab43 of sets T k := by
  unfold tab43
  exact List.map_congr_left fun j _ => row_skip h
theorem mOf_ports {T : Nat} {n10 : Nat} (hT : T ≤ 10) (hl : sets.length = of.length) (hf : of.length ≤ 300) (hs0 : ∀ x ∈ sets, 0 ≤ x ∧ x < 1000000000000) (hot : ∀ x ∈ of, x < T) (hsT : ∀ k : Nat, k < of.length → ∀ s, hasP (getI sets (k : Int)) s → s < T) :
    loopM (fun q : (List (List Matrix_Cell)) × (List Bool) × Int => match q with | (l41, p42, v43) => matrix_Of_L2 of (T : Int) sets n10 l41 p42 v43) (tab43 of sets T 0, List.replicate T true, 0) = some (tab43 of sets T of.length, List.replicate T true) :=
  loopM_trace (f := fun q : (List (List Matrix_Cell)) × (List Bool) × Int => match q with | (l41, p42, v43) => matrix_Of_L2 of (T : Int) sets n10 l41 p42 v43) (r := (tab43 of sets T of.length, List.replicate T true)) (fun k => (tab43 of sets T k, List.replicate T true, (k : Int))) of.length (by omega) (fun k hk => by
    have h1 : inL of (k : Int) := ⟨by omega, by omega⟩
    have h2 : inL sets (k : Int) := ⟨by omega, by omega⟩
    have hx := hs0 _ (getI_mem h2)
    have hw := wr64 (n := (k : Int) + 1) (by omega) (by omega)
    simp only [matrix_Of_L2]
    rw [if_pos (decide_eq_true (by omega)), nth_getI h1, Option.bind_some]
    by_cases c : getI of (k : Int) < 0
    · rw [if_pos (decide_eq_true c), hw, tab_skip c]; rfl
    · rw [if_neg (by simpa using c), if_pos (by rw [lin_dec]; exact decide_eq_true h2), getI_get? h2, Option.bind_some, names_spec42 hx.1 hx.2, Option.bind_some]
      rw [mOf_names hT hk hf rfl (by omega) (hot _ (getI_mem h1)) (hsT k hk), Option.bind_some]
      simp only
      rw [hw]; rfl) (by
    simp only [matrix_Of_L2]
    rw [if_neg (by simp)])
def FitP (n : Api_Net) (of : List Int) (T : Int) : Prop := 0 ≤ T ∧ T ≤ 10 ∧ OwnP n of ∧ ∀ x ∈ of, x < T
theorem fits_is {n : Api_Net} {T : Int} (hs : SmN n) (hf : of.length ≤ 300) : matrix_fits n of T = some (decide (FitP n of T)) := by
  unfold matrix_fits
  by_cases h0 : 0 ≤ T
  case neg => rw [if_pos (decide_eq_true (by omega)), decide_eq_false (show ¬ FitP n of T from fun q => h0 q.1)]
  rw [if_neg (by simp; omega)]
  by_cases h1 : T ≤ 10
  case neg => rw [if_pos (decide_eq_true (by omega)), decide_eq_false (show ¬ FitP n of T from fun q => h1 q.2.1)]
  rw [if_neg (by simp; omega), owners_Right_spec hs (by unfold Few; omega), Option.bind_some]
  by_cases h2 : OwnP n of
  case neg => rw [decide_eq_false h2, if_pos (by rfl), decide_eq_false (show ¬ FitP n of T from fun q => h2 q.2.2.1)]
  rw [decide_eq_true h2, if_neg (by simp)]
  unfold slices_ContainsFunc_int_fits_1 slices_IndexFunc_int_fits_1
  rw [loop_first (f := slices_IndexFunc_int_fits_1_L1 of T) of (fun x => T ≤ x) (by unfold Few; omega) (fun i i0 i1 hi => by
    have hw := wr64 (n := i + 1) (by omega) (by omega)
    simp only [slices_IndexFunc_int_fits_1_L1, matrix_fits_1, i1, nth_getI hi, hw, decide_true, if_true, Option.bind_some]
    by_cases c : T ≤ getI of i <;> simp [c]) (by simp [slices_IndexFunc_int_fits_1_L1])]
  by_cases c : 0 ≤ fstI of (fun x => T ≤ x)
  · rw [if_pos c, decide_eq_false (show ¬ FitP n of T from fun q => by
      have : fstI of (fun x => T ≤ x) < 0 := fstI_none_mem.2 (fun x hx (q2 : T ≤ x) => by have := q.2.2.2 x hx; omega)
      omega)]
    simp [c]
  · rw [if_neg c, decide_eq_true (show FitP n of T from ⟨h0, h1, h2, fun x hx => by
      have := fstI_none_mem.1 (by omega : fstI of (fun x => T ≤ x) < 0) x hx
      omega⟩)]
    rfl
noncomputable def sets43 (n : Api_Net) (of : List Int) : List Int := mkG n.ports.length (fun p => if (getI n.ports p).link = -1 then setN (inPort n of p) 10 else 0)
theorem lports_is {n : Api_Net} (hn : n.Ok) (hg : BndN n 200 100) (hf : Few of) (ho : OwnP n of) : labels_Ports n of = some (sets43 n of, n.ports.length, true) := by
  obtain ⟨r, er, hr1, hr2⟩ := labels_Ports_spec hn hg hf ho
  have hlist : r = sets43 n of := by
    refine list_eqI.2 ⟨by unfold sets43; rw [mkG_len]; exact hr1, fun p hp => ?_⟩
    have hpp : inL n.ports p := ⟨hp.1, by have := hp.2; omega⟩
    show getI r p = getI (mkG _ _) p
    rw [mkG_get ⟨hpp.1, hpp.2⟩]
    obtain ⟨q0, q1⟩ := hr2 p hpp
    have hown := ho.2.2 p (owner_ok ho hpp).1
    have hlk := port_link ho.2.1 hpp
    have hhi : ∀ t, inPort n of p t → t < 10 := fun t ⟨d, _, _, h⟩ => by
      have : ∃ k, DerN n of k d t := h.elim (fun h => ⟨_, h⟩) (fun h => ⟨_, h⟩)
      obtain ⟨k, h⟩ := this
      obtain ⟨x, p', hp', hpt⟩ := der_seed h
      have := (owner_ok ho (membersL_in hp')).2
      omega
    by_cases c : (getI n.ports p).link = -1
    · rw [if_pos c]
      have h0 := (hown.2 (by omega)).1
      obtain ⟨s0, s1, s2⟩ := setN_b (inPort n of p)
      refine tb_eq q0 s0 (fun t => ?_)
      rw [Bool.eq_iff_iff, q1 t, s2 t, decide_eq_true_eq]
      exact ⟨fun h => ⟨hhi t h.2, h.2⟩, fun h => ⟨h0, h.2⟩⟩
    · rw [if_neg c]
      have h0 : getI of p = -1 := hown.1 (by omega)
      refine tb_eq q0 (by omega) (fun t => ?_)
      rw [Bool.eq_iff_iff, q1 t, tb_zero]
      exact ⟨fun h => by omega, fun h => by cases h⟩
  rw [er, hlist]
theorem sets_bnd {n : Api_Net} : ∀ x ∈ sets43 n of, 0 ≤ x ∧ x < 1000000000000 := by
  intro x hx
  obtain ⟨p, hp, rfl⟩ := mem_getI hx
  have hp' : inL n.ports p := ⟨hp.1, by have := hp.2; unfold sets43 at this; rw [mkG_len] at this; exact this⟩
  unfold sets43
  rw [mkG_get ⟨hp'.1, hp'.2⟩]
  split
  · obtain ⟨s0, s1, s2⟩ := setN_b (inPort n of p)
    exact ⟨s0, by omega⟩
  · omega
theorem sets_low {n : Api_Net} {T : Int} (ho : OwnP n of) (hT : ∀ x ∈ of, x < T) {k : Nat} (hk : k < n.ports.length) {s : Int} (h : hasP (getI (sets43 n of) (k : Int)) s) : s < T := by
  obtain ⟨h0, h1, h2⟩ := h
  unfold sets43 at h2
  rw [mkG_get ⟨by omega, by omega⟩] at h2
  split at h2
  · obtain ⟨_, _, s2⟩ := setN_b (inPort n of (k : Int))
    rw [s2, decide_eq_true_eq] at h2
    obtain ⟨_, d, _, _, hd⟩ := h2
    have : ∃ q, DerN n of q d s.toNat := hd.elim (fun h => ⟨_, h⟩) (fun h => ⟨_, h⟩)
    obtain ⟨q, h⟩ := this
    obtain ⟨x, p', hp', hpt⟩ := der_seed h
    have hi := (owner_ok ho (membersL_in hp')).1
    have := hT _ (getI_mem hi)
    omega
  · rw [tb_zero] at h2; cases h2
theorem mOf_is {n : Api_Net} {T : Int} (hn : n.Ok) (hg : BndN n 200 100) (hf : of.length ≤ 300) : matrix_Of n of T = some (if FitP n of T then (tab43 of (sets43 n of) T.toNat of.length, T.toNat, true) else ([], 0, false)) := by
  unfold matrix_Of
  rw [fits_is hg.sm hf, Option.bind_some]
  by_cases h : FitP n of T
  case neg => rw [decide_eq_false h, if_pos (by rfl), if_neg h]
  rw [decide_eq_true h, if_neg (by simp), if_pos h, lports_is hn hg (by unfold Few; omega) h.2.2.1, Option.bind_some]
  simp only
  obtain ⟨h0, h1, ho, hot⟩ := h
  have hlen : (sets43 n of).length = n.ports.length := by unfold sets43; rw [mkG_len]
  have hol : of.length = n.ports.length := by have := ho.1; omega
  have hT : ((T.toNat : Nat) : Int) = T := by omega
  have hmk : mkok 24 T T = true := by unfold mkok; rw [decide_eq_true_eq]; omega
  rw [if_pos hmk]
  have e1 := mOf_rows (of := of) (sets := sets43 n of) (T := T.toNat) (l9 := sets43 n of) (n10 := n.ports.length) (by omega)
  have e2 := mOf_ports (of := of) (sets := sets43 n of) (T := T.toNat) (n10 := n.ports.length) (by omega) (by omega) hf sets_bnd (fun x hx => by have := hot x hx; omega) (fun k hk s hs => by have := sets_low ho hot (by omega) hs; omega)
  rw [hT] at e1 e2
  rw [List.length_replicate, e1, Option.bind_some]
  simp only
  rw [e2, Option.bind_some]
end
end Go.Eng
