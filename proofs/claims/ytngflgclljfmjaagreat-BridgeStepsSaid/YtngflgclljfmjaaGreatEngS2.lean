/- Chapter 26 (tables) on both sides: whether a table may be, and what is learnt. -/
import Derived.Test.YtngflgclljfmjaaGreatEngGP1
import Derived.Test.YtngflgclljfmjaaGreatEngS1
set_option linter.unusedVariables false
set_option linter.unusedSectionVars false
set_option linter.unusedSimpArgs false
namespace Go.Eng
open Go Classical
attribute [local congr] ite_cg
def StaP (m : Int) : Prop := m ≤ 281474976710655 ∧ ¬ GrpP m
def TimP (x : Int) : Prop := 0 ≤ x ∧ x ≤ 1099511627776
noncomputable def tabI (t : List Api_Entry) (x : Int) : Int := fstI t (fun e => e.mac = x)
def TabP (t : List Api_Entry) : Prop := t.length ≤ 8 ∧ EachP t (fun i e => StaP e.mac ∧ TimP e.seen ∧ tabI t e.mac = i)
theorem station_spec {m : Int} (h1 : 0 ≤ m) (h2 : m < 18446744073709551616) : table_station m = some (decide (StaP m)) := by
  unfold table_station StaP
  by_cases c : m ≤ 281474976710655
  · rw [if_pos (decide_eq_true c), mac_Group_spec h1 h2]; simp [c]
  · rw [if_neg (by simpa using c)]; simp [c]
theorem rstation_spec {m : Int} (h1 : 0 ≤ m) (h2 : m < 18446744073709551616) : palingref26_station m = some (decide (StaP m)) := by
  unfold palingref26_station StaP
  by_cases c : m < 281474976710656
  · have c2 : m ≤ 281474976710655 := by omega
    rw [if_pos (decide_eq_true c), r01Group_spec h1 h2]; simp [c2]
  · have c2 : ¬ m ≤ 281474976710655 := by omega
    rw [if_neg (by simpa using c)]; simp [c2]
theorem timely_spec {x : Int} : table_timely x = some (decide (TimP x)) := by
  unfold table_timely TimP
  by_cases c : 0 ≤ x <;> simp [c]
theorem rtimely_spec {x : Int} : palingref26_timely x = some (decide (TimP x)) := by
  unfold palingref26_timely TimP
  by_cases c : 0 ≤ x <;> simp [c]
section
variable {t : List Api_Entry}
theorem index_spec (ht : Few t) {x : Int} : table_index t x = some (tabI t x) := by
  simp only [table_index, slices_IndexFunc_Entry_index_1]
  rw [loop_first t (fun s => s.mac = x) ht (fun i h0 h1 h2 => by
    have h3 : t.length ≤ 1000000 := ht
    simp (disch := omega) only [slices_IndexFunc_Entry_index_1_L1, table_index_1, h1, nth_getI h2, wr64, bind_ite, Option.bind_some, dif1, dif2, dif3, dif4, dif5, dif6, dif7, dnot, ibeq, ibne, decide_eq_true_eq, if_not2, ge_iff_le, gt_iff_lt, fst_ret, Bool.false_eq_true, decide_false, mrg1, mrg2, mrg3, mrg4, mrg5, mrg6, mrg7, decide_true, if_true]; exact fpos Iff.rfl) (by simp [slices_IndexFunc_Entry_index_1_L1])]
  unfold tabI
  by_cases h : 0 ≤ fstI t (fun e => e.mac = x)
  · simp [h]
  · have h2 := fstI_ge (l := t) (P := fun e => e.mac = x)
    simp [h]; omega
theorem entry_ok (hto : okL Api_Entry.Ok t) {i : Int} (h : inL t i) : (0 ≤ (getI t i).mac ∧ (getI t i).mac < 18446744073709551616) ∧ (getI t i).Ok := by
  have := hto.2 _ (getI_mem h)
  exact ⟨okU64 this.1, this⟩
theorem table_Right_spec (hto : okL Api_Entry.Ok t) : table_Right t = some (decide (TabP t)) := by
  unfold table_Right TabP
  by_cases c : (t.length : Int) > 8
  · have : ¬ t.length ≤ 8 := by omega
    rw [if_pos (decide_eq_true c)]; simp [this]
  have c2 : t.length ≤ 8 := by omega
  have hf : Few t := by unfold Few; omega
  rw [if_neg (by simpa using c), loop_each t (fun i e => StaP e.mac ∧ TimP e.seen ∧ tabI t e.mac = i) (.inl ()) (.inr ()) hf (fun i h0 h1 h2 => by
    have h3 := (entry_ok hto h2).1
    simp (disch := omega) only [table_Right_L1, h1, nth_getI h2, wr64, station_spec h3.1 h3.2, timely_spec, index_spec hf, decide_true, if_true, Option.bind_some]
    by_cases d1 : StaP (getI t i).mac
    case neg => simp [d1]
    by_cases d2 : TimP (getI t i).seen
    case neg => simp [d1, d2]
    by_cases d3 : tabI t (getI t i).mac = i <;> simp [d1, d2, d3]) (by simp [table_Right_L1])]
  by_cases d : EachP t (fun i e => StaP e.mac ∧ TimP e.seen ∧ tabI t e.mac = i) <;> simp [c2, d]
theorem rtable_Right_spec (hto : okL Api_Entry.Ok t) : palingref26_Right t = some (decide (TabP t)) := by
  unfold palingref26_Right TabP
  by_cases c : (t.length : Int) > 8
  · have : ¬ t.length ≤ 8 := by omega
    rw [if_pos (decide_eq_true c)]; simp [this]
  have c2 : t.length ≤ 8 := by omega
  have hf : Few t := by unfold Few; omega
  rw [if_neg (by simpa using c), loop_each t (fun i e => StaP e.mac ∧ TimP e.seen ∧ tabI t e.mac = i) (.inl ()) (.inr ()) hf (fun i h0 h1 h2 => by
    have h3 := (entry_ok hto h2).1
    have hin : loopM (palingref26_Right_L2 t i) 0 = if ∀ j : Int, 0 ≤ j → j < (i.toNat : Int) → ¬ (getI t j).mac = (getI t i).mac then some (.inr ()) else some (.inl ()) :=
      loop_upto (f := palingref26_Right_L2 t i) i.toNat (fun j => ¬ (getI t j).mac = (getI t i).mac) (.inl () : Unit ⊕ Unit) (.inr ()) (by omega) (fun j j0 j1 => by
        have hj : inL t j := ⟨j0, by omega⟩
        have j2 : j < i := by omega
        simp (disch := omega) only [palingref26_Right_L2, j2, nth_getI hj, nth_getI h2, wr64, decide_true, if_true, Option.bind_some]
        by_cases d : (getI t j).mac = (getI t i).mac <;> simp [d]) (by
        rw [show ((i.toNat : Nat) : Int) = i from by omega]
        simp [palingref26_Right_L2])
    have heq : (∀ j : Int, 0 ≤ j → j < (i.toNat : Int) → ¬ (getI t j).mac = (getI t i).mac) ↔ tabI t (getI t i).mac = i := by
      unfold tabI
      rw [fstI_eq h2]
      constructor
      · intro h; exact ⟨rfl, fun j hj hlt => h j hj.1 (by omega)⟩
      · rintro ⟨_, h⟩ j j0 j1; exact h j ⟨j0, by omega⟩ (by omega)
    simp (disch := omega) only [palingref26_Right_L1, h1, nth_getI h2, wr64, rstation_spec h3.1 h3.2, rtimely_spec, decide_true, if_true, Option.bind_some]
    rw [hin]
    by_cases d1 : StaP (getI t i).mac
    case neg => simp [d1]
    by_cases d2 : TimP (getI t i).seen
    case neg => simp [d1, d2]
    by_cases d3 : tabI t (getI t i).mac = i
    · rw [if_pos (heq.2 d3)]; simp [d1, d2, d3]
    · rw [if_neg (fun h => d3 (heq.1 h))]; simp [d1, d2, d3]) (by simp [palingref26_Right_L1])]
  by_cases d : EachP t (fun i e => StaP e.mac ∧ TimP e.seen ∧ tabI t e.mac = i) <;> simp [c2, d]
noncomputable def oldN (t : List Api_Entry) : Nat → Int
  | 0 => 0
  | k + 1 => if (getI t k).seen < (getI t (oldN t k)).seen then (k : Int) else oldN t k
theorem oldN_in : ∀ k, 0 ≤ oldN t k ∧ (oldN t k < k ∨ oldN t k = 0)
  | 0 => ⟨by simp [oldN], .inr rfl⟩
  | k + 1 => by
    have h := oldN_in k
    unfold oldN
    split
    · exact ⟨by omega, .inl (by omega)⟩
    · exact ⟨h.1, by rcases h.2 with h2 | h2; exact .inl (by omega); exact .inr h2⟩
theorem oldN_inL {k : Nat} (hk : k ≤ t.length) (hp : 0 < t.length) : inL t (oldN t k) := by
  have := oldN_in (t := t) k
  exact ⟨this.1, by rcases this.2 with h | h <;> omega⟩
theorem oldest_spec (hf : t.length ≤ 1000000) (hp : 0 < t.length) : table_oldest t = some (oldN t t.length) := by
  unfold table_oldest
  have := loopM_trace (f := fun s : Int × Int => match s with | (v2, v3) => table_oldest_L1 t v2 v3) (fun i => ((i : Int), oldN t i)) t.length (r := oldN t t.length) (by omega) (fun i hi => by
    have h1 : inL t (i : Int) := ⟨by omega, by omega⟩
    have h2 := oldN_inL (t := t) (k := i) (by omega) hp
    have hw := wr64 (n := (i : Int) + 1) (by omega) (by omega)
    show table_oldest_L1 t i (oldN t i) = _
    unfold table_oldest_L1
    rw [if_pos (decide_eq_true h1.2), nth_getI h1, Option.bind_some, nth_getI h2, Option.bind_some, hw]
    have e : oldN t (i + 1) = if (getI t (i : Int)).seen < (getI t (oldN t i)).seen then (i : Int) else oldN t i := rfl
    rw [e]
    by_cases c : (getI t (i : Int)).seen < (getI t (oldN t i)).seen
    · rw [if_pos (decide_eq_true c), if_pos c]; rfl
    · rw [if_neg (by simpa using c), if_neg c]; rfl) (by
    show table_oldest_L1 t t.length _ = _
    unfold table_oldest_L1
    rw [if_neg (by simp)])
  have e2 : loopM (fun s : Int × Int => match s with | (v2, v3) => table_oldest_L1 t v2 v3) (0, 0) = some (oldN t t.length) := this
  rw [e2]; rfl
noncomputable def learnL (t : List Api_Entry) (m w now : Int) : List Api_Entry :=
  if TabP t ∧ StaP m ∧ TimP now then
    if 0 ≤ tabI t m then t.set (tabI t m).toNat ⟨m, w, now⟩
    else if t.length = 8 then t.eraseIdx (oldN t t.length).toNat ++ [⟨m, w, now⟩] else t ++ [⟨m, w, now⟩]
  else t
theorem ro_learn1 (hT : t.length ≤ 8) {m w now : Int} {q : Int × Bool} : loopM (fun s : Int × Int => match s with | (v19, v20) => palingref26_Learn_L1 t m w now q v19 v20) ((-1), 0) = some (if t.length = 8 ∧ q.2 = false then oldN t t.length else -1) := by
  by_cases c : t.length = 8 ∧ q.2 = false
  · rw [if_pos c]
    obtain ⟨c1, c2⟩ := c
    have := loopM_trace (f := fun s : Int × Int => match s with | (v19, v20) => palingref26_Learn_L1 t m w now q v19 v20) (fun i => (if i = 0 then -1 else oldN t i, (i : Int))) t.length (r := oldN t t.length) (by omega) (fun i hi => by
      have h1 : inL t (i : Int) := ⟨by omega, by omega⟩
      have hw := wr64 (n := (i : Int) + 1) (by omega) (by omega)
      show palingref26_Learn_L1 t m w now q (if i = 0 then -1 else oldN t i) i = _
      unfold palingref26_Learn_L1
      rw [if_pos (decide_eq_true h1.2), if_pos (by simp [c1]), if_pos (by simp [c2])]
      by_cases c0 : i = 0
      · subst c0
        rw [if_pos rfl, if_pos (by decide), if_neg (show ¬ 0 + 1 = 0 by omega)]
        rw [show ((0 : Nat) : Int) + 1 = 0 + 1 from rfl] at hw
        show some (Sum.inl ((0 : Int), wr_i64 (0 + 1))) = _
        rw [hw]
        simp [oldN]
      · have h2 := oldN_inL (t := t) (k := i) (by omega) (by omega)
        have h3 := h2.1
        rw [if_neg c0, if_neg (by simpa using h3), nth_getI h1, Option.bind_some, nth_getI h2, Option.bind_some, hw, if_neg (show ¬ i + 1 = 0 by omega)]
        have e : oldN t (i + 1) = if (getI t (i : Int)).seen < (getI t (oldN t i)).seen then (i : Int) else oldN t i := rfl
        rw [e]
        by_cases c : (getI t (i : Int)).seen < (getI t (oldN t i)).seen
        · rw [if_pos (decide_eq_true c), if_pos c]; rfl
        · rw [if_neg (by simpa using c), if_neg c]; rfl) (by
      show palingref26_Learn_L1 t m w now q (if t.length = 0 then -1 else oldN t t.length) t.length = _
      unfold palingref26_Learn_L1
      rw [if_neg (by simp), if_neg (by omega)])
    exact this
  · rw [if_neg c]
    refine loopM_trace (f := fun s : Int × Int => match s with | (v19, v20) => palingref26_Learn_L1 t m w now q v19 v20) (fun i => ((-1 : Int), (i : Int))) 0 (r := -1) (by omega) (fun i hi => by omega) ?_
    show palingref26_Learn_L1 t m w now q (-1) (0 : Nat) = _
    unfold palingref26_Learn_L1
    split
    · split
      · rename_i h8
        have h8 : (t.length : Int) = 8 := by simpa using h8
        have h8 : t.length = 8 := by omega
        rw [if_neg (by intro h; exact c ⟨h8, by simpa using h⟩)]
      · rfl
    · rfl
theorem ro_learn2 (hT : t.length ≤ 8) {m w now old : Int} {q : Int × Bool} (L : Nat → List Api_Entry) (h0 : L 0 = []) (hlen : ∀ i, (L i).length ≤ i)
    (hs : ∀ i : Nat, i < t.length → L (i + 1) = if (getI t (i : Int)).mac = m then L i ++ [⟨m, w, now⟩] else if (i : Int) ≠ old then L i ++ [getI t (i : Int)] else L i) :
    loopM (fun s : (List Api_Entry) × Int => match s with | (l34, v35) => palingref26_Learn_L2 t m w now q old l34 v35) ([], 0) = some (L t.length) := by
  have := loopM_trace (f := fun s : (List Api_Entry) × Int => match s with | (l34, v35) => palingref26_Learn_L2 t m w now q old l34 v35) (fun i => (L i, (i : Int))) t.length (r := L t.length) (by omega) (fun i hi => by
    have h1 : inL t (i : Int) := ⟨by omega, by omega⟩
    have hw := wr64 (n := (i : Int) + 1) (by omega) (by omega)
    have hl := hlen i
    show palingref26_Learn_L2 t m w now q old (L i) i = _
    unfold palingref26_Learn_L2
    rw [if_pos (decide_eq_true h1.2), nth_getI h1, Option.bind_some, hw, hs i hi]
    have r1 : ∀ x : Api_Entry, roomy 24 (L i ++ [x]) = true := fun x => roomy_few (by simp; omega)
    by_cases c : (getI t (i : Int)).mac = m
    · rw [if_pos (by simpa using c), if_pos (r1 _), if_pos c]; rfl
    · rw [if_neg (by simpa using c), if_neg c]
      by_cases c2 : (i : Int) = old
      · rw [if_neg (by simpa using c2), if_neg (fun h => h c2)]; rfl
      · rw [if_pos (by simpa using c2), Option.bind_some, if_pos (r1 _), if_pos c2]; rfl) (by
    show palingref26_Learn_L2 t m w now q old (L t.length) t.length = _
    unfold palingref26_Learn_L2
    rw [if_neg (by simp)])
  rw [h0] at this
  exact this
theorem take_getI {i : Nat} (h : i < t.length) : t.take (i + 1) = t.take i ++ [getI t (i : Int)] := by
  rw [List.take_add_one]
  congr 1
  have := getI_get? (l := t) (i := (i : Int)) ⟨by omega, by omega⟩
  simp at this
  simp [this]
theorem rLearn_spec (hto : okL Api_Entry.Ok t) (hlen : t.length ≤ 1000000) {m w now : Int} (h1 : 0 ≤ m) (h2 : m < 18446744073709551616) : palingref26_Learn t m w now = some (learnL t m w now) := by
  have hr : roomy 24 t = true := roomy_few (by omega)
  unfold palingref26_Learn learnL
  rw [rtable_Right_spec hto, Option.bind_some]
  by_cases hT : TabP t
  case neg => rw [if_pos (by simpa using hT), if_pos hr, if_neg (fun h => hT h.1)]
  rw [if_neg (by simpa using hT), rstation_spec h1 h2, Option.bind_some]
  by_cases hS : StaP m
  case neg => rw [if_pos (by simpa using hS), if_pos hr, if_neg (fun h => hS h.2.1)]
  rw [if_neg (by simpa using hS), rtimely_spec, Option.bind_some]
  by_cases hN : TimP now
  case neg => rw [if_pos (by simpa using hN), if_pos hr, if_neg (fun h => hN h.2.2)]
  have hf : Few t := hlen
  have h8 := hT.1
  rw [if_neg (by simpa using hN), if_pos ⟨hT, hS, hN⟩, r26Find_spec hf, Option.bind_some, ro_learn1 h8, Option.bind_some]
  dsimp only
  have hq : (tabF t m).2 = decide (0 ≤ tabI t m) := by
    unfold tabF tabI
    by_cases c : 0 ≤ fstI t (fun e => e.mac = m) <;> simp [c]
  rw [hq]
  by_cases c : 0 ≤ tabI t m
  · have hin : inL t (tabI t m) := fstI_inL.1 c
    have his : (getI t (tabI t m)).mac = m := fstI_is (l := t) (P := fun e => e.mac = m) c
    rw [if_neg (by simp [c]), if_pos c]
    rw [ro_learn2 h8 (fun i => (t.set (tabI t m).toNat ⟨m, w, now⟩).take i) rfl (fun i => by simp; omega) (fun i hi => by
      have hs : (t.set (tabI t m).toNat ⟨m, w, now⟩).take (i + 1) = (t.set (tabI t m).toNat ⟨m, w, now⟩).take i ++ [getI (t.set (tabI t m).toNat ⟨m, w, now⟩) (i : Int)] := take_getI (by simpa using hi)
      have hi' : inL t (i : Int) := ⟨by omega, by omega⟩
      have hg : getI (t.set (tabI t m).toNat ⟨m, w, now⟩) (i : Int) = if (i : Int) = tabI t m then ⟨m, w, now⟩ else getI t (i : Int) := by
        have a1 := hin.1; have a2 := hin.2
        unfold getI
        by_cases e : (i : Int) = tabI t m
        · rw [if_pos e, e, List.getElem?_set_self (by omega)]; rfl
        · rw [if_neg e, List.getElem?_set_ne (by omega)]
      rw [hs, hg]
      by_cases e : (i : Int) = tabI t m
      · rw [if_pos e, if_pos (by rw [e]; exact his)]
      · have hne : ¬ (getI t (i : Int)).mac = m := fun h => by
          have := (hT.2 _ hi').2.2
          rw [h] at this
          exact e this.symm
        rw [if_neg e, if_neg hne, if_pos (by omega)])]
    have e : (t.set (tabI t m).toNat ⟨m, w, now⟩).take t.length = t.set (tabI t m).toNat ⟨m, w, now⟩ := List.take_of_length_le (by simp)
    simp only [Option.bind_some, e]
    rw [if_neg (by simp [c])]
  · have hnone : ∀ i : Nat, i < t.length → ¬ (getI t (i : Int)).mac = m := fun i hi => fstI_none.1 (show fstI t (fun e => e.mac = m) < 0 from by unfold tabI at c; omega) i ⟨by omega, by omega⟩
    rw [if_neg c]
    by_cases c8 : t.length = 8
    · have ho := oldN_inL (t := t) (k := t.length) (Nat.le_refl _) (by omega)
      have o1 := ho.1; have o2 := ho.2
      rw [if_pos ⟨c8, by simp [c]⟩, if_pos c8]
      rw [ro_learn2 h8 (fun i => (t.take i).eraseIdx (oldN t t.length).toNat) (by simp) (fun i => by have := List.length_eraseIdx_le (t.take i) (oldN t t.length).toNat; rw [List.length_take] at this; omega) (fun i hi => by
        have htl : (t.take i).length = i := by rw [List.length_take]; omega
        show (t.take (i + 1)).eraseIdx _ = _
        rw [take_getI hi, if_neg (hnone i hi)]
        by_cases e : (i : Int) = oldN t t.length
        · rw [if_neg (fun h => h e), List.eraseIdx_append_of_length_le (by omega)]
          have e1 : (oldN t t.length).toNat - (t.take i).length = 0 := by omega
          rw [e1]
          have e2 : (t.take i).eraseIdx (oldN t t.length).toNat = t.take i := List.eraseIdx_of_length_le (by omega)
          rw [e2]; simp
        · rw [if_pos e]
          by_cases e2 : (oldN t t.length).toNat < i
          · rw [List.eraseIdx_append_of_lt_length (by omega)]
          · rw [List.eraseIdx_append_of_length_le (by omega), List.eraseIdx_of_length_le (l := [getI t (i : Int)]) (by simp; omega), List.eraseIdx_of_length_le (l := t.take i) (by omega)])]
      have e : t.take t.length = t := List.take_length
      simp only [Option.bind_some, e]
      rw [if_pos (by simp [c]), if_pos (roomy_few (by have := List.length_eraseIdx_le t (oldN t t.length).toNat; simp; omega))]
    · rw [if_neg (fun h => c8 h.1), if_neg c8]
      rw [ro_learn2 h8 (fun i => t.take i) (by simp) (fun i => by simp; omega) (fun i hi => by
        rw [if_neg (hnone i hi), if_pos (by omega)]
        exact take_getI hi)]
      have e : t.take t.length = t := List.take_length
      simp only [Option.bind_some, e]
      rw [if_pos (by simp [c]), if_pos (roomy_few (by simp; omega))]
end
end Go.Eng
