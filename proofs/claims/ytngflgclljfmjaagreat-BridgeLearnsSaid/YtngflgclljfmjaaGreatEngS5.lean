/- Chapter 31 (bridge): tables behind a step: BridgeLearns. -/
import Derived.Test.YtngflgclljfmjaaGreatEngS4
set_option linter.unusedVariables false
set_option linter.unusedSectionVars false
set_option linter.unusedSimpArgs false
namespace Go.Eng
open Go Classical
attribute [local congr] ite_cg
section
variable {n : Api_Net} {fw : List Bool} {t : List Api_Entry} {d now : Int} {q : Api_Queued}
def DifP (t : List Api_Entry) : Prop := t.Pairwise fun a b => a.mac ≠ b.mac
theorem difP_ix : DifP t ↔ ∀ i j : Int, inL t i → inL t j → i < j → (getI t i).mac ≠ (getI t j).mac := by
  have hg : ∀ (i : Nat) (h : i < t.length), getI t (i : Int) = t[i] := fun i h => by
    unfold getI; simp [h]
  unfold DifP
  rw [List.pairwise_iff_getElem]
  constructor
  · intro h i j hi hj hij
    obtain ⟨a, rfl⟩ : ∃ a : Nat, i = (a : Int) := ⟨i.toNat, by have := hi.1; omega⟩
    obtain ⟨b, rfl⟩ : ∃ b : Nat, j = (b : Int) := ⟨j.toNat, by have := hj.1; omega⟩
    have h1 := hi.2; have h2 := hj.2
    have := h a b (by omega) (by omega) (by omega)
    rw [hg a (by omega), hg b (by omega)]
    exact this
  · intro h i j hi hj hij
    have := h i j ⟨by omega, by omega⟩ ⟨by omega, by omega⟩ (by omega)
    rw [hg i hi, hg j hj] at this
    exact this
theorem difP_uni (h : DifP t) {x y : Api_Entry} (hx : x ∈ t) (hy : y ∈ t) (hm : x.mac = y.mac) : x = y := by
  obtain ⟨i, hi, rfl⟩ := mem_getI hx
  obtain ⟨j, hj, rfl⟩ := mem_getI hy
  have h := difP_ix.1 h
  by_cases c : i < j
  · exact absurd hm (h i j hi hj c)
  by_cases c2 : j < i
  · exact absurd hm.symm (h j i hj hi c2)
  · have : i = j := by omega
    rw [this]
theorem tabP_iff : TabP t ↔ t.length ≤ 8 ∧ (∀ x ∈ t, StaP x.mac ∧ TimP x.seen) ∧ DifP t := by
  unfold TabP
  constructor
  · rintro ⟨h1, h2⟩
    refine ⟨h1, fun x hx => ?_, difP_ix.2 fun i j hi hj hij he => ?_⟩
    · obtain ⟨i, hi, rfl⟩ := mem_getI hx
      have := h2 i hi
      exact ⟨this.1, this.2.1⟩
    · have h3 := (h2 j hj).2.2
      have h4 := ((fstI_eq hj).1 h3).2 i hi hij
      exact h4 he
  · rintro ⟨h1, h2, h3⟩
    refine ⟨h1, fun i hi => ?_⟩
    have := h2 _ (getI_mem hi)
    refine ⟨this.1, this.2, (fstI_eq hi).2 ⟨rfl, fun j hj hlt he => ?_⟩⟩
    exact difP_ix.1 h3 j i hj hi hlt he
theorem learnL_is (hT : TabP t) {m w : Int} (hS : StaP m) (hN : TimP now) :
    TabP (learnL t m w now) ∧ (⟨m, w, now⟩ : Api_Entry) ∈ learnL t m w now ∧ ∀ x ∈ learnL t m w now, x ∈ t ∨ x.mac = m := by
  have hT2 := tabP_iff.1 hT
  obtain ⟨h8, hE, hD⟩ := hT2
  unfold learnL
  rw [if_pos ⟨hT, hS, hN⟩]
  by_cases c : 0 ≤ tabI t m
  · have hin : inL t (tabI t m) := fstI_inL.1 c
    have his : (getI t (tabI t m)).mac = m := fstI_is (l := t) (P := fun e => e.mac = m) c
    have i1 := hin.1; have i2 := hin.2
    rw [if_pos c]
    refine ⟨tabP_iff.2 ⟨by simpa using h8, fun x hx => ?_, ?_⟩, ?_, fun x hx => ?_⟩
    · rcases List.mem_or_eq_of_mem_set hx with h | h
      · exact hE x h
      · rw [h]; exact ⟨hS, hN⟩
    · refine difP_ix.2 fun i j hi hj hij => ?_
      have hi' := inL_setI.1 hi
      have hj' := inL_setI.1 hj
      have hk : ∀ k, inL t k → (getI (t.set (tabI t m).toNat ⟨m, w, now⟩) k).mac = (getI t k).mac := fun k hk => by
        rw [getI_setI hin hk]
        split
        · rename_i e; rw [e, his]
        · rfl
      rw [hk i hi', hk j hj']
      exact difP_ix.1 hD i j hi' hj' hij
    · exact List.mem_of_getElem? (i := (tabI t m).toNat) (by rw [List.getElem?_set_self (by omega)])
    · rcases List.mem_or_eq_of_mem_set hx with h | h
      · exact .inl h
      · exact .inr (by rw [h])
  · have hno : ∀ x ∈ t, x.mac ≠ m := fun x hx => by
      obtain ⟨i, hi, rfl⟩ := mem_getI hx
      exact fstI_none.1 (show fstI t (fun e => e.mac = m) < 0 from by unfold tabI at c; omega) i hi
    rw [if_neg c]
    have main : ∀ r : List Api_Entry, r.Sublist t → r.length ≤ 7 → TabP (r ++ [⟨m, w, now⟩]) ∧ (⟨m, w, now⟩ : Api_Entry) ∈ r ++ [⟨m, w, now⟩] ∧ ∀ x ∈ r ++ [(⟨m, w, now⟩ : Api_Entry)], x ∈ t ∨ x.mac = m := by
      intro r hr hl
      refine ⟨tabP_iff.2 ⟨by simp; omega, fun x hx => ?_, ?_⟩, by simp, fun x hx => ?_⟩
      · rcases List.mem_append.1 hx with h | h
        · exact hE x (hr.mem h)
        · rw [List.mem_singleton] at h; rw [h]; exact ⟨hS, hN⟩
      · unfold DifP
        rw [List.pairwise_append]
        refine ⟨List.Pairwise.sublist hr hD, List.pairwise_singleton _ _, fun x hx y hy => ?_⟩
        rw [List.mem_singleton] at hy
        rw [hy]
        exact hno x (hr.mem hx)
      · rcases List.mem_append.1 hx with h | h
        · exact .inl (hr.mem h)
        · rw [List.mem_singleton] at h; exact .inr (by rw [h])
    by_cases c8 : t.length = 8
    · rw [if_pos c8]
      have ho := oldN_inL (t := t) (k := t.length) (Nat.le_refl _) (by omega)
      have o1 := ho.1; have o2 := ho.2
      exact main _ (List.eraseIdx_sublist _ _) (by rw [List.length_eraseIdx_of_lt (by omega)]; omega)
    · rw [if_neg c8]
      exact main t (List.Sublist.refl t) (by omega)
theorem tabF_mem (hD : DifP t) {m w : Int} {s : Int} (h : (⟨m, w, s⟩ : Api_Entry) ∈ t) : tabF t m = (w, true) := by
  have hex : 0 ≤ fstI t (fun e => e.mac = m) := by
    apply Classical.byContradiction
    intro hn
    exact fstI_none_mem.1 (show fstI t (fun e => e.mac = m) < 0 by omega) _ h rfl
  unfold tabF
  rw [if_pos hex]
  have h1 := fstI_is (l := t) (P := fun e => e.mac = m) hex
  have h2 := difP_uni hD (getI_mem (fstI_inL.1 hex)) h h1
  rw [h2]
theorem tabF_there {x : Api_Entry} (h : x ∈ t) : (tabF t x.mac).2 = true := by
  have hex : 0 ≤ fstI t (fun e => e.mac = x.mac) := by
    apply Classical.byContradiction
    intro hn
    exact fstI_none_mem.1 (show fstI t (fun e => e.mac = x.mac) < 0 by omega) _ h rfl
  unfold tabF
  rw [if_pos hex]
theorem tSame_self (hl : t.length ≤ 1000000) : table_Same t t = some true := by
  unfold table_Same slices_Equal_Entry
  have hf : Few t := hl
  rw [if_neg (by simp), loop_each t (fun _ _ => True) (.inl ()) (.inr ()) hf (fun i h0 h1 h2 => by
    have hw := wr64 (n := i + 1) (by omega) (by omega)
    simp only [slices_Equal_Entry_L1, h1, nth_getI h2, hw, decide_true, if_true, Option.bind_some]
    have : eq_Api_Entry (getI t i) (getI t i) = true := by unfold eq_Api_Entry; simp
    simp [this]) (by simp [slices_Equal_Entry_L1]), if_pos (show EachP t (fun _ _ => True) from fun _ _ => trivial)]
  rfl
end
theorem bridgeLearns (n : Api_Net) (fw : List Bool) (t : List Api_Entry) (d : Int) (q : Api_Queued) (now : Int) (hn : n.Ok) (_ : okL okB fw) (ht : okL Api_Entry.Ok t) (_ : okI .i64 d) (hq : q.Ok) (hw : okI .i64 now) : palinglaw31_BridgeLearns n fw t d q now = some true := by
  have hsrc := okU64 (show okI .u64 q.frame.src from hq.2.2.2.1.2.1)
  unfold palinglaw31_BridgeLearns
  rw [works31, Option.bind_some, if_neg (by simp), Great31_spec, Option.bind_some]
  by_cases hg : BndN n 200 100 ∧ fw.length ≤ 200 ∧ t.length ≤ 200 ∧ q.frame.body.length ≤ 4000
  case neg => rw [if_pos (decide_eq_true hg)]
  rw [if_neg (by rw [decide_eq_true_eq]; exact fun h => h hg), mac_Group_spec hsrc.1 hsrc.2, Option.bind_some]
  obtain ⟨hg, g1, g2, g3⟩ := hg
  by_cases c1 : GrpP q.frame.src
  · rw [if_pos (decide_eq_true c1)]
  rw [if_neg (by simpa using c1)]
  by_cases c2 : q.frame.src > 281474976710655
  · rw [if_pos (decide_eq_true c2)]
  rw [if_neg (by simpa using c2)]
  by_cases c3 : now < 0
  · rw [if_pos (decide_eq_true c3)]
  rw [if_neg (by simpa using c3)]
  by_cases c4 : now > 1099511627776
  · rw [if_pos (decide_eq_true c4)]
  rw [if_neg (by simpa using c4)]
  have hs := hg.sm
  have hQ : QOk q now := ⟨hq.2.2.2.1, hq.1, hw, g3⟩
  have hS : StaP q.frame.src := ⟨by omega, c1⟩
  have hN : TimP now := ⟨by omega, by omega⟩
  obtain ⟨u, o, e, hP, h1, _⟩ := step_both (fw := fw) (d := d) hn hs ht g2 hQ
  rw [h1]
  simp only [Option.bind_some]
  have main : OpenP n fw d q.from_ → TabP t → u = learnU t q now → e ≠ 2 → (if (e == 2) = true then some ((u.length : Int) == 0) else (table_Right u).bind fun r25 => if (!r25) = true then some false else (loopM (palinglaw31_BridgeLearns_L1 t q u) 0).bind fun r37 => match r37 with
      | Sum.inl () => some false
      | Sum.inr () => (table_Find u q.frame.src).bind fun r38 => if (q.from_ == (-2)) = true then (table_Same t u).bind fun r41 => some r41 else if (q.from_ == (-1)) = true then (if (r38.2) = true then some (r38.1 == (wr_i64 ((-1) - q.peer))) else some false) else if (r38.2) = true then some (r38.1 == q.from_) else some false) = some true := by
    intro ho hT hu he
    obtain ⟨huo, hul⟩ := learnU_ok (now := now) ht g2 hQ
    rw [← hu] at huo hul
    have huf : Few u := by unfold Few; omega
    have htf : Few t := by unfold Few; omega
    have hTu : TabP u := by
      rw [hu]; unfold learnU
      split
      · exact hT
      split
      · exact (learnL_is hT hS hN).1
      · exact (learnL_is hT hS hN).1
    have hmem : ∀ x ∈ u, x ∈ t ∨ x.mac = q.frame.src := by
      rw [hu]; unfold learnU
      split
      · exact fun x hx => .inl hx
      split
      · exact (learnL_is hT hS hN).2.2
      · exact (learnL_is hT hS hN).2.2
    rw [if_neg (by simpa using he), table_Right_spec huo, Option.bind_some, if_neg (by simp [hTu])]
    rw [loop_each u (fun _ _ => True) (.inl ()) (.inr ()) huf (fun i h0 h1 h2 => by
      have hw := wr64 (n := i + 1) (by omega) (by omega)
      simp only [palinglaw31_BridgeLearns_L1, h1, nth_getI h2, table_Find_spec htf, hw, decide_true, if_true, Option.bind_some]
      rcases hmem _ (getI_mem h2) with h | h
      · have := tabF_there h
        simp [this]
      · by_cases c : (tabF t (getI u i).mac).2 = true
        · simp [c]
        · simp [c, h]) (by simp [palinglaw31_BridgeLearns_L1]), if_pos (show EachP u (fun _ _ => True) from fun _ _ => trivial)]
    simp only [Option.bind_some]
    rw [table_Find_spec huf]
    simp only [Option.bind_some]
    by_cases d1 : q.from_ = -2
    · have hut : u = t := by rw [hu]; unfold learnU; rw [if_pos d1]
      rw [if_pos (by simp [d1]), hut, tSame_self (by omega)]; rfl
    rw [if_neg (by simpa using d1)]
    have hDu := (tabP_iff.1 hTu).2.2
    by_cases d2 : q.from_ = -1
    · have hm : (⟨q.frame.src, wr_i64 (-1 - q.peer), now⟩ : Api_Entry) ∈ u := by
        rw [hu]; unfold learnU; rw [if_neg d1, if_pos d2]; exact (learnL_is hT hS hN).2.1
      rw [if_pos (by simp [d2]), tabF_mem hDu hm]; simp
    · have hm : (⟨q.frame.src, q.from_, now⟩ : Api_Entry) ∈ u := by
        rw [hu]; unfold learnU; rw [if_neg d1, if_neg d2]; exact (learnL_is hT hS hN).2.1
      rw [if_neg (by simpa using d2), tabF_mem hDu hm]; simp
  cases hP with
  | shut => simp
  | bad e ho hT he he2 => exact main ho hT rfl he2
  | hop to f ho hT hf => exact main ho hT rfl (by decide)
  | out ho hT => exact main ho hT rfl (by decide)
end Go.Eng
