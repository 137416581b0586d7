/- Chapter 43 (matrix): a table of who is apart, against leaks and ways: MatrixApart. -/
import Derived.Test.YtcclngfmkodgjaaGreatEngZ7
import Derived.Test.YtcclngfmkodgjaaGreatEngZ2
set_option linter.unusedVariables false
set_option linter.unusedSectionVars false
set_option linter.unusedSimpArgs false
namespace Go.Eng
open Go Classical
attribute [local congr] ite_cg
section
variable {n : Api_Net} {of sets : List Int}
theorem mOwners_Of {l : List Int} {t : Int} (hl : Few l) : owners_Of l t = some (ofL l t) := by
  have hf : l.length ≤ 1000000 := hl
  unfold owners_Of
  rw [loop_gather (f := fun s : (List Int) × Int => match s with | (l3, v4) => owners_Of_L1 l t l3 v4) l (fun _ x => x = t) (fun i _ => i) (out := id) hl (fun i s h0 h1 h2 h3 => by
    have h5 : roomy 8 (s ++ [i]) = true := roomy_few (by simp; omega)
    have hw := wr64 (n := i + 1) (by omega) (by omega)
    simp only [owners_Of_L1, h1, nth_getI h2, h5, hw, decide_true, if_true, Option.bind_some]
    by_cases c : getI l i = t
    · rw [if_pos (by simpa using c), if_pos c]
    · rw [if_neg (by simpa using c), if_neg c]) (fun s => by simp [owners_Of_L1])]
  rfl
theorem ofL_in {l : List Int} {t x : Int} : x ∈ ofL l t ↔ inL l x ∧ getI l x = t := by
  unfold ofL
  rw [mem_gatherI]
  constructor
  · rintro ⟨i, hi, h1, rfl⟩; exact ⟨hi, h1⟩
  · rintro ⟨h1, h2⟩; exact ⟨x, h1, h2, rfl⟩
theorem ofL_take {l : List Int} {t : Int} : ∀ k, k ≤ l.length → ∀ m : Int, (∀ j, j < k → (getI l (j : Int) = t ↔ hit43 l sets t t j)) → (ofL (l.take k) t).length = (mny43 l sets t t k).1
  | 0, _, _, _ => by simp [ofL, gatherI, mny43]
  | k + 1, hk, m, h => by
    have ih := ofL_take k (by omega) m (fun j hj => h j (by omega))
    have hx : l[k]? = some (getI l (k : Int)) := by
      have := getI_get? (l := l) (i := (k : Int)) ⟨by omega, by omega⟩
      rwa [Int.toNat_natCast] at this
    have e : (ofL (l.take (k + 1)) t).length = (ofL (l.take k) t).length + if getI l (k : Int) = t then 1 else 0 := by
      unfold ofL gatherI
      rw [List.take_add_one, hx]
      simp only [Option.toList_some]
      rw [List.zipIdx_append, List.filterMap_append, List.length_append]
      congr 1
      by_cases c : getI l (k : Int) = t
      · simp [c]
      · simp [c]
    rw [e, mny43]
    by_cases c : getI l (k : Int) = t
    · rw [if_pos c, if_pos ((h k (by omega)).1 c), ← ih]; simp
    · rw [if_neg c, if_neg (fun q => c ((h k (by omega)).2 q)), ← ih]; simp
theorem mny_pos {s t : Int} : ∀ k, 0 < (mny43 of sets s t k).1 ↔ ∃ j, j < k ∧ hit43 of sets s t j
  | 0 => by simp [mny43]
  | k + 1 => by
    have ih := mny_pos (s := s) (t := t) k
    have hb := mny_bnd (of := of) (sets := sets) (s := s) (t := t) k
    rw [mny43]
    by_cases c : hit43 of sets s t k
    · rw [if_pos c]
      exact ⟨fun _ => ⟨k, by omega, c⟩, fun _ => by simp only; omega⟩
    · rw [if_neg c, ih]
      constructor
      · rintro ⟨j, hj, h⟩; exact ⟨j, by omega, h⟩
      · rintro ⟨j, hj, h⟩
        by_cases e : j = k
        · subst e; exact absurd h c
        · exact ⟨j, by omega, h⟩
theorem mny_to {s t : Int} : ∀ k, 0 ≤ (mny43 of sets s t k).2 → hit43 of sets s t (mny43 of sets s t k).2.toNat
  | 0 => by simp [mny43]
  | k + 1 => by
    have ih := mny_to (s := s) (t := t) k
    rw [mny43]
    by_cases c : hit43 of sets s t k
    · rw [if_pos c]
      simp only
      by_cases d : (mny43 of sets s t k).2 < 0
      · rw [if_pos d, Int.toNat_natCast]; exact fun _ => c
      · rw [if_neg d]; exact ih
    · rw [if_neg c]; exact ih
theorem sets_has (ho : OwnP n of) {k : Int} (hk : inL n.ports k) {s : Int} : hasP (getI (sets43 n of) k) s ↔ 0 ≤ getI of k ∧ 0 ≤ s ∧ s < 10 ∧ inPort n of k s.toNat := by
  have hlk := port_link ho.2.1 hk
  have hown := ho.2.2 k (owner_ok ho hk).1
  unfold hasP sets43
  rw [mkG_get ⟨hk.1, hk.2⟩]
  by_cases c : (getI n.ports k).link = -1
  · rw [if_pos c]
    have h0 := (hown.2 (by omega)).1
    obtain ⟨_, _, s2⟩ := setN_b (inPort n of k)
    rw [s2, decide_eq_true_eq]
    exact ⟨fun h => ⟨h0, h.1, h.2.1, h.2.2.2⟩, fun h => ⟨h.2.1, h.2.2.1, by omega, h.2.2.2⟩⟩
  · rw [if_neg c]
    have h0 : getI of k = -1 := hown.1 (by omega)
    rw [tb_zero]
    exact ⟨fun h => absurd h.2.2 (by simp), fun h => by omega⟩
theorem hit_iff (ho : OwnP n of) {s t : Int} (hs : 0 ≤ s ∧ s < 10) (ht : 0 ≤ t) {j : Nat} (hj : j < n.ports.length) : hit43 of (sets43 n of) s t j ↔ getI of (j : Int) = t ∧ ∃ a, inL n.ports a ∧ getI of a = s ∧ (a = (j : Int) ∨ WayP n a j) := by
  have hin : inL n.ports (j : Int) := ⟨by omega, by omega⟩
  unfold hit43
  refine and_congr_right fun h => ?_
  rw [sets_has ho hin]
  have h0 : 0 ≤ getI of (j : Int) := by omega
  rw [inPort_iff ho hin h0]
  constructor
  · rintro ⟨_, _, _, a, h1, h2, h3⟩; exact ⟨a, h1, by omega, h3⟩
  · rintro ⟨a, h1, h2, h3⟩; exact ⟨h0, hs.1, hs.2, a, h1, by omega, h3⟩
theorem cell_get {T k : Nat} {s t : Int} (hs : 0 ≤ s ∧ s < T) (ht : 0 ≤ t ∧ t < T) : inL (tab43 of sets T k) s ∧ getI (tab43 of sets T k) s = row43 of sets T k s ∧ inL (row43 of sets T k s) t ∧ getI (row43 of sets T k s) t = cel43 of sets s t k := by
  have e1 : (tab43 of sets T k).length = T := by unfold tab43; simp
  have e2 : (row43 of sets T k s).length = T := by unfold row43; simp
  have i1 : inL (tab43 of sets T k) s := ⟨hs.1, by omega⟩
  have i2 : inL (row43 of sets T k s) t := ⟨ht.1, by omega⟩
  refine ⟨i1, ?_, i2, ?_⟩
  · have h := getI_get? i1
    unfold tab43 at h
    rw [List.getElem?_map, List.getElem?_range (by omega)] at h
    simp only [Option.map_some, Option.some.injEq] at h
    rw [show ((s.toNat : Nat) : Int) = s by omega] at h
    unfold tab43
    exact h.symm
  · have h := getI_get? i2
    unfold row43 at h
    rw [List.getElem?_map, List.getElem?_range (by omega)] at h
    simp only [Option.map_some, Option.some.injEq] at h
    rw [show ((t.toNat : Nat) : Int) = t by omega] at h
    unfold row43
    exact h.symm
theorem one_own {a b s : Int} (h : (ofL of s).length = 1) (ha : inL of a ∧ getI of a = s) (hb : inL of b ∧ getI of b = s) : a = b := by
  obtain ⟨x, e⟩ := List.length_eq_one_iff.1 h
  have h1 := ofL_in.2 ha
  have h2 := ofL_in.2 hb
  rw [e, List.mem_singleton] at h1 h2
  omega
theorem apart_iff (ho : OwnP n of) : ApP (tab43 of (sets43 n of) 10 of.length) ↔ ¬ LeakW n of := by
  have hol : of.length = n.ports.length := ho.1
  constructor
  · rintro h ⟨a, b, ha, hb, a0, b0, hne, hw⟩
    have hap : inL n.ports a := ⟨ha.1, by have := ha.2; omega⟩
    have hbp : inL n.ports b := ⟨hb.1, by have := hb.2; omega⟩
    have ha1 := (owner_ok ho hap).2
    have hb1 := (owner_ok ho hbp).2
    obtain ⟨c1, c2, c3, c4⟩ := cell_get (of := of) (sets := sets43 n of) (T := 10) (k := of.length) (s := getI of a) (t := getI of b) ⟨a0, by omega⟩ ⟨b0, by omega⟩
    have h1 := h _ c1
    rw [c2] at h1
    have h2 := h1 _ c3
    rw [c4] at h2
    rcases h2 with h2 | h2
    · exact hne h2
    · have hp := (mny_pos (of := of) (sets := sets43 n of) (s := getI of a) (t := getI of b) of.length).2 ⟨b.toNat, by have := hb.1; have := hb.2; omega, (hit_iff ho ⟨a0, by omega⟩ b0 (by have := hbp.1; have := hbp.2; omega)).2 (by
        rw [show ((b.toNat : Nat) : Int) = b by have := hb.1; omega]
        exact ⟨rfl, a, hap, rfl, .inr hw⟩)⟩
      have : (mny43 of (sets43 n of) (getI of a) (getI of b) of.length).1 = 0 := h2
      omega
  · intro hno s hs t ht
    have e1 : (tab43 of (sets43 n of) 10 of.length).length = 10 := by unfold tab43; simp
    have s1 : 0 ≤ s ∧ s < 10 := ⟨hs.1, by have := hs.2; omega⟩
    obtain ⟨c1, c2, _, _⟩ := cell_get (of := of) (sets := sets43 n of) (T := 10) (k := of.length) (s := s) (t := 0) ⟨s1.1, by omega⟩ ⟨by omega, by omega⟩
    rw [c2] at ht ⊢
    have e2 : (row43 of (sets43 n of) 10 of.length s).length = 10 := by unfold row43; simp
    have t1 : 0 ≤ t ∧ t < 10 := ⟨ht.1, by have := ht.2; omega⟩
    obtain ⟨_, _, _, c4⟩ := cell_get (of := of) (sets := sets43 n of) (T := 10) (k := of.length) (s := s) (t := t) ⟨s1.1, by omega⟩ ⟨t1.1, by omega⟩
    rw [c4]
    by_cases est : s = t
    · exact .inl est
    right
    apply Classical.byContradiction
    intro hc
    have hb := mny_bnd (of := of) (sets := sets43 n of) (s := s) (t := t) of.length
    have hc' : ¬ (mny43 of (sets43 n of) s t of.length).1 = 0 := hc
    obtain ⟨j, hj, hh⟩ := (mny_pos (of := of) (sets := sets43 n of) (s := s) (t := t) of.length).1 (by omega)
    obtain ⟨h1, a, ha, h2, h3⟩ := (hit_iff ho s1 t1.1 (by omega)).1 hh
    rcases h3 with rfl | h3
    · exact est (h2.symm.trans h1)
    · exact hno ⟨a, (j : Int), ⟨ha.1, by have := ha.2; omega⟩, ⟨by omega, by omega⟩, by omega, by omega, by rw [h1, h2]; exact est, h3⟩
end
theorem matrixApart (n : Api_Net) (of : List Int) (hn : n.Ok) (_ : okL (okI .i64) of) : palinglaw43_MatrixApart n of = some true := by
  simp only [palinglaw43_MatrixApart, Great_spec, Option.bind_some, works43, Bool.not_true, Bool.false_eq_true, if_false]
  by_cases hg : BndN n 200 100
  case neg => simp [hg]
  simp only [hg, not_true_eq_false, decide_false, Bool.false_eq_true, if_false]
  by_cases h2 : of.length ≤ 300
  case neg => rw [if_pos (decide_eq_true (by omega))]
  rw [if_neg (by simp; omega)]
  have hf : Few of := by unfold Few; omega
  obtain ⟨la, lb, eL⟩ := leaks37_spec hn hg hf
  rw [mOf_is hn hg h2, Option.bind_some, eL]
  by_cases hfit : FitP n of 10
  case neg => rw [if_neg hfit]; simp
  rw [if_pos hfit]
  have ho := hfit.2.2.1
  have hol : of.length = n.ports.length := ho.1
  have hT : (10 : Int).toNat = 10 := rfl
  rw [hT]
  have e1 : (tab43 of (sets43 n of) 10 of.length).length = 10 := by unfold tab43; simp
  have hrow : ∀ r ∈ tab43 of (sets43 n of) 10 of.length, r.length ≤ 300 := by
    intro r hr
    obtain ⟨s, _, rfl⟩ := List.mem_map.1 hr
    unfold row43; simp
  simp only [Option.bind_some, Bool.not_true, Bool.false_eq_true, if_false]
  rw [if_neg (by simp), mapart (by omega) hrow, Option.bind_some]
  have hcl : (OwnP n of ∧ LeakW n of) ↔ ¬ ApP (tab43 of (sets43 n of) 10 of.length) := by
    rw [apart_iff ho]
    exact ⟨fun h q => q h.2, fun h => ⟨ho, Classical.byContradiction h⟩⟩
  have hb1 : (decide (ApP (tab43 of (sets43 n of) 10 of.length)) == decide (OwnP n of ∧ LeakW n of)) = false := by
    rw [show decide (OwnP n of ∧ LeakW n of) = !decide (ApP (tab43 of (sets43 n of) 10 of.length)) by
      rw [← decide_not]; exact decide_eq_decide.2 hcl]
    cases decide (ApP (tab43 of (sets43 n of) 10 of.length)) <;> rfl
  rw [hb1, if_neg (by simp)]
  rw [loop_pass (f := palinglaw43_MatrixApart_L1 n of (tab43 of (sets43 n of) 10 of.length) 10) (tab43 of (sets43 n of) 10 of.length) (.inr () : Unit ⊕ Unit) (by unfold Few; omega) (fun s s0 s1 hs => by
    have hw := wr64 (n := s + 1) (by omega) (by omega)
    have s1' : s < 10 := by omega
    obtain ⟨c1, c2, c3, c4⟩ := cell_get (of := of) (sets := sets43 n of) (T := 10) (k := of.length) (s := s) (t := s) ⟨s0, by omega⟩ ⟨s0, by omega⟩
    have e2 : (row43 of (sets43 n of) 10 of.length s).length = 10 := by unfold row43; simp
    have hdiag : (cel43 of (sets43 n of) s s of.length).ports = ((ofL of s).length : Int) := by
      have := ofL_take (l := of) (sets := sets43 n of) (t := s) of.length (Nat.le_refl _) 0 (fun j hj => by
        rw [hit_iff ho ⟨s0, s1'⟩ s0 (by omega)]
        exact ⟨fun h => ⟨h, (j : Int), ⟨by omega, by omega⟩, h, .inl rfl⟩, fun h => h.1⟩)
      rw [List.take_length] at this
      exact this.symm
    simp only [palinglaw43_MatrixApart_L1]
    rw [if_pos (decide_eq_true (by omega)), if_pos (linT c1), getI_get? c1, Option.bind_some, c2, if_neg (by rw [e2]; simp), nth_getI c3, Option.bind_some, c4, mOwners_Of hf, Option.bind_some]
    rw [if_neg (by simpa using hdiag)]
    rw [loop_pass (f := palinglaw43_MatrixApart_L2 n of (tab43 of (sets43 n of) 10 of.length) 10 s (row43 of (sets43 n of) 10 of.length s)) (row43 of (sets43 n of) 10 of.length s) (.inr () : Unit ⊕ Unit) (by unfold Few; omega) (fun t t0 t1 ht => by
      have hw2 := wr64 (n := t + 1) (by omega) (by omega)
      have t1' : t < 10 := by omega
      obtain ⟨_, _, d3, d4⟩ := cell_get (of := of) (sets := sets43 n of) (T := 10) (k := of.length) (s := s) (t := t) ⟨s0, by omega⟩ ⟨t0, by omega⟩
      have hb := mny_bnd (of := of) (sets := sets43 n of) (s := s) (t := t) of.length
      simp only [palinglaw43_MatrixApart_L2]
      rw [if_pos (decide_eq_true t1), nth_getI d3, Option.bind_some, d4]
      have p1 : (cel43 of (sets43 n of) s t of.length).ports = (mny43 of (sets43 n of) s t of.length).1 := rfl
      have p2 : (cel43 of (sets43 n of) s t of.length).from_ = if 0 < (mny43 of (sets43 n of) s t of.length).1 then frm43 of s else -1 := rfl
      have p3 : (cel43 of (sets43 n of) s t of.length).to = (mny43 of (sets43 n of) s t of.length).2 := rfl
      rw [p1, p2, p3]
      by_cases z : (mny43 of (sets43 n of) s t of.length).1 = 0
      · have z2 := hb.2.2.2.2.1 z
        rw [if_pos (by simpa using z), z, z2, if_neg (show ¬ ((0 : Int) < 0) by omega), hw2]
        simp
      have zp : 0 < (mny43 of (sets43 n of) s t of.length).1 := by omega
      rw [if_neg (by simpa using z), if_pos zp, hw2]
      have hto0 : 0 ≤ (mny43 of (sets43 n of) s t of.length).2 := by
        have : ¬ (mny43 of (sets43 n of) s t of.length).2 = -1 := fun q => z (hb.2.2.2.2.2 q)
        omega
      have hlt := hb.2.2.2.1
      have hh := mny_to of.length hto0
      generalize hto : (mny43 of (sets43 n of) s t of.length).2 = to at *
      obtain ⟨q1, a, qa, q2, q3⟩ := (hit_iff ho ⟨s0, s1'⟩ t0 (by omega)).1 hh
      rw [show ((to.toNat : Nat) : Int) = to by omega] at q1 q3
      have hao : inL of a := ⟨qa.1, by have := qa.2; omega⟩
      have hfr0 := fstI_first (l := of) (P := fun x => x = s) hao q2
      have hfr : inL of (frm43 of s) := fstI_inL.1 hfr0.1
      have hfs : getI of (frm43 of s) = s := fstI_is hfr0.1
      have hti : inL of to := ⟨hto0, hlt⟩
      obtain ⟨wl, wm, ew⟩ := way_spec hn hg (a := frm43 of s) (b := to)
      have f0 := hfr.1
      have f1 := hfr.2
      rw [if_neg (by simpa using f0), if_neg (by simpa using hto0), if_neg (by simpa using f1), if_neg (by simpa using hlt), nth_getI hfr, Option.bind_some, if_neg (by simpa using hfs), nth_getI hti, Option.bind_some, if_neg (by simpa using q1), ew, Option.bind_some]
      simp only
      by_cases est : s = t
      · rw [if_neg (by simpa using est)]
      rw [if_pos (by simpa using est), mOwners_Of hf, Option.bind_some]
      by_cases hone : (ofL of s).length = 1
      case neg => rw [if_neg (by rw [beq_iff_eq]; omega)]
      rw [if_pos (by rw [beq_iff_eq]; omega)]
      have hwy : WayP n (frm43 of s) to := by
        have ea := one_own hone ⟨hao, q2⟩ ⟨hfr, hfs⟩
        rcases q3 with q3 | q3
        · exact absurd (q2.symm.trans (by rw [q3]; exact q1)) est
        · rw [← ea]; exact q3
      rw [decide_eq_true hwy, if_neg (by simp)]) (by simp [palinglaw43_MatrixApart_L2])]
    rw [Option.bind_some]
    simp only
    rw [hw]) (by simp only [palinglaw43_MatrixApart_L1]; rw [e1, if_neg (by simp)])]
  rfl
end Go.Eng
