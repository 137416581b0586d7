/- Plain laws of chapter 27 (enter): what comes in is as the document has it: EnterComes. -/
import Derived.Test.YtakijieekhbhfaaGreatEngP27b
set_option linter.unusedVariables false
set_option linter.unusedSectionVars false
set_option linter.unusedSimpArgs false
namespace Go.Eng
open Go Classical
attribute [local congr] ite_cg
section
variable {n : Api_Net}
theorem copied {b : List Int} (h : 14 ≤ b.length) : List.take 0 (List.replicate (Int.toNat ((b.length : Int) - 14)) (0 : Int)) ++ (List.take (min (List.length (List.drop (Int.toNat 14) (List.take (Int.toNat ((List.length b) : Int)) b))) ((List.length (List.replicate (Int.toNat ((b.length : Int) - 14)) (0 : Int))) - 0)) (List.drop (Int.toNat 14) (List.take (Int.toNat ((List.length b) : Int)) b)) ++ List.drop (0 + (min (List.length (List.drop (Int.toNat 14) (List.take (Int.toNat ((List.length b) : Int)) b))) ((List.length (List.replicate (Int.toNat ((b.length : Int) - 14)) (0 : Int))) - 0))) (List.replicate (Int.toNat ((b.length : Int) - 14)) (0 : Int))) = b.drop 14 := by
  have e1 : List.take (Int.toNat ((List.length b) : Int)) b = b := by simp
  have e2 : Int.toNat ((b.length : Int) - 14) = b.length - 14 := by omega
  have e3 : Int.toNat 14 = 14 := rfl
  rw [e1, e2, e3]
  have e4 : (b.drop 14).length = b.length - 14 := by simp
  have e5 : List.drop (b.length - 14) (List.replicate (b.length - 14) (0 : Int)) = [] := by simp
  have e6 : List.take (b.length - 14) (b.drop 14) = b.drop 14 := List.take_of_length_le (by omega)
  rw [e4, List.length_replicate, Nat.sub_zero, Nat.min_self, Nat.zero_add, List.take_zero, List.nil_append, e5, e6, List.append_nil]
theorem ether_both {b : List Int} (hB : BytesP b) (hb : b.length ≤ 1000000) : (∃ e : Int, e ≠ 0 ∧ ether_Take b = some ([], 0, 0, 0, 0, e) ∧ palingref04_Take b = some ([], 0, 0, 0, e)) ∨
    (14 ≤ b.length ∧ ∃ t : Int, ether_Take b = some (b.drop 14, b.length - 14, numB b 0 6, numB b 6 6, t, 0) ∧ palingref04_Take b = some (b.drop 14, numB b 0 6, numB b 6 6, t, 0)) := by
  unfold ether_Take palingref04_Take
  by_cases c1 : (b.length : Int) < 14
  · exact .inl ⟨10, by decide, by rw [if_pos (decide_eq_true c1)], by rw [if_pos (decide_eq_true c1)]⟩
  have d1 : ¬ decide ((b.length : Int) < 14) = true := by simpa using c1
  rw [if_neg d1, if_neg d1]
  by_cases c2 : (b.length : Int) > 1518
  · have d2 : decide ((b.length : Int) > 1518) = true := decide_eq_true c2
    exact .inl ⟨14, by decide, by rw [if_pos d2], by rw [if_pos d2]⟩
  have d2 : ¬ decide ((b.length : Int) > 1518) = true := by simpa using c2
  rw [if_neg d2, if_neg d2]
  have hw := wr64 (n := (b.length : Int) - 14) (by omega) (by omega)
  have hmk : mkok 1 ((b.length : Int) - 14) ((b.length : Int) - 14) = true := decide_eq_true ⟨by omega, by omega, by omega, by omega⟩
  have hsl : slok b.length 14 (b.length : Int) = true := by rw [slok_dec]; exact decide_eq_true (by omega)
  have i1 : inL b 12 := ⟨by omega, by omega⟩
  have i2 : inL b 13 := ⟨by omega, by omega⟩
  obtain ⟨x0, x1⟩ := hB _ (getI_mem i1)
  obtain ⟨y0, y1⟩ := hB _ (getI_mem i2)
  have e1 : List.drop (Int.toNat 14) (List.take (Int.toNat ((List.length b) : Int)) b) = b.drop 14 := by simp
  rw [mac_take_num hB (by omega) (by omega) hb, Option.bind_some, mac_take_num hB (by omega) (by omega) hb, Option.bind_some, hw, if_pos hmk, if_pos hsl, nth_getI i1, Option.bind_some, nth_getI i2, Option.bind_some, copied (by omega),
    r01_take_num hB (by omega) (by omega) hb, Option.bind_some, r01_take_num hB (by omega) (by omega) hb, Option.bind_some, Option.bind_some, Option.bind_some, if_pos hsl, e1, if_pos (roomy_few (by simp; omega)), or_i64_8 x0 x1 y0 y1, kind_ref x0 x1 y0 y1]
  refine .inr ⟨by omega, _, ?_, rfl⟩
  rw [show Int.toNat ((b.length : Int) - 14) = b.length - 14 from by omega]
theorem strip_both {f : Api_Frame} (hB : BytesP f.body) (hb : f.body.length ≤ 1000000) : ∃ (l : List Int) (d s t v p p' e : Int), tag_Strip f = some (l, d, s, t, v, p, e) ∧ palingref05_Strip f = some (l, d, s, t, v, p', e) ∧ (e = 0 → s = f.src) := by
  unfold tag_Strip tag_Is palingref05_Strip
  rw [Option.bind_some]
  by_cases c1 : f.type_ = 33024
  case neg =>
    have d1 : (!(f.type_ == 33024)) = true := by simpa using c1
    have d1' : (f.type_ != 33024) = true := by simpa using c1
    rw [if_pos d1, if_pos d1']; exact ⟨_, _, _, _, _, _, _, _, rfl, rfl, fun h => by cases h⟩
  have d1 : ¬ (!(f.type_ == 33024)) = true := by simpa using c1
  have d1' : ¬ (f.type_ != 33024) = true := by simpa using c1
  rw [if_neg d1, if_neg d1']
  by_cases c2 : (f.body.length : Int) < 4
  · have d2 : decide ((f.body.length : Int) < 4) = true := decide_eq_true c2
    rw [if_pos d2, if_pos d2]; exact ⟨_, _, _, _, _, _, _, _, rfl, rfl, fun h => by cases h⟩
  have d2 : ¬ decide ((f.body.length : Int) < 4) = true := by simpa using c2
  rw [if_neg d2, if_neg d2]
  have i0 : inL f.body 0 := ⟨by omega, by omega⟩
  have i1 : inL f.body 1 := ⟨by omega, by omega⟩
  have i2 : inL f.body 2 := ⟨by omega, by omega⟩
  have i3 : inL f.body 3 := ⟨by omega, by omega⟩
  obtain ⟨a0, a1⟩ := hB _ (getI_mem i0)
  obtain ⟨b0, b1⟩ := hB _ (getI_mem i1)
  obtain ⟨c0, c1'⟩ := hB _ (getI_mem i2)
  obtain ⟨d0, d1⟩ := hB _ (getI_mem i3)
  simp only [nth_getI i0, nth_getI i1, nth_getI i2, nth_getI i3, Option.bind_some, or_i64_8 a0 a1 b0 b1, or_i64_8 c0 c1' d0 d1, kind_ref a0 a1 b0 b1, kind_ref c0 c1' d0 d1]
  rw [and_i64_12 (by omega) (by omega), Int.tmod_eq_emod_of_nonneg (by omega)]
  generalize getI f.body 0 * 256 + getI f.body 1 = k1
  by_cases c3 : k1 % 4096 = 4095
  · have d3 : decide (k1 % 4096 > 4094) = true := decide_eq_true (by omega)
    have d3' : (k1 % 4096 == 4095) = true := by simpa using c3
    rw [if_pos d3, if_pos d3']; exact ⟨_, _, _, _, _, _, _, _, rfl, rfl, fun h => by cases h⟩
  have d3 : ¬ decide (k1 % 4096 > 4094) = true := by simp; omega
  have d3' : ¬ (k1 % 4096 == 4095) = true := by simpa using c3
  rw [if_neg d3, if_neg d3']
  generalize getI f.body 2 * 256 + getI f.body 3 = k2
  by_cases c4 : k2 = 33024
  · have d4 : (k2 == 33024) = true := by simpa using c4
    rw [if_pos d4, if_pos d4]; exact ⟨_, _, _, _, _, _, _, _, rfl, rfl, fun h => by cases h⟩
  have d4 : ¬ (k2 == 33024) = true := by simpa using c4
  rw [if_neg d4, if_neg d4]
  have hsl : slok f.body.length 4 (f.body.length : Int) = true := by rw [slok_dec]; exact decide_eq_true (by omega)
  have hro : roomy 1 (List.drop (Int.toNat 4) (List.take (Int.toNat ((List.length f.body) : Int)) f.body)) = true := roomy_few (by simp; omega)
  unfold slices_Clone_byte
  rw [if_pos hsl, if_pos hsl, if_pos hro, if_pos hro]
  exact ⟨_, _, _, _, _, _, _, _, rfl, rfl, fun _ => rfl⟩
theorem vlan_both {p : Api_Port} (ht : Few p.tagged) {b : Bool} {v : Int} : ∃ r : Int × Bool, enter_Vlan p b v = some r ∧ palingref27_Vlan p b v = some r := by
  unfold enter_Vlan palingref27_Vlan
  rw [Contains_int_spec ht, rIn_spec ht]
  simp only [Option.bind_some]
  split
  · exact ⟨_, rfl, rfl⟩
  · split
    · exact ⟨_, rfl, rfl⟩
    · split <;> exact ⟨_, rfl, rfl⟩
theorem at_both (hs : SmN n) {p : Int} {b : List Int} (hB : BytesP b) (hb : b.length ≤ 1000000) : ∃ (l : List Int) (k : Nat) (dm d s t e : Int), enter_At n p b = some (l, k, dm, d, s, t, e) ∧ palingref27_At n p b = some (l, dm, d, s, t, e) := by
  unfold enter_At palingref27_At
  rw [rRight_spec hs, rPlace_spec, names_Right_spec hs]
  simp only [Option.bind_some]
  by_cases hp : inL n.ports p
  case neg =>
    by_cases c1 : p < 0
    · rw [if_pos (decide_eq_true c1)]
      by_cases hr : RightP n
      · rw [if_neg (by simpa using hr), if_pos (by simpa using hp)]; exact ⟨_, _, _, _, _, _, _, rfl, rfl⟩
      · rw [if_pos (by simpa using hr)]; exact ⟨_, _, _, _, _, _, _, rfl, rfl⟩
    · have c2 : p ≥ (n.ports.length : Int) := by
        have : ¬ (0 ≤ p ∧ p < (n.ports.length : Int)) := hp
        omega
      rw [if_neg (by simpa using c1), if_pos (decide_eq_true c2)]
      by_cases hr : RightP n
      · rw [if_neg (by simpa using hr), if_pos (by simpa using hp)]; exact ⟨_, _, _, _, _, _, _, rfl, rfl⟩
      · rw [if_pos (by simpa using hr)]; exact ⟨_, _, _, _, _, _, _, rfl, rfl⟩
  have c1 : ¬ p < 0 := by have := hp.1; omega
  have c2 : ¬ p ≥ (n.ports.length : Int) := by have := hp.2; omega
  rw [if_neg (by simpa using c1), if_neg (by simpa using c2)]
  by_cases hr : RightP n
  case neg => rw [if_pos (by simpa using hr), if_pos (by simpa using hr)]; exact ⟨_, _, _, _, _, _, _, rfl, rfl⟩
  rw [if_neg (by simpa using hr), if_neg (by simpa using hr), if_neg (by simpa using hp)]
  have ht := hs.tagged _ (getI_mem hp)
  rcases ether_both hB hb with ⟨e, he, h1, h2⟩ | ⟨hl, t, h1, h2⟩
  · rw [h1, h2]
    have he0 : (e == 0) = false := by simpa using he
    have he1 : (e != 0) = true := by simpa using he
    obtain ⟨r, hr1, _⟩ := vlan_both ht (b := ((0 : Int) == 33024)) (v := 0)
    simp only [Option.bind_some, tag_Is, enter_At_J1, enter_At_J2, enter_At_J3, he0, he1, nth_getI hp, hr1, Bool.false_eq_true, if_false, if_true]
    exact ⟨_, _, _, _, _, _, _, rfl, rfl⟩
  rw [h1, h2]
  obtain ⟨m0, m1⟩ := numB_lt hB (o := 6) (by omega) 6 (by omega)
  have hB2 : BytesP (b.drop 14) := fun x hx => hB x (List.mem_of_mem_drop hx)
  have e0 : ((0 : Int) == 0) = true := rfl
  have e1 : ((0 : Int) != 0) = false := rfl
  have hg1 := mac_Group_spec (m := numB b 6 6) m0 (by omega)
  have hg2 := r01Group_spec (m := numB b 6 6) m0 (by omega)
  -- what is behind the tag
  have core : ∀ (l67 : List Int) (v68 v70 : Int) (n71 : Nat) (v73 : Int) (tg : Bool), ∃ (l : List Int) (k : Nat) (dm d s t e : Int),
      ((enter_At_J2 n p tg l67 v68 (numB b 6 6) v70 n71 0 v73).bind fun v81 => (enter_Vlan (getI n.ports p) tg v73).bind fun r86 => (enter_At_J3 n l67 v68 (numB b 6 6) v70 n71 v81 (getI n.ports p) r86).bind fun v91 =>
        if (v91 != 0) = true then some (([] : List Int), (0 : Nat), (0 : Int), (0 : Int), (0 : Int), (0 : Int), v91) else (names_Domain n (getI n.ports p).dev r86.1).bind fun r95 => some (l67, n71, r95, v68, numB b 6 6, v70, 0)) = some (l, k, dm, d, s, t, e) ∧
      ((palingref01_Group (numB b 6 6)).bind fun r71 => if (r71) = true then some (([] : List Int), (0 : Int), (0 : Int), (0 : Int), (0 : Int), (11 : Int)) else (nth n.ports p).bind fun x74 => (palingref27_Vlan x74 tg v73).bind fun r76 =>
        if (!r76.2) = true then some ([], 0, 0, 0, 0, 16) else (nth n.ports p).bind fun x79 => (palingref15_At n x79.dev r76.1).bind fun r81 => some (l67, r81, v68, numB b 6 6, v70, 0)) = some (l, dm, d, s, t, e) := by
    intro l67 v68 v70 n71 v73 tg
    obtain ⟨r, hr1, hr2⟩ := vlan_both ht (b := tg) (v := v73)
    simp only [enter_At_J2, enter_At_J3, hg1, hg2, e0, nth_getI hp, hr1, hr2, names_Domain_spec hs, hr, rAt_spec hs.domains, Option.bind_some, if_true]
    by_cases cg : GrpP (numB b 6 6)
    · simp only [cg, decide_true, if_true, Option.bind_some]
      exact ⟨_, _, _, _, _, _, _, rfl, rfl⟩
    simp only [cg, decide_false, Bool.false_eq_true, if_false, Option.bind_some, e0, if_true]
    cases hb2 : r.2 with
    | false =>
      simp only [Bool.not_false, if_true, Option.bind_some]
      exact ⟨_, _, _, _, _, _, _, rfl, rfl⟩
    | true =>
      simp only [Bool.not_true, Bool.false_eq_true, if_false, Option.bind_some, e1]
      exact ⟨_, _, _, _, _, _, _, rfl, rfl⟩
  simp only [Option.bind_some, tag_Is, enter_At_J1, palingref27_At_J1, e0, e1, nth_getI hp, Bool.false_eq_true, if_true, if_false]
  by_cases ct : t = 33024
  · have ht1 : (t == 33024) = true := by simpa using ct
    rw [ht1]
    simp only [if_true]
    obtain ⟨l, d, s, t2, v, q, q', e, h3, h4, h5⟩ := strip_both (f := ⟨numB b 0 6, numB b 6 6, t, b.drop 14⟩) hB2 (by simp; omega)
    rw [h3, h4]
    simp only [Option.bind_some]
    by_cases ce : e = 0
    · subst ce
      have := h5 rfl
      simp only at this
      subst this
      have hc := core l d t2 l.length v true
      simp only [Option.bind_some, e1, Bool.false_eq_true, if_false]
      simp only [nth_getI hp, Option.bind_some] at hc
      exact hc
    · have he0 : (e == 0) = false := by simpa using ce
      have he1 : (e != 0) = true := by simpa using ce
      obtain ⟨r, hr1, _⟩ := vlan_both ht (b := true) (v := v)
      simp only [enter_At_J2, enter_At_J3, he0, he1, hr1, Option.bind_some, Bool.false_eq_true, if_false, if_true]
      exact ⟨_, _, _, _, _, _, _, rfl, rfl⟩
  · have ht1 : (t == 33024) = false := by simpa using ct
    rw [ht1]
    simp only [Bool.false_eq_true, if_false, Option.bind_some]
    have hc := core (b.drop 14) (numB b 0 6) t (b.length - 14) 0 false
    simp only [nth_getI hp, Option.bind_some] at hc
    exact hc
theorem same_self {f : Api_Frame} : palingref04_Same f f = some true := by
  simp [palingref04_Same, seqB]
end
end Go.Eng
