/- Plain laws of chapter 27 (enter): what comes in at a port, and where: EnterMember. -/
import Derived.Test.YtakijieekhbhfaaGreatEngP15n
import Derived.Test.YtakijieekhbhfaaGreatEngP15d
import Derived.Test.YtakijieekhbhfaaGreatEngPE
set_option linter.unusedVariables false
set_option linter.unusedSectionVars false
set_option linter.unusedSimpArgs false
namespace Go.Eng
open Go Classical
attribute [local congr] ite_cg
section
variable {n : Api_Net}
theorem mac_take_tot {b : List Int} {o : Int} (h0 : 0 ≤ o) (h1 : o + 6 ≤ b.length) (hb : b.length ≤ 1000000) : ∃ v, mac_Take b o = some (v, true) := by
  unfold mac_Take
  have hw := wr64 (n := (b.length : Int) - 6) (by omega) (by omega)
  rw [if_neg (by simpa using h0), hw, if_neg (by simp; omega)]
  obtain ⟨r, e, _⟩ := loopM_rule (f := fun s : Int × Int => match s with | (v5, v6) => mac_Take_L1 b o v5 v6) (fun s => 0 ≤ s.2 ∧ s.2 ≤ 6) (fun _ => True) (fun s => (6 - s.2).toNat) (s := (0, 0)) (fun s hI => by
    obtain ⟨v, i⟩ := s
    obtain ⟨i0, i1⟩ := hI
    simp only at i0 i1
    have hwi := wr64 (n := i + 1) (by omega) (by omega)
    by_cases c : i < 6
    · have hwo := wr64 (n := o + i) (by omega) (by omega)
      have hin : inL b (o + i) := ⟨by omega, by omega⟩
      refine ⟨_, by simp only [mac_Take_L1, c, hwo, nth_getI hin, hwi, decide_true, if_true, Option.bind_some]; rfl, ?_⟩
      exact ⟨⟨by simp only; omega, by simp only; omega⟩, by simp only; omega⟩
    · exact ⟨_, by simp only [mac_Take_L1, c, decide_false, Bool.false_eq_true, if_false]; rfl, trivial⟩) ⟨by simp, by simp⟩ (by simp)
  rw [e]
  exact ⟨r, rfl⟩
theorem ether_take_spec {b : List Int} (hb : b.length ≤ 1000000) : (∃ e : Int, e ≠ 0 ∧ ether_Take b = some ([], 0, 0, 0, 0, e)) ∨
    (∃ (body : List Int) (k : Nat) (d s t : Int), k + 14 = b.length ∧ body.length = k ∧ ether_Take b = some (body, k, d, s, t, 0)) := by
  unfold ether_Take
  by_cases c1 : (b.length : Int) < 14
  · exact .inl ⟨10, by decide, by rw [if_pos (decide_eq_true c1)]⟩
  rw [if_neg (by simpa using c1)]
  by_cases c2 : (b.length : Int) > 1518
  · exact .inl ⟨14, by decide, by rw [if_pos (decide_eq_true c2)]⟩
  rw [if_neg (by simpa using c2)]
  obtain ⟨v1, h1⟩ := mac_take_tot (b := b) (o := 0) (by omega) (by omega) hb
  obtain ⟨v2, h2⟩ := mac_take_tot (b := b) (o := 6) (by omega) (by omega) hb
  have hw := wr64 (n := (b.length : Int) - 14) (by omega) (by omega)
  have hmk : mkok 1 ((b.length : Int) - 14) ((b.length : Int) - 14) = true := decide_eq_true ⟨by omega, by omega, by omega, by omega⟩
  have hsl : slok b.length 14 (b.length : Int) = true := by rw [slok_dec]; exact decide_eq_true (by omega)
  have i1 : inL b 12 := ⟨by omega, by omega⟩
  have i2 : inL b 13 := ⟨by omega, by omega⟩
  rw [h1, Option.bind_some, h2, Option.bind_some, hw, if_pos hmk, if_pos hsl, nth_getI i1, Option.bind_some, nth_getI i2, Option.bind_some]
  refine .inr ⟨_, ((b.length : Int) - 14).toNat, _, _, _, by omega, ?_, rfl⟩
  simp
  omega
theorem strip_spec {f : Api_Frame} (hb : f.body.length ≤ 1000000) : ∃ (l : List Int) (d s t v p e : Int), tag_Strip f = some (l, d, s, t, v, p, e) ∧ (e = 0 → t ≠ 33024 ∧ l.length + 4 ≤ f.body.length) := by
  unfold tag_Strip tag_Is
  rw [Option.bind_some]
  by_cases c1 : f.type_ = 33024
  case neg => rw [if_pos (by simpa using c1)]; exact ⟨_, _, _, _, _, _, _, rfl, fun h => by cases h⟩
  rw [if_neg (by simpa using c1)]
  by_cases c2 : (f.body.length : Int) < 4
  · rw [if_pos (decide_eq_true c2)]; exact ⟨_, _, _, _, _, _, _, rfl, fun h => by cases h⟩
  rw [if_neg (by simpa using c2)]
  have i0 : inL f.body 0 := ⟨by omega, by omega⟩
  have i1 : inL f.body 1 := ⟨by omega, by omega⟩
  have i2 : inL f.body 2 := ⟨by omega, by omega⟩
  have i3 : inL f.body 3 := ⟨by omega, by omega⟩
  rw [nth_getI i0, Option.bind_some, nth_getI i1, Option.bind_some, nth_getI i2, Option.bind_some, nth_getI i3, Option.bind_some]
  split
  · exact ⟨_, _, _, _, _, _, _, rfl, fun h => by cases h⟩
  split
  · exact ⟨_, _, _, _, _, _, _, rfl, fun h => by cases h⟩
  rename_i c4
  have hsl : slok f.body.length 4 (f.body.length : Int) = true := by rw [slok_dec]; exact decide_eq_true (by omega)
  rw [if_pos hsl]
  unfold slices_Clone_byte
  rw [if_pos (roomy_few (by simp; omega))]
  refine ⟨_, _, _, _, _, _, _, rfl, fun _ => ⟨fun e => c4 (by rw [e]; rfl), ?_⟩⟩
  simp
  omega
theorem vlan_spec {p : Api_Port} (ht : Few p.tagged) {b : Bool} {v : Int} : ∃ r : Int × Bool, enter_Vlan p b v = some r ∧ (r.2 = true → MemP p r.1) := by
  unfold enter_Vlan
  cases b with
  | false => exact ⟨_, rfl, fun h => ⟨by simpa using h, .inl rfl⟩⟩
  | true =>
    rw [if_neg (by simp)]
    by_cases c : v = 0
    · rw [if_pos (by simpa using c)]; exact ⟨_, rfl, fun h => ⟨by simpa using h, .inl rfl⟩⟩
    rw [if_neg (by simpa using c), Contains_int_spec ht, Option.bind_some]
    by_cases c2 : v ∈ p.tagged
    · rw [if_pos (decide_eq_true c2)]; exact ⟨_, rfl, fun _ => ⟨c, .inr c2⟩⟩
    · rw [if_neg (by simpa using c2)]; exact ⟨_, rfl, fun h => by cases h⟩
theorem at_spec (hs : SmN n) {p : Int} {b : List Int} (hb : b.length ≤ 1000000) : (∃ e : Int, e ≠ 0 ∧ enter_At n p b = some ([], 0, 0, 0, 0, 0, e)) ∨
    (RightP n ∧ inL n.ports p ∧ ∃ (l : List Int) (k : Nat) (d s t v : Int), enter_At n p b = some (l, k, domIx n.domains (getI n.ports p).dev v, d, s, t, 0) ∧ t ≠ 33024 ∧ mac_Group s = some false ∧ k + 14 ≤ b.length ∧ MemP (getI n.ports p) v) := by
  unfold enter_At
  by_cases c1 : p < 0
  · exact .inl ⟨2, by decide, by rw [if_pos (decide_eq_true c1)]⟩
  rw [if_neg (by simpa using c1)]
  by_cases c2 : p ≥ (n.ports.length : Int)
  · exact .inl ⟨2, by decide, by rw [if_pos (decide_eq_true c2)]⟩
  rw [if_neg (by simpa using c2), names_Right_spec hs, Option.bind_some]
  by_cases hr : RightP n
  case neg => exact .inl ⟨2, by decide, by rw [if_pos (by simpa using hr)]⟩
  rw [if_neg (by simpa using hr)]
  have hp : inL n.ports p := ⟨by omega, by omega⟩
  have hJ : ∃ (l11 : List Int) (n12 : Nat) (v13 v14 v15 v16 : Int), ether_Take b = some (l11, n12, v13, v14, v15, v16) ∧ l11.length ≤ 1000000 ∧ (v16 = 0 → n12 + 14 ≤ b.length ∧ l11.length = n12) := by
    rcases ether_take_spec hb with ⟨e, he, h⟩ | ⟨body, k, d, s, t, h1, h2, h⟩
    · exact ⟨_, _, _, _, _, _, h, by simp, fun q => absurd q he⟩
    · exact ⟨_, _, _, _, _, _, h, by omega, fun _ => ⟨by omega, h2⟩⟩
  obtain ⟨l11, n12, v13, v14, v15, v16, hT, hl11, hok⟩ := hJ
  rw [hT]
  simp only [Option.bind_some, tag_Is]
  have hJ1 : ∃ (l67 : List Int) (v68 v69 v70 : Int) (n71 : Nat) (v72 v73 : Int), enter_At_J1 n p l11 n12 v13 v14 v15 v16 (v15 == 33024) = some (l67, v68, v69, v70, n71, v72, v73) ∧ (v72 = 0 → v70 ≠ 33024 ∧ n71 + 14 ≤ b.length) := by
    unfold enter_At_J1
    by_cases c : v16 = 0
    case neg => rw [if_neg (by simpa using c)]; exact ⟨_, _, _, _, _, _, _, rfl, fun q => absurd q c⟩
    rw [if_pos (by simpa using c)]
    by_cases ct : v15 = 33024
    · rw [if_pos (by simpa using ct)]
      obtain ⟨l, d, s, t, v, q, e, h, hz⟩ := strip_spec (f := ⟨v13, v14, v15, l11⟩) hl11
      rw [h, Option.bind_some]
      refine ⟨_, _, _, _, _, _, _, rfl, fun q => ?_⟩
      have := hz q
      have h2 := hok c
      simp only at this
      exact ⟨this.1, by omega⟩
    · rw [if_neg (by simpa using ct)]
      exact ⟨_, _, _, _, _, _, _, rfl, fun q => ⟨ct, (hok c).1⟩⟩
  obtain ⟨l67, v68, v69, v70, n71, v72, v73, h1, hz⟩ := hJ1
  rw [h1]
  simp only [Option.bind_some]
  have hJ2 : ∃ v81 : Int, enter_At_J2 n p (v15 == 33024) l67 v68 v69 v70 n71 v72 v73 = some v81 ∧ (v81 = 0 → v72 = 0 ∧ mac_Group v69 = some false) := by
    unfold enter_At_J2
    by_cases c : v72 = 0
    case neg => rw [if_neg (by simpa using c)]; exact ⟨_, rfl, fun q => absurd q c⟩
    rw [if_pos (by simpa using c)]
    unfold mac_Group
    rw [Option.bind_some]
    split
    · exact ⟨_, rfl, fun q => by cases q⟩
    · rename_i hg
      exact ⟨_, rfl, fun _ => ⟨c, by rw [Bool.not_eq_true] at hg; rw [hg]⟩⟩
  obtain ⟨v81, h2, hz2⟩ := hJ2
  obtain ⟨r86, h3, hv⟩ := vlan_spec (hs.tagged _ (getI_mem hp)) (b := v15 == 33024) (v := v73)
  rw [h2]
  simp only [Option.bind_some, nth_getI hp, h3]
  have hJ3 : ∃ v91 : Int, enter_At_J3 n l67 v68 v69 v70 n71 v81 (getI n.ports p) r86 = some v91 ∧ (v91 = 0 → v81 = 0 ∧ r86.2 = true) := by
    unfold enter_At_J3
    by_cases c : v81 = 0
    case neg => rw [if_neg (by simpa using c)]; exact ⟨_, rfl, fun q => absurd q c⟩
    rw [if_pos (by simpa using c)]
    cases hb2 : r86.2 with
    | false => exact ⟨_, rfl, fun q => by cases q⟩
    | true => exact ⟨_, rfl, fun _ => ⟨c, rfl⟩⟩
  obtain ⟨v91, h4, hz3⟩ := hJ3
  rw [h4]
  simp only [Option.bind_some, names_Domain_spec hs, hr, if_true]
  by_cases c : v91 = 0
  · subst c
    obtain ⟨e1, e2⟩ := hz3 rfl
    obtain ⟨e3, e4⟩ := hz2 e1
    obtain ⟨e5, e6⟩ := hz e3
    exact .inr ⟨trivial, hp, l67, n71, v68, v69, v70, r86.1, by simp, e5, e4, e6, hv e2⟩
  · exact .inl ⟨v91, c, by rw [if_pos (by simpa using c)]⟩
end
end Go.Eng
