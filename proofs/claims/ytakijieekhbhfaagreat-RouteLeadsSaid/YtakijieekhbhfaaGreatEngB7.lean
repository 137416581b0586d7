/- Chapter 28 (leave): what goes out at a port, and what comes in on the other side. -/
import Derived.Test.YtakijieekhbhfaaGreatEngB6
import Derived.Test.YtakijieekhbhfaaGreatEngP27c
import Derived.Test.YtakijieekhbhfaaGreatEngR15b
import Derived.Test.YtakijieekhbhfaaGreatEngL2
set_option linter.unusedVariables false
set_option linter.unusedSectionVars false
set_option linter.unusedSimpArgs false
namespace Go.Eng
open Go Classical
attribute [local congr] ite_cg
section
variable {n : Api_Net}
theorem or_zero_i64 {v : Int} (h0 : 0 ≤ v) (h1 : v < 1152921504606846976) : bits_or .i64 0 v = v := by
  unfold bits_or
  rw [ofInt_nat _ _ (by decide), ofInt_nat _ _ h0, BitVec.toNat_or, BitVec.toNat_ofNat, BitVec.toNat_ofNat]
  simp only [IntKind.bits]
  rw [Nat.mod_eq_of_lt (by decide), Nat.mod_eq_of_lt (by omega), show (0 : Int).toNat = 0 from rfl, Nat.zero_or]
  have hw := wr64 (n := ((v.toNat : Nat) : Int)) (by omega) (by omega)
  unfold wr_i64 at hw
  rw [hw]; omega
/-- A frame with a tag: body, to, from, type; what is wrong. -/
noncomputable def tagS (f : Api_Frame) (v : Int) : List Int × Int × Int × Int × Int :=
  if f.type_ = 33024 ∨ v < 0 ∨ v > 4094 then ([], 0, 0, 0, 15)
  else if f.type_ < 0 ∨ f.type_ > 65535 then ([], 0, 0, 0, 11)
  else if (f.body.length : Int) > 1500 then ([], 0, 0, 0, 14)
  else ([v / 256 % 256, v % 256, f.type_ / 256 % 256, f.type_ % 256] ++ f.body, f.dst, f.src, 33024, 0)
theorem tag_Add_spec {f : Api_Frame} {v : Int} : tag_Add f v 0 = some (tagS f v) := by
  have hJ : tag_Add_J1 f v 0 = some (decide (f.type_ = 33024 ∨ v < 0 ∨ v > 4094)) := by
    unfold tag_Add_J1 tag_Is
    rw [Option.bind_some]
    by_cases c1 : f.type_ = 33024
    · rw [if_pos (by simpa using c1)]; simp [c1]
    rw [if_neg (by simpa using c1)]
    by_cases c2 : v < 0
    · rw [if_pos (decide_eq_true c2)]; simp [c2]
    rw [if_neg (by simpa using c2)]
    by_cases c3 : v > 4094
    · rw [if_pos (decide_eq_true c3)]; simp [c3]
    rw [if_neg (by simpa using c3)]
    simp [c1]; omega
  have hJ2 : tag_Add_J2 f v 0 = some (decide (f.type_ < 0 ∨ f.type_ > 65535)) := by
    unfold tag_Add_J2
    by_cases c : f.type_ < 0
    · rw [if_pos (decide_eq_true c)]; simp [c]
    · rw [if_neg (by simpa using c)]; simp [c]
  unfold tag_Add tagS
  rw [hJ, hJ2]
  simp only [Option.bind_some]
  by_cases c1 : f.type_ = 33024 ∨ v < 0 ∨ v > 4094
  · rw [if_pos (decide_eq_true c1), if_pos c1]
  rw [if_neg (by rw [decide_eq_true_eq]; exact c1), if_neg c1]
  by_cases c2 : f.type_ < 0 ∨ f.type_ > 65535
  · rw [if_pos (decide_eq_true c2), if_pos c2]
  rw [if_neg (by rw [decide_eq_true_eq]; exact c2), if_neg c2]
  by_cases c3 : (f.body.length : Int) > 1500
  · rw [if_pos (decide_eq_true c3), if_pos c3]
  have hb : bits_or .i64 (wr_i64 (0 * 2 ^ 12)) v = v := by
    rw [show (0 : Int) * 2 ^ 12 = 0 from rfl, wr64 (by omega) (by omega)]
    exact or_zero_i64 (by omega) (by omega)
  rw [if_neg (by simpa using c3), if_neg c3, hb, show (2 : Int) ^ 8 = 256 from rfl, fdiv_e (by decide), fdiv_e (by decide), wr8m, wr8m, wr8m, wr8m, if_pos (roomy_few (by simp; omega))]
theorem rTag_Add_spec {f : Api_Frame} {v : Int} : palingref05_Add f v 0 = some (tagS f v) := by
  unfold palingref05_Add tagS
  by_cases c1 : f.type_ = 33024
  · rw [if_pos (by simpa using c1), if_pos (.inl c1)]
  rw [if_neg (by simpa using c1)]
  by_cases c2 : v < 0
  · rw [if_pos (decide_eq_true c2), if_pos (.inr (.inl c2))]
  rw [if_neg (by simpa using c2)]
  by_cases c3 : v > 4094
  · rw [if_pos (by simp; omega), if_pos (.inr (.inr c3))]
  rw [if_neg (by simp; omega), if_neg (by decide), if_neg (by decide), if_neg (c := f.type_ = 33024 ∨ _) (by rintro (h | h | h) <;> contradiction)]
  by_cases c4 : f.type_ < 0
  · rw [if_pos (decide_eq_true c4), if_pos (.inl c4)]
  rw [if_neg (by simpa using c4)]
  by_cases c5 : f.type_ > 65535
  · rw [if_pos (by simp; omega), if_pos (.inr c5)]
  rw [if_neg (by simp; omega), if_neg (c := f.type_ < 0 ∨ _) (by rintro (h | h) <;> contradiction)]
  by_cases c6 : (f.body.length : Int) > 1500
  · rw [if_pos (decide_eq_true c6), if_pos c6]
  rw [if_neg (by simpa using c6), if_neg c6, show (0 : Int) * 4096 = 0 from rfl, wr64 (n := 0) (by omega) (by omega), Int.zero_add, wr64 (n := v) (by omega) (by omega), Int.tdiv_eq_ediv_of_nonneg (by omega), Int.tdiv_eq_ediv_of_nonneg (by omega), Int.tmod_eq_emod_of_nonneg (by omega), Int.tmod_eq_emod_of_nonneg (by omega),
    wr64 (by omega) (by omega), wr64 (by omega) (by omega), wr8m, wr8m, wr8m, wr8m, if_pos (roomy_few (by simp; omega))]
  have e1 : v % 256 % 256 = v % 256 := by omega
  have e2 : f.type_ % 256 % 256 = f.type_ % 256 := by omega
  rw [e1, e2]
theorem lplace_spec {α : Type} {l : List α} {i : Int} : leave_place i (l.length : Int) = some (decide (inL l i)) := by
  unfold leave_place inL
  by_cases c : i ≥ 0
  · rw [if_pos (decide_eq_true c)]; simp; omega
  · rw [if_neg (by simpa using c)]; simp; omega
/-- What goes out at a port, with what is wrong. -/
noncomputable def atS (n : Api_Net) (p d : Int) (f : Api_Frame) : List Int × Int :=
  if ¬ (RightP n ∧ inL n.ports p ∧ inL n.domains d) then ([], 2)
  else if ¬ InDom n d (getI n.ports p) then ([], 16)
  else if f.type_ = 33024 then ([], 15)
  else if (getI n.domains d).vlan = (getI n.ports p).native then putE f
  else if (tagS f (getI n.domains d).vlan).2.2.2.2 ≠ 0 then ([], (tagS f (getI n.domains d).vlan).2.2.2.2)
  else putE ⟨(tagS f (getI n.domains d).vlan).2.1, (tagS f (getI n.domains d).vlan).2.2.1, (tagS f (getI n.domains d).vlan).2.2.2.1, (tagS f (getI n.domains d).vlan).1⟩
theorem leave_At_spec (hs : SmN n) {p d : Int} {f : Api_Frame} : leave_At n p d f = some (atS n p d f) := by
  unfold leave_At atS
  rw [lplace_spec, lplace_spec, names_Right_spec hs]
  simp only [Option.bind_some]
  by_cases hp : inL n.ports p
  case neg => rw [if_pos (by simpa using hp), if_pos (by simp [hp])]
  rw [if_neg (by simpa using hp)]
  by_cases hd : inL n.domains d
  case neg => rw [if_pos (by simpa using hd), if_pos (by simp [hd])]
  rw [if_neg (by simpa using hd)]
  by_cases hr : RightP n
  case neg => rw [if_pos (by simpa using hr), if_pos (by simp [hr])]
  rw [if_neg (by simpa using hr), if_neg (c := ¬ (RightP n ∧ _)) (by simp [hp, hd, hr]), nth_getI hp, Option.bind_some, nth_getI hd, Option.bind_some]
  have hJ : leave_At_J1 n f (getI n.ports p) (getI n.domains d) = some (decide (¬ InDom n d (getI n.ports p))) := by
    unfold leave_At_J1 InDom
    rw [Member_spec (hs.tagged _ (getI_mem hp))]
    by_cases c : (getI n.ports p).dev = (getI n.domains d).dev
    · rw [if_neg (by simpa using c)]; simp [c]
    · rw [if_pos (by simpa using c)]; simp [c]
  rw [hJ]
  simp only [Option.bind_some, tag_Is, leave_whole_bare, leave_whole_tagged, ether_Put_spec, tag_Add_spec]
  by_cases c1 : InDom n d (getI n.ports p)
  case neg => rw [if_pos (decide_eq_true c1), if_pos c1]
  rw [if_neg (by simpa using c1), if_neg (show ¬ ¬ InDom n d (getI n.ports p) from not_not.2 c1)]
  by_cases c2 : f.type_ = 33024
  · rw [if_pos (by simpa using c2), if_pos c2]
  rw [if_neg (by simpa using c2), if_neg c2]
  by_cases c3 : (getI n.domains d).vlan = (getI n.ports p).native
  · rw [if_pos (by simpa using c3), if_pos c3]
  rw [if_neg (by simpa using c3), if_neg c3]
  by_cases c4 : (tagS f (getI n.domains d).vlan).2.2.2.2 = 0
  case neg => rw [if_pos (by simpa using c4), if_pos c4]; rfl
  rw [if_neg (by simpa using c4), if_neg (show ¬ (tagS f (getI n.domains d).vlan).2.2.2.2 ≠ 0 from not_not.2 c4)]
  rfl
theorem tagS_ok {f : Api_Frame} {v : Int} (hf : f.Ok) : okI .u64 (tagS f v).2.1 ∧ okI .u64 (tagS f v).2.2.1 := by
  have z : okI .u64 0 := u64ok (by omega) (by omega)
  unfold tagS
  split
  · exact ⟨z, z⟩
  split
  · exact ⟨z, z⟩
  split
  · exact ⟨z, z⟩
  · exact ⟨hf.1, hf.2.1⟩
theorem rLeave_At_spec (hs : SmN n) {p d : Int} {f : Api_Frame} (hf : f.Ok) : palingref28_At n p d f = some (atS n p d f) := by
  unfold palingref28_At atS
  rw [rPlace_spec, rPlace_spec, rRight_spec hs]
  simp only [Option.bind_some]
  by_cases hr : RightP n
  case neg => rw [if_pos (by simpa using hr), if_pos (by simp [hr])]
  rw [if_neg (by simpa using hr)]
  by_cases hp : inL n.ports p
  case neg => rw [if_pos (by simpa using hp), if_pos (by simp [hp])]
  rw [if_neg (by simpa using hp)]
  by_cases hd : inL n.domains d
  case neg => rw [if_pos (by simpa using hd), if_pos (by simp [hd])]
  rw [if_neg (by simpa using hd), if_neg (c := ¬ (RightP n ∧ _)) (by simp [hp, hd, hr]), rMembers_spec hs, if_pos hd, Option.bind_some]
  have hl := membersL_len (n := n) (k := d)
  have hfp := hs.ports
  have hm : p ∈ membersL n d ↔ InDom n d (getI n.ports p) := by
    unfold membersL
    rw [mem_gatherI]
    constructor
    · rintro ⟨i, hi, h, rfl⟩; exact h
    · intro h; exact ⟨p, hp, h, rfl⟩
  simp only [rIn_spec (show Few (membersL n d) from by unfold Few at *; omega), Option.bind_some, hm, nth_getI hp, nth_getI hd, rEther_Put_spec hf.1 hf.2.1, rTag_Add_spec]
  by_cases c1 : InDom n d (getI n.ports p)
  case neg => rw [if_pos (by simpa using c1), if_pos c1]
  rw [if_neg (by simpa using c1), if_neg (show ¬ ¬ InDom n d (getI n.ports p) from not_not.2 c1)]
  by_cases c2 : f.type_ = 33024
  · rw [if_pos (by simpa using c2), if_pos c2]
  rw [if_neg (by simpa using c2), if_neg c2]
  by_cases c3 : (getI n.domains d).vlan = (getI n.ports p).native
  · rw [if_pos (by simpa using c3.symm), if_pos c3]
  rw [if_neg (by simpa using fun e => c3 e.symm), if_neg c3]
  have ho := tagS_ok (v := (getI n.domains d).vlan) hf
  by_cases c4 : (tagS f (getI n.domains d).vlan).2.2.2.2 = 0
  case neg => rw [if_pos (by simpa using c4), if_pos c4]
  rw [if_neg (by simpa using c4), if_neg (show ¬ (tagS f (getI n.domains d).vlan).2.2.2.2 ≠ 0 from not_not.2 c4), rEther_Put_spec ho.1 ho.2]
  rfl
theorem link_both (hs : SmN n) {p : Int} {b : List Int} (hB : BytesP b) (hb : b.length ≤ 1000000) :
    ∃ (l : List Int) (k : Nat) (q dm d s t e : Int), leave_Link n p b = some (l, k, q, dm, d, s, t, e) ∧ palingref28_Link n p b = some (l, q, dm, d, s, t, e) := by
  unfold leave_Link palingref28_Link
  rw [links_Other_spec hs, rRight_spec hs]
  simp only [Option.bind_some]
  by_cases hr : RightP n
  case neg =>
    have : othI n p = -1 := by unfold othI; rw [if_neg (by simp [hr])]
    rw [this, if_pos (by decide), if_pos (by simpa using hr)]
    exact ⟨_, _, _, _, _, _, _, _, rfl, rfl⟩
  rw [if_neg (show ¬ (!decide (RightP n)) = true from by simpa using hr), rOther_spec hs hr]
  simp only [Option.bind_some]
  by_cases c : othI n p < 0
  · rw [if_pos (decide_eq_true c), if_pos (decide_eq_true c)]
    exact ⟨_, _, _, _, _, _, _, _, rfl, rfl⟩
  rw [if_neg (by simpa using c), if_neg (by simpa using c)]
  obtain ⟨l, k, dm, d, s, t, e, h1, h2⟩ := at_both hs (p := othI n p) hB hb
  rw [h1, h2]
  exact ⟨_, _, _, _, _, _, _, _, rfl, rfl⟩
end
end Go.Eng
