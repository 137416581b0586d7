/- Plain laws of chapter 29 (lookup): where a frame goes in a domain. -/
import Derived.Test.YthagnfgaibaokaaEngL2
import Derived.Test.YthagnfgaibaokaaEngPB
import Derived.Test.YthagnfgaibaokaaEngP15c
import Derived.Test.YthagnfgaibaokaaEngF1
set_option linter.unusedVariables false
set_option linter.unusedSectionVars false
set_option linter.unusedSimpArgs false
namespace Go.Eng
open Go Classical
attribute [local congr] ite_cg

/-! ### Items deleted -/
theorem filter_none_lt {α : Type} [Inhabited α] {l : List α} {K : α → Bool} {i : Int} (h0 : 0 ≤ i) (h1 : i ≤ l.length) (h : ∀ j, inL l j → j < i → K (getI l j) = true) : l.take i.toNat = (l.take i.toNat).filter K := by
  symm; rw [List.filter_eq_self]
  intro x hx
  obtain ⟨k, hk, hlt, rfl⟩ := mem_take_getI.1 hx
  exact h k hk hlt
theorem take_succ_getI {α : Type} [Inhabited α] {l : List α} {i : Int} (h : inL l i) : l.take (i + 1).toNat = l.take i.toNat ++ [getI l i] := by
  have h0 := h.1
  rw [show (i + 1).toNat = i.toNat + 1 from by omega, List.take_add_one, getI_get? h]; rfl
theorem del_loop {α : Type} [Inhabited α] (l : List α) (K : α → Bool) {f : List α × Int × Int → Option ((List α × Int × Int) ⊕ (List α × Int))} (hb : Few l)
    (h1 : ∀ a i j, a.length = l.length → 0 ≤ i → i < j → inL l j → inL l i → getI a j = getI l j → f (a, i, j) = some (.inl (if K (getI l j) = true then (a.set i.toNat (getI l j), i + 1, j + 1) else (a, i, j + 1))))
    (h2 : ∀ a i, a.length = l.length → f (a, i, l.length) = some (.inr (a, i))) {i0 : Int} (hi0 : inL l i0) (hk : K (getI l i0) = false) (hlt : ∀ j, inL l j → j < i0 → K (getI l j) = true) :
    ∃ a i, loopM f (l, i0, i0 + 1) = some (a, i) ∧ a.length = l.length ∧ 0 ≤ i ∧ i ≤ l.length ∧ a.take i.toNat = l.filter K := by
  have hb' : l.length ≤ 1000000 := hb
  obtain ⟨r, e, q1, q2, q3, q4⟩ := loopM_rule (f := f)
    (fun s => s.1.length = l.length ∧ 0 ≤ s.2.1 ∧ s.2.1 < s.2.2 ∧ s.2.2 ≤ l.length ∧ s.1.take s.2.1.toNat = (l.take s.2.2.toNat).filter K ∧ ∀ j, inL l j → s.2.2 ≤ j → getI s.1 j = getI l j)
    (fun r => r.1.length = l.length ∧ 0 ≤ r.2 ∧ r.2 ≤ l.length ∧ r.1.take r.2.toNat = l.filter K) (fun s => (l.length - s.2.2).toNat) (s := (l, i0, i0 + 1)) (fun s hI => by
      obtain ⟨a, i, j⟩ := s
      obtain ⟨ha, i0, ij, jl, ht, hd⟩ := hI
      simp only at ha i0 ij jl ht hd ⊢
      by_cases hj : j = l.length
      · subst hj
        refine ⟨_, h2 a i ha, ha, i0, by omega, ?_⟩
        simpa using ht
      · have ji : inL l j := ⟨by omega, by omega⟩
        have ii : inL l i := ⟨by omega, by omega⟩
        refine ⟨_, h1 a i j ha i0 ij ji ii (hd j ji (Int.le_refl _)), ?_⟩
        by_cases hK : K (getI l j) = true
        · simp only [hK, if_true]
          have ii' : inL a i := ⟨i0, by omega⟩
          refine ⟨⟨by simpa using ha, by omega, by omega, by omega, ?_, fun k hk hjk => ?_⟩, by omega⟩
          · rw [take_succ_getI (inL_set.2 ii'), take_succ_getI ji, List.filter_append, ← ht, getI_set ii' ii', if_pos rfl, List.take_set_of_le (by omega)]
            simp [hK]
          · rw [getI_set ii' ⟨hk.1, by have := hk.2; omega⟩, if_neg (by omega)]
            exact hd k hk (by omega)
        · rw [if_neg hK]
          refine ⟨⟨ha, i0, by simp only; omega, by simp only; omega, ?_, fun k hk hjk => hd k hk (by simp only at hjk; omega)⟩, by simp only; omega⟩
          simp only
          rw [take_succ_getI ji, List.filter_append, ← ht]
          simp [hK]) ⟨rfl, hi0.1, by simp only; omega, by have := hi0.2; simp only; omega, by
        simp only
        rw [take_succ_getI hi0, List.filter_append, ← filter_none_lt hi0.1 (by have := hi0.2; omega) hlt]
        simp [hk], fun j _ _ => rfl⟩ (by have := hi0.1; have := hi0.2; simp only; omega)
  exact ⟨r.1, r.2, e, q1, q2, q3, q4⟩

/-! ### Ports that may be gone out at -/
section
variable {n : Api_Net} {fw : List Bool}
def UsP (n : Api_Net) (fw : List Bool) (p : Int) : Prop := (getI n.ports p).link < 0 ∨ getI fw (getI n.ports p).link = true
/-- A net that may be, with as many truths as links. -/
structure FwOk (n : Api_Net) (fw : List Bool) : Prop where
  right : RightP n
  len : fw.length = n.links.length
theorem FwOk.link (h : FwOk n fw) {p : Int} (hp : inL n.ports p) : (getI n.ports p).link = -1 ∨ inL fw (getI n.ports p).link := by
  rcases (h.right.ports p hp).2.2.2.2.2.2.2.2 with h1 | h1
  · exact .inl h1
  · right
    have := h1.1
    unfold inL at this ⊢
    rw [h.len]; exact this
theorem lookup_usable_spec (h : FwOk n fw) {p : Int} (hp : inL n.ports p) : lookup_usable n fw p = some (decide (UsP n fw p)) := by
  unfold lookup_usable UsP
  rcases h.link hp with h1 | h1
  · simp [nth_getI hp, h1]
  · have : ¬ (getI n.ports p).link < 0 := by have := h1.1; omega
    simp [nth_getI hp, nth_getI h1, this]
theorem r29Usable_spec (h : FwOk n fw) {p : Int} (hp : inL n.ports p) : palingref29_Usable n fw p = some (decide (UsP n fw p)) := by
  unfold palingref29_Usable UsP
  rcases h.link hp with h1 | h1
  · simp [rPlace_spec, hp, nth_getI hp, h1]
  · have h2 : ¬ (getI n.ports p).link < 0 := by have := h1.1; omega
    have h3 : ¬ (getI n.ports p).link = -1 := by have := h1.1; omega
    simp [rPlace_spec, hp, nth_getI hp, nth_getI h1, h2, h3]
theorem lookup_Usable_spec (hs : SmN n) {p : Int} : lookup_Usable n fw p = some (decide (FwOk n fw ∧ inL n.ports p ∧ UsP n fw p)) := by
  unfold lookup_Usable
  simp only [bind_ite, Option.bind_some, dif1, dif2, dif3, dif4, dif5, dif6, dif7, dnot, ibeq, ibne, decide_eq_true_eq, if_not2, ge_iff_le, gt_iff_lt, fst_ret, Bool.false_eq_true, decide_false]
  by_cases h0 : 0 ≤ p
  case neg => simp [h0, inL]
  by_cases h1 : p < n.ports.length
  case neg => simp [h0, h1, inL]
  have hp : inL n.ports p := ⟨h0, h1⟩
  by_cases hl : fw.length = n.links.length
  case neg =>
    have : ¬ FwOk n fw := fun h => hl h.len
    have h2 : ¬ (fw.length : Int) = n.links.length := by omega
    simp [h0, h1, h2, this]
  have h2 : (fw.length : Int) = n.links.length := by omega
  by_cases hr : RightP n
  case neg =>
    have : ¬ FwOk n fw := fun h => hr h.right
    simp [h0, h1, h2, this, names_Right_spec hs, hr]
  have hF : FwOk n fw := ⟨hr, hl⟩
  simp [h0, h1, h2, names_Right_spec hs, hr, lookup_usable_spec hF hp, hF, hp]

/-- Where a frame may go of some ports. -/
noncomputable def goB (n : Api_Net) (fw : List Bool) (frm p : Int) : Bool := decide (p ≠ frm ∧ UsP n fw p)
theorem room_ports_1_spec (h : FwOk n fw) {p d frm : Int} {mem : List Int} (hp : inL n.ports p) : lookup_room_ports_1 p ⟨n, fw, d, frm, mem⟩ = some (! goB n fw frm p) := by
  unfold lookup_room_ports_1 goB
  simp only [lookup_usable_spec h hp, bind_ite, Option.bind_some, dif1, dif2, dif3, dif4, dif5, dif6, dif7, dnot, ibeq, ibne, decide_eq_true_eq, if_not2, ge_iff_le, gt_iff_lt, fst_ret, Bool.false_eq_true, decide_false]
  by_cases e : p = frm <;> simp [e]
theorem IF_room_spec (h : FwOk n fw) {d frm : Int} {mem l : List Int} (hl : Few l) (ha : ∀ p ∈ l, inL n.ports p) : slices_IndexFunc_int_room_ports_1 l ⟨n, fw, d, frm, mem⟩ = some (fstI l (fun p => goB n fw frm p = false)) := by
  unfold slices_IndexFunc_int_room_ports_1
  rw [loop_first l (fun p => goB n fw frm p = false) hl (fun i h0 h1 h2 => by
    have hl' : l.length ≤ 1000000 := hl
    simp (disch := omega) only [slices_IndexFunc_int_room_ports_1_L1, h1, nth_getI h2, wr64, room_ports_1_spec h (ha _ (getI_mem h2)), decide_true, if_true, Option.bind_some]
    cases goB n fw frm (getI l i) <;> simp) (by simp [slices_IndexFunc_int_room_ports_1_L1])]
  by_cases h2 : 0 ≤ fstI l (fun p => goB n fw frm p = false)
  · simp [h2]
  · have := fstI_ge (l := l) (P := fun p => goB n fw frm p = false)
    simp [h2]; omega
theorem room_ports_spec (h : FwOk n fw) {d frm : Int} {mem l : List Int} (hl : l.length ≤ 1000000) (ha : ∀ p ∈ l, inL n.ports p) : lookup_room_ports ⟨n, fw, d, frm, mem⟩ l = some (l.filter (goB n fw frm)) := by
  have hf : Few l := hl
  have hr : roomy 8 l = true := roomy_few (by omega)
  simp only [lookup_room_ports, slices_Clone_int, hr, if_true, Option.bind_some, slices_DeleteFunc_int_room_ports_1_own, IF_room_spec h hf ha]
  rcases fstI_cases (l := l) (P := fun p => goB n fw frm p = false) with ⟨e, h1⟩ | ⟨h1, h2, h3⟩
  · rw [e]
    have : l.filter (goB n fw frm) = l := by
      rw [List.filter_eq_self]
      intro x hx
      obtain ⟨i, hi, rfl⟩ := mem_getI hx
      have := h1 i hi
      simpa using this
    simp [this]
  · have h4 : ¬ fstI l (fun p => goB n fw frm p = false) = -1 := by have := h1.1; omega
    have h5 := wr64 (n := fstI l (fun p => goB n fw frm p = false) + 1) (by have := h1.1; omega) (by have := h1.2; omega)
    generalize fstI l (fun p => goB n fw frm p = false) = i0 at *
    obtain ⟨a, i, e, q1, q2, q3, q4⟩ := del_loop l (goB n fw frm) (f := fun s : (List Int) × Int × Int => match s with | (l6, v7, v8) => slices_DeleteFunc_int_room_ports_1_own_L1 l ⟨n, fw, d, frm, mem⟩ l6 v7 v8) hf (fun a i j ha0 hi hij hj hi2 hg => by
      have j1 := hj.1; have j2 := hj.2
      have ji : inL a j := ⟨hj.1, by omega⟩
      have ii : inL a i := ⟨hi, by omega⟩
      have w1 := wr64 (n := i + 1) (by omega) (by omega)
      have w2 := wr64 (n := j + 1) (by omega) (by omega)
      have l1 : lin a j = true := by rw [lin_dec]; exact decide_eq_true ji
      have l2 : lin a i = true := by rw [lin_dec]; exact decide_eq_true ii
      simp only [slices_DeleteFunc_int_room_ports_1_own_L1, j2, l1, l2, getI_get? ji, getI_get? ii, hg, room_ports_1_spec h (ha _ (getI_mem hj)), w1, w2, decide_true, if_true, Option.bind_some, Bool.not_not]
      split <;> rfl) (fun a i ha0 => by simp [slices_DeleteFunc_int_room_ports_1_own_L1]) h1 h2 (fun j hj hlt => by have := h3 j hj hlt; simpa using this)
    have s1 : slok a.length i a.length = true := by rw [slok_dec]; exact decide_eq_true ⟨q2, by omega, by omega⟩
    have s2 : List.take i.toNat a ++ (List.replicate ((Int.toNat (a.length : Int)) - i.toNat) (0 : Int) ++ List.drop (Int.toNat (a.length : Int)) a) = List.take i.toNat a ++ List.replicate (a.length - i.toNat) (0 : Int) := by simp
    have s3 : slok (List.take i.toNat a ++ List.replicate (a.length - i.toNat) (0 : Int)).length 0 i = true := by rw [slok_dec]; exact decide_eq_true ⟨by omega, q2, by simp; omega⟩
    simp only [ibeq, h4, decide_false, Bool.false_eq_true, if_false, h5, e, s1, s2, s3, if_true, Option.bind_some]
    rw [← q4]
    have : (List.take i.toNat a).length = i.toNat := by simp; omega
    simp [this]

/-- A domain's ports. -/
theorem membersL_in {k p : Int} (h : p ∈ membersL n k) : inL n.ports p := by
  obtain ⟨i, hi, _, rfl⟩ := mem_gatherI.1 h
  exact hi
theorem membersL_len {k : Int} : (membersL n k).length ≤ n.ports.length := gatherI_len
theorem rMembers_spec (hs : SmN n) {k : Int} : palingref15_Members n k = some (if inL n.domains k then membersL n k else []) := by
  by_cases hk : inL n.domains k
  case neg => simp [palingref15_Members, rPlace_spec, hk]
  simp only [palingref15_Members, rPlace_spec, hk, nth_getI hk, decide_true, Bool.not_true, Bool.false_eq_true, if_false, if_true, Option.bind_some]
  rw [loop_gather n.ports (fun _ p => InDom n k p) (fun i _ => i) (out := id) hs.ports (fun i s h0 h1 h2 h3 => by
    have h4 := hs.ports
    have h5 : roomy 8 (s ++ [i]) = true := roomy_few (by simp; omega)
    simp (disch := omega) only [palingref15_Members_L1, h1, nth_getI h2, rMember_spec (hs.tagged _ (getI_mem h2)), wr64, h5, bind_ite, Option.bind_some, dif1, dif2, dif3, dif4, dif5, dif6, dif7, dnot, ibeq, ibne, decide_eq_true_eq, if_not2, ge_iff_le, gt_iff_lt, fst_ret, Bool.false_eq_true, decide_false, decide_true, if_true, InDom]
    grind) (fun s => by simp [palingref15_Members_L1])]
  rfl

/-- May a frame from there be in a domain? -/
structure OpenP (n : Api_Net) (fw : List Bool) (d frm : Int) : Prop where
  fw : FwOk n fw
  dom : inL n.domains d
  frm : frm = -1 ∨ frm = -2 ∨ frm ∈ membersL n d
theorem open_spec (hs : SmN n) {d frm : Int} : (¬ (FwOk n fw ∧ inL n.domains d) ∧ lookup_open n fw d frm = some (.inl ())) ∨
    ((FwOk n fw ∧ inL n.domains d) ∧ lookup_open n fw d frm = some (.inr (membersL n d, decide (OpenP n fw d frm)))) := by
  unfold lookup_open
  simp only [bind_ite, Option.bind_some, dif1, dif2, dif3, dif4, dif5, dif6, dif7, dnot, ibeq, ibne, decide_eq_true_eq, if_not2, ge_iff_le, gt_iff_lt, fst_ret, Bool.false_eq_true, decide_false]
  by_cases hd : inL n.domains d
  case neg =>
    left
    refine ⟨fun h => hd h.2, ?_⟩
    have : d < 0 ∨ (n.domains.length : Int) ≤ d := by unfold inL at hd; omega
    rcases this with h | h <;> simp [h]
  have d1 : ¬ d < 0 := by have := hd.1; omega
  have d2 : ¬ (n.domains.length : Int) ≤ d := by have := hd.2; omega
  by_cases hl : fw.length = n.links.length
  case neg =>
    left
    have : ¬ (fw.length : Int) = n.links.length := by omega
    exact ⟨fun h => hl h.1.len, by simp [d1, d2, this]⟩
  have h2 : (fw.length : Int) = n.links.length := by omega
  by_cases hr : RightP n
  case neg => exact .inl ⟨fun h => hr h.1.right, by simp [d1, d2, h2, names_Right_spec hs, hr]⟩
  right
  have hF : FwOk n fw := ⟨hr, hl⟩
  refine ⟨⟨hF, hd⟩, ?_⟩
  have hm : Few (membersL n d) := Nat.le_trans membersL_len hs.ports
  have ho : OpenP n fw d frm ↔ frm = -1 ∨ frm = -2 ∨ frm ∈ membersL n d := ⟨fun h => h.frm, fun h => ⟨hF, hd, h⟩⟩
  simp only [d1, d2, h2, names_Right_spec hs, hr, names_Members_spec hs, hd, Contains_int_spec hm, ho, ne_eq, not_true_eq_false, if_false, if_true, decide_true, Bool.not_true, Bool.false_eq_true, Option.bind_some, and_self]
  by_cases e1 : frm = -1
  · simp [e1]
  by_cases e2 : frm = -2
  · simp [e1, e2]
  simp [e1, e2]
theorem fits_spec (hs : SmN n) {d frm : Int} : palingref29_fits n fw d frm = some (decide (OpenP n fw d frm)) := by
  unfold palingref29_fits
  simp only [rRight_spec hs, rPlace_spec, rMembers_spec hs, bind_ite, Option.bind_some, dif1, dif2, dif3, dif4, dif5, dif6, dif7, dnot, ibeq, ibne, decide_eq_true_eq, if_not2, ge_iff_le, gt_iff_lt, fst_ret, Bool.false_eq_true, decide_false]
  by_cases hr : RightP n
  case neg =>
    have : ¬ OpenP n fw d frm := fun h => hr h.fw.right
    simp [hr, this]
  by_cases hl : fw.length = n.links.length
  case neg =>
    have h2 : ¬ (fw.length : Int) = n.links.length := by omega
    have : ¬ OpenP n fw d frm := fun h => hl h.fw.len
    simp [hr, h2, this]
  have h2 : (fw.length : Int) = n.links.length := by omega
  by_cases hd : inL n.domains d
  case neg =>
    have : ¬ OpenP n fw d frm := fun h => hd h.dom
    simp [hr, h2, hd, this]
  have hF : FwOk n fw := ⟨hr, hl⟩
  have hm : Few (membersL n d) := Nat.le_trans membersL_len hs.ports
  have ho : OpenP n fw d frm ↔ frm = -1 ∨ frm = -2 ∨ frm ∈ membersL n d := ⟨fun h => h.frm, fun h => ⟨hF, hd, h⟩⟩
  simp only [hr, h2, hd, rIn_spec hm, ho, ne_eq, not_true_eq_false, if_false, if_true, decide_true, Option.bind_some, not_not]
  by_cases e1 : frm = -1
  · simp [e1]
  by_cases e2 : frm = -2
  · simp [e1, e2]
  simp [e1, e2]
end
end Go.Eng
