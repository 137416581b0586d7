/- Part of the proof of ChooseTells: the plain law. No conditions. -/
import Derived.Test.YtlinloabahbioaaEngR36
import Derived.Test.YtlinloabahbioaaEngP36
set_option linter.unusedVariables false
set_option linter.unusedSectionVars false
set_option linter.unusedSimpArgs false
namespace Go.Eng
open Go Classical
attribute [local congr] ite_cg
section
variable {n : Api_Net}
theorem LedP.one {irb x a b : Int} (h1 : LedP n irb x a) (h2 : LedP n irb x b) : a = b := by
  have u := h1.best b h2.im h2.cand
  have v := h2.best a h1.im h1.cand
  rcases (by omega : a < b ∨ a = b ∨ b < a) with h | h | h
  · have := v.2 h; omega
  · exact h
  · have := u.2 h; omega
theorem NoLed.not {irb x a : Int} (h : NoLed n irb x) : ¬ LedP n irb x a := fun g => by
  rcases h with h | h
  · exact g.own h
  · exact h a g.im g.cand

theorem r36taken_spec (hs : SmN n) {x : Int} : palingref36_taken n x = some (decide (TakenP n x)) := by
  have hf := hs.irbs
  unfold palingref36_taken
  rw [loop_each (f := palingref36_taken_L1 n x) n.irbs (fun _ y => ¬ y.net.addr = x) (.inl ()) (.inr ()) hf (fun i h0 h1 h2 => by
    simp (disch := omega) only [palingref36_taken_L1, h1, nth_getI h2, wr64, bind_ite, Option.bind_some, dif1, dif2, dif3, dif4, dif5, dif6, dif7, dnot, ibeq, ibne, decide_eq_true_eq, if_not2, ge_iff_le, gt_iff_lt, fst_ret, Bool.false_eq_true, decide_false, mrg1, mrg2, mrg3, mrg4, mrg5, mrg6, mrg7, decide_true, if_true]
    by_cases c : (getI n.irbs i).net.addr = x <;> simp [c]) (by simp [palingref36_taken_L1])]
  have hk : EachP n.irbs (fun _ y => ¬ y.net.addr = x) ↔ ¬ TakenP n x := by
    rw [eachP_mem]
    constructor
    · rintro h ⟨y, h2, h3⟩; exact h y h2 h3
    · rintro h y h2 h3; exact h ⟨y, h2, h3⟩
  by_cases h : TakenP n x
  · rw [if_neg (fun g => hk.1 g h), decide_eq_true h]; rfl
  · rw [if_pos (hk.2 h), decide_eq_false h]; rfl

theorem r36Leads_spec (ho : n.Ok) (hs : SmN n) (hr : RightP n) {irb to x : Int} (hi : inL n.irbs irb) : palingref36_Leads n irb to x = some (decide (GoodP n irb to x)) := by
  obtain ⟨r, h1, h2⟩ := r30Lookup_spec ho hs hr (x := x) hi
  simp only [palingref36_Leads, h1, r36taken_spec hs, Option.bind_some]
  rcases h2 with ⟨rfl, h⟩ | ⟨m, rfl, h⟩
  · have : ¬ GoodP n irb to x := fun g => h.not g.1
    simp [this]
  · by_cases e : m = to
    · subst e
      by_cases ht : TakenP n x
      · have : ¬ GoodP n irb m x := fun g => g.2 ht
        simp [ht, this]
      · have : GoodP n irb m x := ⟨h, ht⟩
        simp [ht, this]
    · have : ¬ GoodP n irb to x := fun g => e (h.one g.1)
      simp [e, this]

/-- The addresses that are tried. -/
def TryA (n : Api_Net) (to y : Int) : Prop := y = firstA (getI n.irbs to).net ∨ ∃ j, inL n.irbs j ∧ (y = (getI n.irbs j).net.addr + 1 ∨ y = lastA (getI n.irbs j).net + 1)
theorem least_try (ho : n.Ok) (hr : RightP n) {irb to a : Int} (ht : inL n.irbs to) (a0 : 0 ≤ a) (hg : GoodP n irb to a) (hl : ∀ x, 0 ≤ x → x < a → ¬ GoodP n irb to x) : TryA n to a := by
  have hP := (irb_pre ho hr ht).1
  have hfl := first_le hP
  have hh : HasP (getI n.irbs to).net a := hg.1.cand.1
  by_cases e : a = firstA (getI n.irbs to).net
  · exact .inl e
  have h1 : firstA (getI n.irbs to).net ≤ a - 1 := by have := hh.1; omega
  have hno := hl (a - 1) (by omega) (by omega)
  apply Classical.byContradiction
  intro hn
  refine hno ⟨⟨?_, ht, ⟨⟨h1, by have := hh.2; omega⟩, hg.1.cand.2⟩, fun j hj hc => ?_⟩, ?_⟩
  · rintro ⟨i, h2, _, h3⟩
    exact hn (.inr ⟨i, h2, .inl (by omega)⟩)
  · by_cases hc2 : HasP (getI n.irbs j).net a
    · exact hg.1.best j hj ⟨hc2, hc.2⟩
    · exfalso
      have := hc.1
      unfold HasP at hc2 this
      exact hn (.inr ⟨j, hj, .inr (by omega)⟩)
  · rintro ⟨y, hy, h3⟩
    obtain ⟨i, h2, rfl⟩ := mem_getI hy
    exact hn (.inr ⟨i, h2, .inl (by omega)⟩)

theorem r36list_spec (ho : n.Ok) (hr : RightP n) (hb : n.irbs.length ≤ 200) {irb to : Int} (ht : inL n.irbs to) :
    ∃ l, loopM (fun s : (List Int) × Int => match s with | (l14, v15) => palingref36_Address_L1 n irb to l14 v15) ([firstA (getI n.irbs to).net], 0) = some l ∧ l.length ≤ 401 ∧ ∀ y, y ∈ l ↔ TryA n to y := by
  obtain ⟨r, h1, h2⟩ := loopM_rule (f := fun s : (List Int) × Int => match s with | (l14, v15) => palingref36_Address_L1 n irb to l14 v15)
    (fun s => 0 ≤ s.2 ∧ s.2 ≤ n.irbs.length ∧ s.1.length = 1 + 2 * s.2 ∧ ∀ y, y ∈ s.1 ↔ (y = firstA (getI n.irbs to).net ∨ ∃ j, inL n.irbs j ∧ j < s.2 ∧ (y = (getI n.irbs j).net.addr + 1 ∨ y = lastA (getI n.irbs j).net + 1)))
    (fun l => l.length ≤ 401 ∧ ∀ y, y ∈ l ↔ TryA n to y) (fun s => (n.irbs.length - s.2).toNat) (s := ([firstA (getI n.irbs to).net], 0)) (fun s hI => by
      obtain ⟨l, i⟩ := s
      obtain ⟨h0, h1, h2, h3⟩ := hI
      simp only at h0 h1 h2 h3 ⊢
      by_cases hlt : i < n.irbs.length
      · have hii : inL n.irbs i := ⟨h0, hlt⟩
        have hP := (irb_pre ho hr hii).1
        have hfl := first_le hP
        have ha0 := hP.a0
        have hw := wr64 (n := i + 1) (by omega) (by omega)
        have w1 := wr64 (n := (getI n.irbs i).net.addr) (by omega) (by omega)
        have w2 := wr64 (n := (getI n.irbs i).net.addr + 1) (by omega) (by omega)
        have w3 := wr64 (n := lastA (getI n.irbs i).net) (by omega) (by omega)
        have w4 := wr64 (n := lastA (getI n.irbs i).net + 1) (by omega) (by omega)
        have h5 : roomy 8 (l ++ [(getI n.irbs i).net.addr + 1, lastA (getI n.irbs i).net + 1]) = true := roomy_few (by simp; omega)
        refine ⟨.inl (l ++ [(getI n.irbs i).net.addr + 1, lastA (getI n.irbs i).net + 1], i + 1), ?_, ⟨by omega, by simp only; omega, by simp; omega, fun y => ?_⟩, by simp only; omega⟩
        · simp only [palingref36_Address_L1, hlt, nth_getI hii, r02Last_spec hP, w1, w2, w3, w4, hw, h5, decide_true, if_true, Option.bind_some]
        · simp only [List.mem_append, h3, List.mem_cons, List.not_mem_nil, or_false]
          constructor
          · rintro ((h | ⟨j, q1, q2, q3⟩) | h)
            · exact .inl h
            · exact .inr ⟨j, q1, by omega, q3⟩
            · exact .inr ⟨i, hii, by omega, h⟩
          · rintro (h | ⟨j, q1, q2, q3⟩)
            · exact .inl (.inl h)
            · by_cases e : j = i
              · subst e; exact .inr q3
              · exact .inl (.inr ⟨j, q1, by omega, q3⟩)
      · have : i = n.irbs.length := by omega
        subst this
        refine ⟨.inr l, by simp [palingref36_Address_L1], by omega, fun y => ?_⟩
        rw [h3]
        unfold TryA
        constructor
        · rintro (h | ⟨j, q1, q2, q3⟩)
          · exact .inl h
          · exact .inr ⟨j, q1, q3⟩
        · rintro (h | ⟨j, q1, q3⟩)
          · exact .inl h
          · exact .inr ⟨j, q1, q1.2, q3⟩) ⟨by simp, by simp, by simp, fun y => by
        simp only [List.mem_cons, List.not_mem_nil, or_false]
        constructor
        · exact .inl
        · rintro (h | ⟨j, q1, q2, q3⟩)
          · exact h
          · have := q1.1; omega⟩ (by simp only; omega)
  exact ⟨r, h1, h2.1, h2.2⟩

theorem r36least_spec (ho : n.Ok) (hs : SmN n) (hr : RightP n) {irb to : Int} (hi : inL n.irbs irb) {l : List Int} (hl : l.length ≤ 401) (hp : ∀ y ∈ l, 0 ≤ y) :
    ∃ m, loopM (fun s : Int × Int => match s with | (v34, v35) => palingref36_Address_L2 n irb to l v34 v35) (-1, 0) = some m ∧
      ((m = -1 ∧ ∀ y ∈ l, y < 4294967296 → ¬ GoodP n irb to y) ∨ (0 ≤ m ∧ m < 4294967296 ∧ m ∈ l ∧ GoodP n irb to m ∧ ∀ y ∈ l, y < 4294967296 → GoodP n irb to y → m ≤ y)) := by
  obtain ⟨r, h1, h2⟩ := loopM_rule (f := fun s : Int × Int => match s with | (v34, v35) => palingref36_Address_L2 n irb to l v34 v35)
    (fun s => 0 ≤ s.2 ∧ s.2 ≤ l.length ∧ ((s.1 = -1 ∧ ∀ j, inL l j → j < s.2 → getI l j < 4294967296 → ¬ GoodP n irb to (getI l j)) ∨ (0 ≤ s.1 ∧ s.1 < 4294967296 ∧ s.1 ∈ l ∧ GoodP n irb to s.1 ∧ ∀ j, inL l j → j < s.2 → getI l j < 4294967296 → GoodP n irb to (getI l j) → s.1 ≤ getI l j)))
    (fun m => (m = -1 ∧ ∀ y ∈ l, y < 4294967296 → ¬ GoodP n irb to y) ∨ (0 ≤ m ∧ m < 4294967296 ∧ m ∈ l ∧ GoodP n irb to m ∧ ∀ y ∈ l, y < 4294967296 → GoodP n irb to y → m ≤ y)) (fun s => (l.length - s.2).toNat) (s := (-1, 0)) (fun s hI => by
      obtain ⟨m, i⟩ := s
      obtain ⟨h0, h1, hb⟩ := hI
      simp only at h0 h1 hb ⊢
      by_cases hlt : i < l.length
      · have hii : inL l i := ⟨h0, hlt⟩
        have hw := wr64 (n := i + 1) (by omega) (by omega)
        have hmem := getI_mem hii
        have y0 := hp _ hmem
        have hlin : lin l i = true := by unfold lin; exact decide_eq_true ⟨h0, hlt⟩
        simp only [palingref36_Address_L2, hlt, hlin, getI_get? hii, hw, decide_true, if_true, Option.bind_some, decide_eq_true_eq]
        have keepN : (getI l i < 4294967296 → ¬ GoodP n irb to (getI l i)) → ((m = -1 ∧ ∀ j, inL l j → j < i + 1 → getI l j < 4294967296 → ¬ GoodP n irb to (getI l j)) ∨ (0 ≤ m ∧ m < 4294967296 ∧ m ∈ l ∧ GoodP n irb to m ∧ ∀ j, inL l j → j < i + 1 → getI l j < 4294967296 → GoodP n irb to (getI l j) → m ≤ getI l j)) := fun hn => by
          rcases hb with ⟨e, h⟩ | ⟨a1, a2, a3, a4, a5⟩
          · exact .inl ⟨e, fun j hj hji => by by_cases e : j = i; subst e; exact hn; exact h j hj (by omega)⟩
          · exact .inr ⟨a1, a2, a3, a4, fun j hj hji hq hg => by by_cases e : j = i; subst e; exact absurd hg (hn hq); exact a5 j hj (by omega) hq hg⟩
        by_cases c1 : getI l i < 4294967296
        case neg => rw [if_neg c1]; exact ⟨_, rfl, ⟨by omega, by omega, keepN (fun h => absurd h c1)⟩, by simp only; omega⟩
        rw [if_pos c1]
        have hw32 := wr32 (n := getI l i) (by omega) (by omega)
        have hlead := r36Leads_spec ho hs hr (to := to) (x := getI l i) hi
        rw [hw32, hlead]
        simp only [Option.bind_some, decide_eq_true_eq]
        by_cases c2 : m < 0
        · rw [if_pos c2]
          by_cases c3 : GoodP n irb to (getI l i)
          · rw [if_pos c3]
            refine ⟨_, rfl, ⟨by omega, by omega, .inr ⟨y0, c1, hmem, c3, fun j hj hji hq hg => ?_⟩⟩, by simp only; omega⟩
            by_cases e : j = i
            · subst e; exact Int.le_refl _
            · rcases hb with ⟨_, h⟩ | ⟨a1, _⟩
              · exact absurd hg (h j hj (by simp only at hji; omega) hq)
              · omega
          · rw [if_neg c3]
            exact ⟨_, rfl, ⟨by omega, by omega, keepN (fun _ => c3)⟩, by simp only; omega⟩
        · rw [if_neg c2]
          rcases hb with ⟨e, h⟩ | ⟨a1, a2, a3, a4, a5⟩
          · omega
          by_cases c4 : getI l i < m
          · rw [if_pos c4]
            by_cases c3 : GoodP n irb to (getI l i)
            · rw [if_pos c3]
              refine ⟨_, rfl, ⟨by omega, by omega, .inr ⟨y0, c1, hmem, c3, fun j hj hji hq hg => ?_⟩⟩, by simp only; omega⟩
              by_cases e : j = i
              · subst e; exact Int.le_refl _
              · have := a5 j hj (by simp only at hji; omega) hq hg; simp only; omega
            · rw [if_neg c3]
              exact ⟨_, rfl, ⟨by omega, by omega, keepN (fun _ => c3)⟩, by simp only; omega⟩
          · rw [if_neg c4]
            refine ⟨_, rfl, ⟨by omega, by omega, .inr ⟨a1, a2, a3, a4, fun j hj hji hq hg => ?_⟩⟩, by simp only; omega⟩
            by_cases e : j = i
            · subst e; simp only; omega
            · exact a5 j hj (by simp only at hji; omega) hq hg
      · have : i = l.length := by omega
        subst this
        refine ⟨.inr m, by simp [palingref36_Address_L2], ?_⟩
        rcases hb with ⟨e, h⟩ | ⟨a1, a2, a3, a4, a5⟩
        · refine .inl ⟨e, fun y hy => ?_⟩
          obtain ⟨j, hj, rfl⟩ := mem_getI hy
          exact h j hj hj.2
        · refine .inr ⟨a1, a2, a3, a4, fun y hy => ?_⟩
          obtain ⟨j, hj, rfl⟩ := mem_getI hy
          exact a5 j hj hj.2) ⟨by simp, by simp, .inl ⟨rfl, fun j hj h => by have := hj.1; simp only at h; omega⟩⟩ (by simp only; omega)
  exact ⟨r, h1, h2⟩

/-- Both tell the same address. -/
theorem addr_same (ho : n.Ok) (hs : SmN n) (hr : RightP n) (hb : n.irbs.length ≤ 200) {irb to : Int} : ∃ r, choose_Address n irb to = some r ∧ palingref36_Address n irb to = some r := by
  obtain ⟨r, h1, h2⟩ := choose_Address_spec ho hs (irb := irb) (to := to)
  refine ⟨r, h1, ?_⟩
  by_cases hi : inL n.irbs irb
  case neg =>
    have : r = (0, false) := by rcases h2 with ⟨e, _⟩ | ⟨a, _, _, h, _⟩; exact e; exact absurd h hi
    simp [palingref36_Address, rPlace_spec, hi, this]
  by_cases ht : inL n.irbs to
  case neg =>
    have : r = (0, false) := by rcases h2 with ⟨e, _⟩ | ⟨a, _, _, _, h, _⟩; exact e; exact absurd h ht
    simp [palingref36_Address, rPlace_spec, hi, ht, this]
  have hP := (irb_pre ho hr ht).1
  have hfl := first_le hP
  have w1 := wr64 (n := firstA (getI n.irbs to).net) (by omega) (by omega)
  obtain ⟨l, e1, hl, hmem⟩ := r36list_spec ho hr hb (irb := irb) ht
  have hpos : ∀ y ∈ l, 0 ≤ y := fun y hy => by
    rcases (hmem y).1 hy with h | ⟨j, hj, h⟩
    · omega
    · have hP2 := (irb_pre ho hr hj).1
      have := first_le hP2
      have := hP2.a0
      omega
  obtain ⟨m, e2, hm⟩ := r36least_spec ho hs hr (to := to) hi hl hpos
  simp only [palingref36_Address, rPlace_spec, hi, ht, nth_getI ht, r02First_spec hP, w1, e1, e2, bind_ite, Option.bind_some, dif1, dif2, dif3, dif4, dif5, dif6, dif7, dnot, ibeq, ibne, decide_eq_true_eq, if_not2, ge_iff_le, gt_iff_lt, fst_ret, Bool.false_eq_true, decide_false, decide_true, Bool.not_true, if_false]
  rcases h2 with ⟨rfl, hno⟩ | ⟨a, rfl, _, _, _, a0, a1, hg, hleast⟩
  · rcases hm with ⟨rfl, _⟩ | ⟨m0, m1, _, hgm, _⟩
    · simp
    · exact absurd hgm (hno hr hi ht m m0 m1)
  · have hta := (hmem a).2 (least_try ho hr ht a0 hg hleast)
    rcases hm with ⟨_, h⟩ | ⟨m0, m1, _, hgm, h⟩
    · exact absurd hg (h a hta a1)
    · have k1 := h a hta a1 hg
      have k2 : ¬ m < a := fun h => hleast m m0 h hgm
      have : m = a := by omega
      subst this
      have w := wr32 (n := m) (by omega) (by omega)
      have : ¬ m < 0 := by omega
      simp [this, w]
end
end Go.Eng
