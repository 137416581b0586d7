/- Part of the proof of ChooseTells: the address that is chosen. No conditions. -/
import Derived.Test.YtlinloabahbioaaEngP36a
set_option linter.unusedVariables false
set_option linter.unusedSectionVars false
set_option linter.unusedSimpArgs false
namespace Go.Eng
open Go Classical
attribute [local congr] ite_cg

theorem addr_First_spec {p : Api_Prefix} (h : PreOk p) : addr_First p = some (firstA p) := by
  have := andNot_u32 (x := p.addr) (k := kOf p) h.a0 h.a1 (kOf_le h)
  have e : ((2 ^ kOf p - 1 : Nat) : Int) = pw (kOf p) - 1 := by unfold pw; have := Nat.two_pow_pos (kOf p); omega
  rw [e] at this
  simp only [addr_First, addr_Right_spec h, addr_rest_spec h, Option.bind_some, Bool.not_true, Bool.false_eq_true, if_false, this]
  rfl
theorem addr_Last_spec {p : Api_Prefix} (h : PreOk p) : addr_Last p = some (lastA p) := by
  have := or_u32 (x := p.addr) (k := kOf p) h.a0 h.a1 (kOf_le h)
  have e : ((2 ^ kOf p - 1 : Nat) : Int) = pw (kOf p) - 1 := by unfold pw; have := Nat.two_pow_pos (kOf p); omega
  rw [e] at this
  simp only [addr_Last, addr_Right_spec h, addr_rest_spec h, Option.bind_some, Bool.not_true, Bool.false_eq_true, if_false, this]
  rfl
section
variable {n : Api_Net}
/-! ### The address that is chosen -/
def TakenP (n : Api_Net) (x : Int) : Prop := ∃ y ∈ n.irbs, y.net.addr = x
theorem contains_of_first {α : Type} [Inhabited α] {l : List α} {P : α → Prop} : 0 ≤ fstI l P ↔ ∃ y ∈ l, P y := by
  have := fstI_none_mem (l := l) (P := P)
  constructor
  · intro h
    apply Classical.byContradiction
    intro hn
    have := this.2 (fun y hy e => hn ⟨y, hy, e⟩); omega
  · rintro ⟨t, h1, h2⟩
    apply Classical.byContradiction
    intro hn
    exact this.1 (by omega) t h1 h2
theorem taken1_spec (hs : SmN n) {x : Int} : slices_ContainsFunc_Irb_Address_1 n.irbs x = some (decide (TakenP n x)) := by
  unfold slices_ContainsFunc_Irb_Address_1 slices_IndexFunc_Irb_Address_1
  rw [loop_first n.irbs (fun y => y.net.addr = x) hs.irbs (fun i h0 h1 h2 => by
    have := hs.irbs
    simp (disch := omega) only [slices_IndexFunc_Irb_Address_1_L1, choose_Address_1, h1, nth_getI h2, wr64, bind_ite, Option.bind_some, dif1, dif2, dif3, dif4, dif5, dif6, dif7, dnot, ibeq, ibne, decide_eq_true_eq, if_not2, ge_iff_le, gt_iff_lt, fst_ret, Bool.false_eq_true, decide_false, decide_true, if_true]
    exact fpos Iff.rfl) (by simp [slices_IndexFunc_Irb_Address_1_L1])]
  simp only [bind_ite, Option.bind_some, dif1, dif2, dif3, dif4, dif5, dif6, dif7, dnot, ibeq, ibne, decide_eq_true_eq, if_not2, ge_iff_le, gt_iff_lt, fst_ret, Bool.false_eq_true, decide_false]
  exact sdec contains_of_first
theorem taken2_spec (hs : SmN n) {x : Int} : slices_ContainsFunc_Irb_past_1 n.irbs x = some (decide (TakenP n x)) := by
  unfold slices_ContainsFunc_Irb_past_1 slices_IndexFunc_Irb_past_1
  rw [loop_first n.irbs (fun y => y.net.addr = x) hs.irbs (fun i h0 h1 h2 => by
    have := hs.irbs
    simp (disch := omega) only [slices_IndexFunc_Irb_past_1_L1, choose_past_1, h1, nth_getI h2, wr64, bind_ite, Option.bind_some, dif1, dif2, dif3, dif4, dif5, dif6, dif7, dnot, ibeq, ibne, decide_eq_true_eq, if_not2, ge_iff_le, gt_iff_lt, fst_ret, Bool.false_eq_true, decide_false, decide_true, if_true]
    exact fpos Iff.rfl) (by simp [slices_IndexFunc_Irb_past_1_L1])]
  simp only [bind_ite, Option.bind_some, dif1, dif2, dif3, dif4, dif5, dif6, dif7, dnot, ibeq, ibne, decide_eq_true_eq, if_not2, ge_iff_le, gt_iff_lt, fst_ret, Bool.false_eq_true, decide_false]
  exact sdec contains_of_first

/-- An address by which packets are led to an interface, that is no interface's. -/
def GoodP (n : Api_Net) (irb to x : Int) : Prop := LedP n irb x to ∧ ¬ TakenP n x

theorem past_spec (ho : n.Ok) (hs : SmN n) (hr : RightP n) {x led : Int} (x0 : 0 ≤ x) (x1 : x < 4294967296) (hl : ¬ TakenP n x → inL n.irbs led) :
    choose_past n x led = some (if TakenP n x then x + 1 else lastA (getI n.irbs led).net + 1) := by
  simp only [choose_past, taken2_spec hs, bind_ite, Option.bind_some, dif1, dif2, dif3, dif4, dif5, dif6, dif7, dnot, ibeq, ibne, decide_eq_true_eq, if_not2, ge_iff_le, gt_iff_lt, fst_ret, Bool.false_eq_true, decide_false]
  by_cases ht : TakenP n x
  · simp only [ht, if_true]
    have e1 : wr_i64 x = x := wr64 (by omega) (by omega)
    rw [e1, wr64 (by omega) (by omega)]
  · have hi := hl ht
    have hP := (irb_pre ho hr hi).1
    have hb := first_le hP
    simp only [ht, if_false, nth_getI hi, addr_Last_spec hP, Option.bind_some]
    have e1 : wr_i64 (lastA (getI n.irbs led).net) = lastA (getI n.irbs led).net := wr64 (by omega) (by omega)
    rw [e1, wr64 (by omega) (by omega)]

theorem choose_Address_spec (ho : n.Ok) (hs : SmN n) {irb to : Int} :
    ∃ r, choose_Address n irb to = some r ∧ ((r = (0, false) ∧ (RightP n → inL n.irbs irb → inL n.irbs to → ∀ x, 0 ≤ x → x < 4294967296 → ¬ GoodP n irb to x)) ∨
      ∃ a, r = (a, true) ∧ RightP n ∧ inL n.irbs irb ∧ inL n.irbs to ∧ 0 ≤ a ∧ a < 4294967296 ∧ GoodP n irb to a ∧ ∀ x, 0 ≤ x → x < a → ¬ GoodP n irb to x) := by
  by_cases hi : inL n.irbs irb
  case neg =>
    have : irb < 0 ∨ (n.irbs.length : Int) ≤ irb := by unfold inL at hi; omega
    refine ⟨(0, false), ?_, .inl ⟨rfl, fun _ h => absurd h hi⟩⟩
    simp only [choose_Address, bind_ite, Option.bind_some, dif1, dif2, dif3, dif4, dif5, dif6, dif7, dnot, ibeq, ibne, decide_eq_true_eq, if_not2, ge_iff_le, gt_iff_lt, fst_ret, Bool.false_eq_true, decide_false, mrg1, mrg2, mrg3, mrg4, mrg5, mrg6, mrg7]
    rw [if_pos (by omega)]
  by_cases ht : inL n.irbs to
  case neg =>
    have : to < 0 ∨ (n.irbs.length : Int) ≤ to := by unfold inL at ht; omega
    refine ⟨(0, false), ?_, .inl ⟨rfl, fun _ _ h => absurd h ht⟩⟩
    simp only [choose_Address, bind_ite, Option.bind_some, dif1, dif2, dif3, dif4, dif5, dif6, dif7, dnot, ibeq, ibne, decide_eq_true_eq, if_not2, ge_iff_le, gt_iff_lt, fst_ret, Bool.false_eq_true, decide_false, mrg1, mrg2, mrg3, mrg4, mrg5, mrg6, mrg7]
    rw [if_pos (by omega)]
  have a0 : ¬ irb < 0 := by have := hi.1; omega
  have a1 : ¬ (n.irbs.length : Int) ≤ irb := by have := hi.2; omega
  have b0 : ¬ to < 0 := by have := ht.1; omega
  have b1 : ¬ (n.irbs.length : Int) ≤ to := by have := ht.2; omega
  by_cases hr : RightP n
  case neg =>
    refine ⟨(0, false), ?_, .inl ⟨rfl, fun h => absurd h hr⟩⟩
    simp only [choose_Address, a0, a1, b0, b1, names_Right_spec hs, hr, bind_ite, Option.bind_some, dif1, dif2, dif3, dif4, dif5, dif6, dif7, dnot, ibeq, ibne, decide_eq_true_eq, if_not2, ge_iff_le, gt_iff_lt, fst_ret, Bool.false_eq_true, decide_false]; simp
  have hP := (irb_pre ho hr ht).1
  have hb := first_le hP
  have good_in : ∀ x, GoodP n irb to x → firstA (getI n.irbs to).net ≤ x ∧ x ≤ lastA (getI n.irbs to).net := fun x h => h.1.cand.1
  simp only [choose_Address, a0, a1, b0, b1, names_Right_spec hs, hr, nth_getI ht, addr_First_spec hP, addr_Last_spec hP, bind_ite, Option.bind_some, dif1, dif2, dif3, dif4, dif5, dif6, dif7, dnot, ibeq, ibne, decide_eq_true_eq, if_not2, ge_iff_le, gt_iff_lt, fst_ret, Bool.false_eq_true, decide_false, decide_true, Bool.not_true, if_false]
  rw [wr64 (n := firstA (getI n.irbs to).net) (by omega) (by omega)]
  obtain ⟨r, e, hq⟩ := loopM_rule (f := choose_Address_L1 n irb to (lastA (getI n.irbs to).net))
    (fun at_ => firstA (getI n.irbs to).net ≤ at_ ∧ at_ ≤ 4294967296 ∧ ∀ x, 0 ≤ x → x < at_ → ¬ GoodP n irb to x)
    (fun r => match r with | .inl a => 0 ≤ a ∧ a < 4294967296 ∧ GoodP n irb to a ∧ (∀ x, 0 ≤ x → x < a → ¬ GoodP n irb to x) | .inr () => ∀ x, 0 ≤ x → x < 4294967296 → ¬ GoodP n irb to x)
    (fun at_ => (4294967297 - at_).toNat) (s := firstA (getI n.irbs to).net) (fun at_ hI => by
      obtain ⟨hf, h1, hnone⟩ := hI
      have h0 : 0 ≤ at_ := by omega
      by_cases hend : at_ ≤ lastA (getI n.irbs to).net
      case neg =>
        refine ⟨.inr (.inr ()), ?_, fun x hx0 hx1 hg => ?_⟩
        · simp only [choose_Address_L1]
          rw [wr64 (by omega) (by omega)]
          simp [hend]
        · have := good_in x hg
          exact hnone x hx0 (by omega) hg
      have hu : wr_u32 at_ = at_ := wr32 h0 (by omega)
      have hwl : wr_i64 (lastA (getI n.irbs to).net) = lastA (getI n.irbs to).net := wr64 (by omega) (by omega)
      obtain ⟨r, hL, hcase⟩ := route_Lookup_spec ho hs (irb := irb) (x := at_) h0 (by omega)
      simp only [choose_Address_L1, hwl, hend, hu, hL, taken1_spec hs, decide_true, if_true, Option.bind_some]
      -- the step past an address
      have step : ∀ nx, at_ < nx → nx ≤ 4294967296 → (∀ x, at_ ≤ x → x < nx → ¬ GoodP n irb to x) →
          (firstA (getI n.irbs to).net ≤ nx ∧ nx ≤ 4294967296 ∧ ∀ x, 0 ≤ x → x < nx → ¬ GoodP n irb to x) ∧ (4294967297 - nx).toNat < (4294967297 - at_).toNat := by
        intro nx g1 g2 g3
        refine ⟨⟨by omega, g2, fun x hx0 hx1 => ?_⟩, by omega⟩
        by_cases hlt : x < at_
        · exact hnone x hx0 hlt
        · exact g3 x (by omega) hx1
      by_cases htk : TakenP n at_
      · -- somebody's address
        have hp := past_spec ho hs hr (x := at_) (led := r.1) h0 (by omega) (fun h => absurd htk h)
        rw [if_pos htk] at hp
        have hs2 := step (at_ + 1) (by omega) (by omega) (fun x g1 g2 hg => by
          have : x = at_ := by omega
          subst this; exact hg.2 htk)
        refine ⟨.inl (at_ + 1), ?_, hs2⟩
        simp only [hp, htk, decide_true, Bool.not_true, Bool.false_eq_true, if_false, Option.bind_some]
        (repeat' split) <;> rfl
      · rcases hcase with ⟨rfl, hno⟩ | ⟨m, rfl, _, _, hled⟩
        · -- nobody's, and led nowhere: the interface is not seen
          have hno := hno hr hi
          refine ⟨.inr (.inr ()), by simp [htk], fun x hx0 hx1 hg => ?_⟩
          rcases hno with ⟨j, hj, _, e⟩ | hno
          · exact htk ⟨_, getI_mem hj, e⟩
          · exact hno to ht ⟨⟨hf, hend⟩, hg.1.cand.2⟩
        · by_cases hmt : m = to
          · subst hmt
            refine ⟨.inr (.inl at_), by simp [htk], h0, by omega, ⟨hled, htk⟩, hnone⟩
          · have hPm := (irb_pre ho hr hled.im).1
            have hbm := first_le hPm
            have hp := past_spec ho hs hr (x := at_) (led := m) h0 (by omega) (fun _ => hled.im)
            rw [if_neg htk] at hp
            have hs2 := step (lastA (getI n.irbs m).net + 1) (by have := hled.cand.1.2; omega) (by omega) (fun x g1 g2 hg => by
              have hx : HasP (getI n.irbs m).net x := ⟨by have := hled.cand.1.1; omega, by omega⟩
              have hxm := hg.1.best m hled.im ⟨hx, hled.cand.2⟩
              have hto : HasP (getI n.irbs to).net at_ := ⟨hf, hend⟩
              have hat := hled.best to ht ⟨hto, hg.1.cand.2⟩
              rcases (by omega : m < to ∨ to < m) with hlt | hlt
              · have := hxm.2 hlt; omega
              · have := hat.2 hlt; omega)
            refine ⟨.inl (lastA (getI n.irbs m).net + 1), ?_, hs2⟩
            simp [htk, hmt, hp]) ⟨by omega, by omega, fun x hx0 hx1 hg => by have := good_in x hg; omega⟩ (by omega)
  rw [e]
  cases r with
  | inl a => exact ⟨_, rfl, .inr ⟨a, rfl, trivial, hi, ht, hq.1, hq.2.1, hq.2.2.1, hq.2.2.2⟩⟩
  | inr u => exact ⟨_, rfl, .inl ⟨rfl, fun _ _ _ => hq⟩⟩
end
end Go.Eng
