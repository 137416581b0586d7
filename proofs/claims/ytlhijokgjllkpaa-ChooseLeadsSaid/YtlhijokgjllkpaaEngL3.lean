/- The plain law of ChooseLeads. -/
import Derived.Test.YtlhijokgjllkpaaEngP36
set_option linter.unusedVariables false
set_option linter.unusedSectionVars false
set_option linter.unusedSimpArgs false
namespace Go.Eng
open Go Classical
attribute [local congr] ite_cg
variable {n : Api_Net}

theorem works36 : palinglaw36_works = some true := by kernel_rfl

theorem LedP.uniq {irb x a b : Int} (h1 : LedP n irb x a) (h2 : LedP n irb x b) : a = b := by
  have u := h1.best b h2.im h2.cand
  have v := h2.best a h1.im h1.cand
  rcases (by omega : a < b ∨ a = b ∨ b < a) with h | h | h
  · have := v.2 h; omega
  · exact h
  · have := u.2 h; omega

theorem CL1_spec (hs : SmN n) {irb to o : Int} {r1 r2 : Int × Bool} :
    loopM (fun s : Bool × Bool × Int => match s with | (v17, v18, v19) => palinglaw36_ChooseLeads_L1 n irb to o r1 r2 v17 v18 v19) (false, false, 0) = some (decide (TakenP n o), decide (TakenP n r1.1)) := by
  have := loop_fold (f := fun s : Bool × Bool × Int => match s with | (v17, v18, v19) => palinglaw36_ChooseLeads_L1 n irb to o r1 r2 v17 v18 v19) n.irbs (fun (s : Bool × Bool) i => (s.1, s.2, i)) (fun i x s => (s.1 || decide (x.net.addr = o), s.2 || decide (x.net.addr = r1.1))) (false, false) (out := fun s => s)
    (by have := hs.irbs; unfold Few at this; omega) (fun _ _ => True) trivial (fun i x s hx hi _ => by
      have hl := hs.irbs
      have hw : wr_i64 ((i : Int) + 1) = i + 1 := wr64 (by omega) (by omega)
      refine ⟨?_, trivial⟩
      simp only [palinglaw36_ChooseLeads_L1, nth_nat, hx, hw, show decide ((i : Int) < n.irbs.length) = true from decide_eq_true (by omega), if_true, Option.bind_some, ibeq]
      cases s.1 <;> cases s.2 <;> simp) (fun s _ => by simp [palinglaw36_ChooseLeads_L1])
  simp only at this
  rw [this]
  congr 1
  have key : ∀ (l : List Api_Irb) (k : Nat) (u v : Bool), (l.zipIdx k).foldl (fun s q => (s.1 || decide (q.1.net.addr = o), s.2 || decide (q.1.net.addr = r1.1))) (u, v) = (u || decide (∃ y ∈ l, y.net.addr = o), v || decide (∃ y ∈ l, y.net.addr = r1.1)) := by
    intro l
    induction l with
    | nil => intro k u v; simp
    | cons y l ih =>
      intro k u v
      rw [List.zipIdx_cons, List.foldl_cons, ih]
      refine Prod.ext ?_ ?_ <;> rw [Bool.eq_iff_iff] <;> simp [or_assoc]
  rw [key]
  refine Prod.ext ?_ ?_ <;> simp only [Bool.false_or] <;> exact decide_eq_decide.2 Iff.rfl

theorem chooseLeads (n : Api_Net) (irb to o : Int) (ho : n.Ok) (_ : okI .i64 irb) (_ : okI .i64 to) (hx : okI .u32 o) : palinglaw36_ChooseLeads n irb to o = some true := by
  simp only [palinglaw36_ChooseLeads, works36, Great_spec, bind_ite, Option.bind_some, dif1, dif2, dif3, dif4, dif5, dif6, dif7, dnot, ibeq, ibne, decide_eq_true_eq, if_not2, ge_iff_le, gt_iff_lt, fst_ret, Bool.false_eq_true, decide_false, Bool.not_true]
  by_cases hg : BndN n 200 100
  case neg => simp [hg]
  have hs := hg.sm
  simp [okI, IntKind.min, IntKind.max, IntKind.signed, IntKind.bits] at hx
  by_cases t0 : to < 0
  · simp [hg, t0]
  by_cases t1 : (n.irbs.length : Int) ≤ to
  · simp [hg, t0, t1]
  have ht : inL n.irbs to := ⟨by omega, by omega⟩
  obtain ⟨r, hA, hc⟩ := choose_Address_spec ho hs (irb := irb) (to := to)
  obtain ⟨q, hL, hq⟩ := route_Lookup_spec ho hs (irb := irb) (x := o) (by omega) (by omega)
  simp only [hg, t0, t1, not_true_eq_false, if_false, hA, hL, CL1_spec hs, Option.bind_some, if_true]
  -- led there, and nobody's: a good one
  have hgood : q.2 = true → q.1 = to → ¬ TakenP n o → GoodP n irb to o ∧ RightP n ∧ inL n.irbs irb := by
    intro h1 h2 h3
    rcases hq with ⟨rfl, _⟩ | ⟨m, rfl, hr, hi, hl⟩
    · cases h1
    · simp only at h2; subst h2; exact ⟨⟨hl, h3⟩, hr, hi⟩
  rcases hc with ⟨rfl, hno⟩ | ⟨a, rfl, hr, hi, _, a0, a1, hga, hleast⟩
  · simp only [Bool.not_false, if_true, ibeq, decide_true]
    by_cases h1 : q.2 = true
    · by_cases h2 : q.1 = to
      · by_cases h3 : TakenP n o
        · simp [h1, h2, h3]
        · obtain ⟨g1, g2, g3⟩ := hgood h1 h2 h3
          exact absurd g1 (hno g2 g3 ht o (by omega) (by omega))
      · simp [h1, h2]
    · simp [h1]
  · obtain ⟨p, hL2, hp⟩ := route_Lookup_spec ho hs (irb := irb) (x := a) a0 a1
    have hp2 : p = (to, true) := by
      rcases hp with ⟨rfl, h⟩ | ⟨m, rfl, _, _, hl⟩
      · exfalso
        rcases h hr hi with h | h
        · exact hga.1.own h
        · exact h to ht hga.1.cand
      · rw [hl.uniq hga.1]
    subst hp2
    have htk := hga.2
    simp only [Bool.not_true, Bool.false_eq_true, if_false, if_true, hL2, Option.bind_some, ibeq, decide_true, htk, decide_false, Bool.not_false]
    by_cases h0 : a ≤ o
    · simp [h0]
    · by_cases h1 : q.2 = true
      · by_cases h2 : q.1 = to
        · by_cases h3 : TakenP n o
          · simp [h0, h1, h2, h3]
          · obtain ⟨g1, _, _⟩ := hgood h1 h2 h3
            exact absurd g1 (hleast o (by omega) (by omega))
        · simp [h0, h1, h2]
      · simp [h0, h1]
end Go.Eng
