/- Plain laws of chapter 21 (comps): what hangs together by all. -/
import Derived.Test.YtlinloabahbioaaEngP21b
set_option linter.unusedVariables false
set_option linter.unusedSectionVars false
set_option linter.unusedSimpArgs false
namespace Go.Eng
open Go Classical
attribute [local congr] ite_cg
section
variable {n : Api_Net}
def EPj (n : Api_Net) (d m : Int) (x y : Int) : Prop := x = d ∧ ∃ k, inL (getI n.domains d).peers k ∧ k < m ∧ y = getI (getI n.domains d).peers k
def EPk (n : Api_Net) (m : Int) (x y : Int) : Prop := x < m ∧ EP n x y
theorem all_in (hr : RightP n) {E : Int → Int → Prop} {N : Nat} (hN : N ≤ 1000) (hD : n.domains.length ≤ N) {d : Int} (hd : inL n.domains d) (hp : (getI n.domains d).peers.length ≤ 1000) {f : List Int} (hf : FOK E N f) :
    ∃ f', loopM (fun s : (List Int) × Int => match s with | (l16, v17) => comps_All_L2 n d (getI n.domains d) l16 v17) (f, 0) = some f' ∧ FOK (fun x y => E x y ∨ EPj n d (getI n.domains d).peers.length x y) N f' := by
  obtain ⟨r, e, h1⟩ := loopM_rule (f := fun s : (List Int) × Int => match s with | (l16, v17) => comps_All_L2 n d (getI n.domains d) l16 v17)
    (fun s => 0 ≤ s.2 ∧ s.2 ≤ (getI n.domains d).peers.length ∧ FOK (fun x y => E x y ∨ EPj n d s.2 x y) N s.1) (fun r => FOK (fun x y => E x y ∨ EPj n d (getI n.domains d).peers.length x y) N r) (fun s => ((getI n.domains d).peers.length - s.2).toNat) (s := (f, 0)) (fun s hI => by
      obtain ⟨l, j⟩ := s
      obtain ⟨j0, j1, hF⟩ := hI
      simp only at j0 j1 hF ⊢
      by_cases c : j < ((getI n.domains d).peers.length : Int)
      · have hj : inL (getI n.domains d).peers j := ⟨j0, c⟩
        have hw := wr64 (n := j + 1) (by omega) (by omega)
        have hy := (hr.peers d hd j hj).1.1
        have d1 := hd.1; have d2 := hd.2; have y1 := hy.1; have y2 := hy.2
        obtain ⟨f', e1, hF'⟩ := fok_join hF hN d1 (by omega) y1 (by omega) (n2 := Int.toNat (n.domains.length : Int))
        refine ⟨.inl (f', j + 1), ?_, ⟨by simp only; omega, by simp only; omega, hF'.congr fun x y => ?_⟩, by simp only; omega⟩
        · simp only [comps_All_L2, c, nth_getI hj, e1, hw, decide_true, if_true, Option.bind_some]
        · constructor
          · rintro ((g | ⟨e, k, k1, k2, k3⟩) | ⟨rfl, rfl⟩)
            · exact .inl g
            · exact .inr ⟨e, k, k1, by simp only; omega, k3⟩
            · exact .inr ⟨rfl, j, hj, by simp only; omega, rfl⟩
          · rintro (g | ⟨e, k, k1, k2, k3⟩)
            · exact .inl (.inl g)
            · by_cases e2 : k = j
              · subst e2; exact .inr ⟨e, k3⟩
              · exact .inl (.inr ⟨e, k, k1, by simp only at k2; omega, k3⟩)
      · have : j = (getI n.domains d).peers.length := by omega
        subst this
        exact ⟨.inr l, by simp only [comps_All_L2, c, decide_false, Bool.false_eq_true, if_false], hF⟩) ⟨by simp, by simp, hf.congr fun x y => ⟨.inl, fun g => g.elim id (fun ⟨_, k, k1, k2, _⟩ => by have := k1.1; simp only at k2; omega)⟩⟩ (by simp only; omega)
  exact ⟨r, e, h1⟩
theorem comps_All_spec (hg : BndN n 200 100) (hr : RightP n) : ∃ T, LeastT (EA n) T n.domains.length ∧ comps_All n = some (mkL n.domains.length T) := by
  have hs := hg.sm
  have hd := hg.domains
  obtain ⟨f, e, hF⟩ := linked_spec hg hr (N := n.domains.length) (by omega) (Nat.le_refl _) (n3 := Int.toNat (n.domains.length : Int)) fok_alone
  obtain ⟨r, e3, hF3⟩ := loopM_rule (f := fun s : (List Int) × Int => match s with | (l11, v12) => comps_All_L1 n l11 v12)
    (fun s => 0 ≤ s.2 ∧ s.2 ≤ n.domains.length ∧ FOK (fun x y => (False ∨ EL n x y) ∨ EPk n s.2 x y) n.domains.length s.1) (fun r => FOK (EA n) n.domains.length r) (fun s => (n.domains.length - s.2).toNat) (s := (f, 0)) (fun s hI => by
      obtain ⟨l, j⟩ := s
      obtain ⟨j0, j1, hF⟩ := hI
      simp only at j0 j1 hF ⊢
      by_cases c : j < (n.domains.length : Int)
      · have hj : inL n.domains j := ⟨j0, c⟩
        have hw := wr64 (n := j + 1) (by omega) (by omega)
        have hpl := hg.peers _ (getI_mem hj)
        obtain ⟨f', e1, hF'⟩ := all_in hr (by omega) (Nat.le_refl _) hj (by omega) hF
        refine ⟨.inl (f', j + 1), ?_, ⟨by simp only; omega, by simp only; omega, hF'.congr fun x y => ?_⟩, by simp only; omega⟩
        · simp only [comps_All_L1, c, nth_getI hj, e1, hw, decide_true, if_true, Option.bind_some]
        · constructor
          · rintro ((g | ⟨k1, k2⟩) | ⟨rfl, k, k1, k2, rfl⟩)
            · exact .inl g
            · exact .inr ⟨by simp only; omega, k2⟩
            · exact .inr ⟨by simp only; omega, hj, getI_mem k1⟩
          · rintro (g | ⟨k1, k2, k3⟩)
            · exact .inl (.inl g)
            · by_cases e2 : x = j
              · subst e2
                obtain ⟨k, q1, rfl⟩ := mem_getI k3
                exact .inr ⟨rfl, k, q1, q1.2, rfl⟩
              · exact .inl (.inr ⟨by simp only at k1; omega, k2, k3⟩)
      · have : j = n.domains.length := by omega
        subst this
        refine ⟨.inr l, by simp only [comps_All_L1, c, decide_false, Bool.false_eq_true, if_false], hF.congr fun x y => ?_⟩
        rw [EA, ← EL_iff_ER hr]
        constructor
        · rintro ((g | g) | ⟨_, g⟩)
          · exact g.elim
          · exact .inl g
          · exact .inr g
        · rintro (g | g)
          · exact .inl (.inr g)
          · exact .inr ⟨g.1.2, g⟩) ⟨by simp, by simp, hF.congr fun x y => ⟨.inl, fun g => g.elim id (fun ⟨k1, k2⟩ => by have := k2.1.1; simp only at k1; omega)⟩⟩ (by simp only; omega)
  obtain ⟨T, hl, ht⟩ := hF3.lab
  obtain ⟨f', e2⟩ := tops_spec hl (by have := hF3.len; omega) (m := n.domains.length) (by have := hF3.len; omega) (n2 := Int.toNat (n.domains.length : Int))
  refine ⟨T, ht, ?_⟩
  simp only [Int.toNat_natCast] at e e2
  simp only [comps_All, names_Right_spec hs, hr, alone_spec (N := n.domains.length) (by omega), Option.bind_some, decide_true, Bool.not_true, Bool.false_eq_true, if_false, Int.toNat_natCast, e, e3, e2]

end
end Go.Eng
