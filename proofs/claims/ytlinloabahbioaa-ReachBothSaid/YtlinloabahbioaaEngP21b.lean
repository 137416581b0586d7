/- Plain laws of chapter 21 (comps): trees, and what they tell. -/
import Derived.Test.YtlinloabahbioaaEngP21o
import Derived.Test.YtlinloabahbioaaEngF4
set_option linter.unusedVariables false
set_option linter.unusedSectionVars false
set_option linter.unusedSimpArgs false
namespace Go.Eng
open Go Classical
attribute [local congr] ite_cg

theorem lin_true {α : Type} {l : List α} {i : Int} (h : inL l i) : lin l i = true := by rw [lin_dec]; exact decide_eq_true h

theorem alone_spec {N : Nat} (hN : N ≤ 1000) : comps_alone (N : Int) = some (mkL N fun x => x) := by
  have hm : mkok 8 (N : Int) (N : Int) = true := by unfold mkok; exact decide_eq_true ⟨by omega, by omega, by omega, by omega⟩
  obtain ⟨r, e, h1, h2⟩ := loopM_rule (f := fun s : (List Int) × Int => match s with | (l3, v4) => comps_alone_L1 (N : Int) l3 v4)
    (fun s => s.1.length = N ∧ 0 ≤ s.2 ∧ s.2 ≤ N ∧ ∀ j, inL s.1 j → j < s.2 → getI s.1 j = j) (fun r => r.length = N ∧ ∀ j, inL r j → getI r j = j) (fun s => (N - s.2).toNat) (s := (List.replicate N (0 : Int), 0)) (fun s hI => by
      obtain ⟨l, i⟩ := s
      obtain ⟨hl, i0, i1, hj⟩ := hI
      simp only at hl i0 i1 hj ⊢
      by_cases hlt : i < (N : Int)
      · have ii : inL l i := ⟨i0, by omega⟩
        have hw := wr64 (n := i + 1) (by omega) (by omega)
        refine ⟨.inl (l.set i.toNat i, i + 1), ?_, ⟨by simpa using hl, by simp only; omega, by simp only; omega, fun j hj1 hj2 => ?_⟩, by simp only; omega⟩
        · have : i < ((N : Int).toNat : Int) := by omega
          simp only [comps_alone_L1, this, lin_true ii, getI_get? ii, hw, decide_true, if_true, Option.bind_some]
        · simp only at hj1 hj2 ⊢
          rw [inL_set] at hj1
          rw [getI_set ii hj1]
          split
          · rename_i e; exact e.symm
          · exact hj j hj1 (by omega)
      · have : ¬ i < ((N : Int).toNat : Int) := by omega
        exact ⟨.inr l, by simp only [comps_alone_L1, this, decide_false, Bool.false_eq_true, if_false], hl, fun j hj1 => hj j hj1 (by have := hj1.2; omega)⟩) ⟨by simp, by simp, by simp only; omega, fun j a b => by have := a.1; simp only at b; omega⟩ (by simp only; omega)
  simp only [comps_alone, hm, if_true, Int.toNat_natCast, e, Option.bind_some]
  congr 1
  exact eq_mkL h1 h2

section
variable {f : List Int} {T : Int → Int}
theorem top_spec (h : Lab f T) (hf : f.length ≤ 1000) {i : Int} (hi : inL f i) {n2 : Nat} : ∃ f', comps_forest_top_own f n2 i = some (f', T i) ∧ Lab f' T ∧ f'.length = f.length := by
  obtain ⟨r, e, h1, h2, h3⟩ := loopM_rule (f := fun s : (List Int) × Int => match s with | (l4, v5) => comps_forest_top_own_L1 n2 l4 v5)
    (fun s => Lab s.1 T ∧ s.1.length = f.length ∧ inL s.1 s.2 ∧ T s.2 = T i) (fun r => Lab r.1 T ∧ r.1.length = f.length ∧ r.2 = T i) (fun s => s.2.toNat) (s := (f, i)) (fun s hI => by
      obtain ⟨l, v⟩ := s
      obtain ⟨hl, hn, hv, ht⟩ := hI
      simp only at hl hn hv ht ⊢
      by_cases c : getI l v = v
      · refine ⟨.inr (l, v), ?_, hl, hn, ?_⟩
        · simp only [comps_forest_top_own_L1, lin_true hv, getI_get? hv, c, if_true, Option.bind_some, beq_self_eq_true]
        · simp only; rw [← ht]; exact (hl.self v hv c).symm
      · have hx := hl.fin hv
        have hle := hl.le v hv
        have hle2 := hl.le _ hx
        have hlo := hl.lo _ hx
        have hset : inL (l.set v.toNat (getI l (getI l v))) v := inL_set.2 hv
        have hg : getI (l.set v.toNat (getI l (getI l v))) v = getI l (getI l v) := by rw [getI_set hv hv, if_pos rfl]
        refine ⟨.inl (l.set v.toNat (getI l (getI l v)), getI l (getI l v)), ?_, ⟨hl.halve hv c, by simpa using hn, inL_set.2 (hl.fin hx), ?_⟩, by simp only; omega⟩
        · have g2 := getI_get? hset
          rw [hg] at g2
          have cb : (getI l v == v) = false := by simpa using c
          simp only [comps_forest_top_own_L1, lin_true hv, getI_get? hv, lin_true hx, getI_get? hx, lin_true hset, g2, cb, Bool.false_eq_true, if_false, if_true, Option.bind_some]
        · simp only; rw [hl.step _ hx, hl.step v hv]; exact ht) ⟨h, rfl, hi, rfl⟩ (by have := hi.2; simp only; omega)
  obtain ⟨f', t⟩ := r
  simp only at h1 h2 h3
  subst h3
  exact ⟨f', by simp only [comps_forest_top_own, e, Option.bind_some], h1, h2⟩
theorem join_spec (h : Lab f T) (hf : f.length ≤ 1000) {a b : Int} (ha : inL f a) (hb : inL f b) {n2 : Nat} : ∃ f', comps_forest_join_own f n2 a b = some (f', decide (T a ≠ T b)) ∧ Lab f' (joinT T a b) ∧ f'.length = f.length := by
  obtain ⟨f1, e1, h1, l1⟩ := top_spec h hf ha (n2 := n2)
  have hb1 : inL f1 b := by unfold inL at *; rw [l1]; exact hb
  have ha1 : inL f1 a := by unfold inL at *; rw [l1]; exact ha
  obtain ⟨f2, e2, h2, l2⟩ := top_spec h1 (by omega) hb1 (n2 := n2)
  have hb2 : inL f2 b := by unfold inL at *; rw [l2, l1]; exact hb
  have ha2 : inL f2 a := by unfold inL at *; rw [l2, l1]; exact ha
  have im : inL f2 (max (T a) (T b)) := by
    rcases (by omega : max (T a) (T b) = T a ∨ max (T a) (T b) = T b) with e | e <;> rw [e]
    · exact h2.tin ha2
    · exact h2.tin hb2
  have m1 : (if T b > T a then T b else T a) = max (T a) (T b) := by split <;> omega
  have m2 : (if T b < T a then T b else T a) = min (T a) (T b) := by split <;> omega
  refine ⟨_, ?_, h2.join ha2 hb2, by simp; omega⟩
  simp only [comps_forest_join_own, e1, e2, m1, m2, lin_true im, getI_get? im, if_true, Option.bind_some]
  rw [show (T a != T b) = decide (T a ≠ T b) from ibne]
theorem tops_spec (h : Lab f T) (hf : f.length ≤ 1000) {m : Nat} (hm : m ≤ f.length) {n2 : Nat} : ∃ f', comps_forest_tops_own f n2 (m : Int) = some (f', mkL m T) := by
  obtain ⟨r, e, h1⟩ := loopM_rule (f := fun s : (List Int) × (List Int) × Int => match s with | (l4, l5, v6) => comps_forest_tops_own_L1 n2 (m : Int) l4 l5 v6)
    (fun s => Lab s.1 T ∧ s.1.length = f.length ∧ ∃ k : Nat, s.2.2 = k ∧ k ≤ m ∧ s.2.1 = mkL k T) (fun r => r.2 = mkL m T) (fun s => (m - s.2.2).toNat) (s := (f, [], 0)) (fun s hI => by
      obtain ⟨l, o, v⟩ := s
      obtain ⟨hl, hn, k, hk, km, ho⟩ := hI
      simp only at hl hn hk km ho ⊢
      subst hk; subst ho
      by_cases c : (k : Int) < (m : Int)
      · have hv : inL l (k : Int) := ⟨by omega, by omega⟩
        obtain ⟨l', e1, h1, l1⟩ := top_spec hl (by omega) hv (n2 := n2)
        have hw := wr64 (n := (k : Int) + 1) (by omega) (by omega)
        have hr : roomy 8 (mkL k T ++ [T k]) = true := roomy_few (by rw [List.length_append, mkL_len]; simp; omega)
        refine ⟨.inl (l', mkL k T ++ [T k], (k : Int) + 1), ?_, ⟨h1, by simp only; omega, k + 1, by simp, by omega, by rw [mkL_succ]⟩, by simp only; omega⟩
        simp only [comps_forest_tops_own_L1, c, e1, hr, hw, decide_true, if_true, Option.bind_some]
      · have : k = m := by omega
        subst this
        exact ⟨.inr (l, mkL k T), by simp only [comps_forest_tops_own_L1, c, decide_false, Bool.false_eq_true, if_false], rfl⟩) ⟨h, rfl, 0, rfl, by omega, rfl⟩ (by simp only; omega)
  obtain ⟨a, b⟩ := r
  simp only at h1; subst h1
  exact ⟨a, by simp only [comps_forest_tops_own, e, Option.bind_some]⟩
end

section
variable {E : Int → Int → Prop} {N : Nat} {f : List Int}
theorem fok_join (h : FOK E N f) (hN : N ≤ 1000) {a b : Int} (a0 : 0 ≤ a) (a1 : a < (N : Int)) (b0 : 0 ≤ b) (b1 : b < (N : Int)) {n2 : Nat} :
    ∃ f', comps_forest_join_own f n2 a b = some (f', decide (¬ Conn E a b)) ∧ FOK (AddE E a b) N f' := by
  obtain ⟨T, hl, ht⟩ := h.lab
  have hlen := h.len
  obtain ⟨f', e, h1, h2⟩ := join_spec hl (by omega) (a := a) (b := b) ⟨a0, by omega⟩ ⟨b0, by omega⟩ (n2 := n2)
  have hc := ht.iff a0 a1 b0 b1
  refine ⟨f', ?_, by omega, ⟨_, h1, ht.join h.rng a0 a1 b0 b1⟩, fun x y g => ?_⟩
  · rw [e]; congr 2; exact decide_eq_decide.2 (not_congr hc)
  · rcases g with g | ⟨rfl, rfl⟩
    · exact h.rng x y g
    · exact ⟨⟨a0, a1⟩, b0, b1⟩
end

section
variable {n : Api_Net}
/-- Steps of one port's VLANs, up to a place; steps of the first ports. -/
def EV (n : Api_Net) (p : Int) (vl : List Int) (j : Int) (x y : Int) : Prop := ∃ k, inL vl k ∧ k < j ∧ OkX n p (getI vl k) ∧ x = domIx n.domains (getI n.ports p).dev (getI vl k) ∧ y = toDom n p (getI vl k)
def ELk (n : Api_Net) (m : Int) (x y : Int) : Prop := ∃ p v, inL n.ports p ∧ p < m ∧ (v ∈ (getI n.ports p).tagged ∨ v = (getI n.ports p).native) ∧ OkX n p v ∧ x = domIx n.domains (getI n.ports p).dev v ∧ y = toDom n p v
theorem linked_in (hs : SmN n) (hr : RightP n) {E : Int → Int → Prop} {N : Nat} (hN : N ≤ 1000) (hD : n.domains.length ≤ N) {p : Int} (hp : inL n.ports p) {n3 : Nat} {f : List Int} (hf : FOK E N f) {l11 : List Int} (hl : l11.length ≤ 1000) :
    ∃ f', loopM (fun s : (List Int) × Int => match s with | (l13, v14) => comps_linked_own_L2 n n3 p (getI n.ports p) l11 l13 v14) (f, 0) = some f' ∧
      FOK (fun x y => E x y ∨ EV n p (l11 ++ [(getI n.ports p).native]) ((l11 ++ [(getI n.ports p).native]).length) x y) N f' := by
  have hll : (l11 ++ [(getI n.ports p).native]).length ≤ 1001 := by simp; omega
  generalize hvl : l11 ++ [(getI n.ports p).native] = vl at *
  obtain ⟨r, e, h1⟩ := loopM_rule (f := fun s : (List Int) × Int => match s with | (l13, v14) => comps_linked_own_L2 n n3 p (getI n.ports p) l11 l13 v14)
    (fun s => 0 ≤ s.2 ∧ s.2 ≤ vl.length ∧ FOK (fun x y => E x y ∨ EV n p vl s.2 x y) N s.1) (fun r => FOK (fun x y => E x y ∨ EV n p vl vl.length x y) N r) (fun s => (vl.length - s.2).toNat) (s := (f, 0)) (fun s hI => by
      obtain ⟨l, j⟩ := s
      obtain ⟨j0, j1, hF⟩ := hI
      simp only at j0 j1 hF ⊢
      by_cases c : j < (vl.length : Int)
      · have hj : inL vl j := ⟨j0, c⟩
        have hw := wr64 (n := j + 1) (by omega) (by omega)
        by_cases ho : OkX n p (getI vl j)
        · obtain ⟨d1, d2, d3⟩ := dom_of_mem hr hp ho.2.1
          have d4 := toDom_in hr ho
          have hDI : names_Domain n (getI n.ports p).dev (getI vl j) = some (domIx n.domains (getI n.ports p).dev (getI vl j)) := by rw [names_Domain_spec hs, if_pos hr]
          obtain ⟨f', e1, hF'⟩ := fok_join hF hN d1.1 (by have := d1.2; omega) d4.1 (by have := d4.2; omega) (n2 := n3)
          refine ⟨.inl (f', j + 1), ?_, ⟨by simp only; omega, by simp only; omega, hF'.congr fun x y => ?_⟩, by simp only; omega⟩
          · simp only [comps_linked_own_L2, hvl, c, lin_true hj, getI_get? hj, links_Domain_ok hs hr, ho, hDI, e1, hw, decide_true, if_true, Option.bind_some]
          · constructor
            · rintro ((g | ⟨k, k1, k2, k3⟩) | ⟨rfl, rfl⟩)
              · exact .inl g
              · exact .inr ⟨k, k1, by simp only; omega, k3⟩
              · exact .inr ⟨j, hj, by simp only; omega, ho, rfl, rfl⟩
            · rintro (g | ⟨k, k1, k2, k3, k4, k5⟩)
              · exact .inl (.inl g)
              · by_cases e : k = j
                · subst e; exact .inr ⟨k4, k5⟩
                · exact .inl (.inr ⟨k, k1, by simp only at k2; omega, k3, k4, k5⟩)
        · refine ⟨.inl (l, j + 1), ?_, ⟨by simp only; omega, by simp only; omega, hF.congr fun x y => ?_⟩, by simp only; omega⟩
          · simp only [comps_linked_own_L2, hvl, c, lin_true hj, getI_get? hj, links_Domain_ok hs hr, ho, hw, decide_true, if_true, if_false, Option.bind_some, Bool.false_eq_true]
          · constructor
            · rintro (g | ⟨k, k1, k2, k3⟩)
              · exact .inl g
              · exact .inr ⟨k, k1, by simp only; omega, k3⟩
            · rintro (g | ⟨k, k1, k2, k3, k4, k5⟩)
              · exact .inl g
              · by_cases e : k = j
                · subst e; exact absurd k3 ho
                · exact .inr ⟨k, k1, by simp only at k2; omega, k3, k4, k5⟩
      · have : j = vl.length := by omega
        subst this
        exact ⟨.inr l, by simp only [comps_linked_own_L2, hvl, c, decide_false, Bool.false_eq_true, if_false], hF⟩) ⟨by simp, by simp, hf.congr fun x y => ⟨.inl, fun g => g.elim id (fun ⟨k, k1, k2, _⟩ => by have := k1.1; simp only at k2; omega)⟩⟩ (by simp only; omega)
  exact ⟨r, e, h1⟩
theorem linked_spec (hg : BndN n 200 100) (hr : RightP n) {E : Int → Int → Prop} {N : Nat} (hN : N ≤ 1000) (hD : n.domains.length ≤ N) {n3 : Nat} {f : List Int} (hf : FOK E N f) :
    ∃ f', comps_linked_own n f n3 = some f' ∧ FOK (fun x y => E x y ∨ EL n x y) N f' := by
  have hs := hg.sm
  have hpl := hg.ports
  obtain ⟨r, e, h1⟩ := loopM_rule (f := fun s : (List Int) × Int => match s with | (l4, v5) => comps_linked_own_L1 n n3 l4 v5)
    (fun s => 0 ≤ s.2 ∧ s.2 ≤ n.ports.length ∧ FOK (fun x y => E x y ∨ ELk n s.2 x y) N s.1) (fun r => FOK (fun x y => E x y ∨ EL n x y) N r) (fun s => (n.ports.length - s.2).toNat) (s := (f, 0)) (fun s hI => by
      obtain ⟨l, j⟩ := s
      obtain ⟨j0, j1, hF⟩ := hI
      simp only at j0 j1 hF ⊢
      by_cases c : j < (n.ports.length : Int)
      · have hj : inL n.ports j := ⟨j0, c⟩
        have hw := wr64 (n := j + 1) (by omega) (by omega)
        have htl := hg.tagged _ (getI_mem hj)
        have r1 : roomy 8 (getI n.ports j).tagged = true := roomy_few (by omega)
        have r2 : roomy 8 ((getI n.ports j).tagged ++ [(getI n.ports j).native]) = true := roomy_few (by simp; omega)
        obtain ⟨f', e1, hF'⟩ := linked_in hs hr hN hD hj (n3 := n3) hF (l11 := (getI n.ports j).tagged) (by omega)
        refine ⟨.inl (f', j + 1), ?_, ⟨by simp only; omega, by simp only; omega, hF'.congr fun x y => ?_⟩, by simp only; omega⟩
        · simp only [comps_linked_own_L1, c, nth_getI hj, slices_Clone_int, r1, r2, e1, hw, decide_true, if_true, Option.bind_some]
        · have mem : ∀ v, (v ∈ (getI n.ports j).tagged ∨ v = (getI n.ports j).native) ↔ v ∈ (getI n.ports j).tagged ++ [(getI n.ports j).native] := fun v => by simp
          constructor
          · rintro ((g | ⟨p, v, k1, k2, k3⟩) | ⟨k, k1, k2, k3, k4, k5⟩)
            · exact .inl g
            · exact .inr ⟨p, v, k1, by simp only; omega, k3⟩
            · exact .inr ⟨j, _, hj, by simp only; omega, (mem _).2 (getI_mem k1), k3, k4, k5⟩
          · rintro (g | ⟨p, v, k1, k2, k3, k4⟩)
            · exact .inl (.inl g)
            · by_cases e : p = j
              · subst e
                obtain ⟨k, q1, rfl⟩ := mem_getI ((mem v).1 k3)
                exact .inr ⟨k, q1, q1.2, k4⟩
              · exact .inl (.inr ⟨p, v, k1, by simp only at k2; omega, k3, k4⟩)
      · have : j = n.ports.length := by omega
        subst this
        refine ⟨.inr l, by simp only [comps_linked_own_L1, c, decide_false, Bool.false_eq_true, if_false], hF.congr fun x y => ?_⟩
        constructor
        · rintro (g | ⟨p, v, k1, k2, k3⟩)
          · exact .inl g
          · exact .inr ⟨p, v, k1, k3⟩
        · rintro (g | ⟨p, v, k1, k3⟩)
          · exact .inl g
          · exact .inr ⟨p, v, k1, k1.2, k3⟩) ⟨by simp, by simp, hf.congr fun x y => ⟨.inl, fun g => g.elim id (fun ⟨p, v, k1, k2, _⟩ => by have := k1.1; simp only at k2; omega)⟩⟩ (by simp only; omega)
  exact ⟨r, by simp only [comps_linked_own, e, Option.bind_some], h1⟩

end
end Go.Eng
