/- Plain laws of chapter 21 (comps): loops: CompsLoops. -/
import Derived.Test.YtakginbgngjhkaaEngP21c
set_option linter.unusedVariables false
set_option linter.unusedSectionVars false
set_option linter.unusedSimpArgs false
namespace Go.Eng
open Go Classical
attribute [local congr] ite_cg

/-- The least of a number and a list. -/
def leastL (i : Int) (l : List Int) : Int := l.foldl (fun m y => if y < m then y else m) i
theorem leastL_spec : ∀ (l : List Int) (i : Int), leastL i l ≤ i ∧ (∀ y ∈ l, leastL i l ≤ y) ∧ (leastL i l = i ∨ leastL i l ∈ l) := by
  intro l
  induction l with
  | nil => intro i; exact ⟨Int.le_refl _, ⟨fun y h => (by cases h), Or.inl rfl⟩⟩
  | cons x l ih =>
    intro i
    obtain ⟨h1, h2, h3⟩ := ih (if x < i then x else i)
    have e : leastL i (x :: l) = leastL (if x < i then x else i) l := rfl
    rw [e]
    have h4 : (if x < i then x else i) ≤ i ∧ (if x < i then x else i) ≤ x := by split <;> omega
    refine ⟨by omega, fun y hy => ?_, ?_⟩
    · rcases List.mem_cons.1 hy with rfl | hy
      · omega
      · exact h2 y hy
    · rcases h3 with h | h
      · rw [h]; split
        · exact .inr (by simp)
        · exact .inl rfl
      · exact .inr (by simp [h])
theorem leastL_uniq {l : List Int} {i m : Int} (h1 : m ≤ i) (h2 : ∀ y ∈ l, m ≤ y) (h3 : m = i ∨ m ∈ l) : leastL i l = m := by
  obtain ⟨a, b, c⟩ := leastL_spec l i
  have l1 : leastL i l ≤ m := by rcases h3 with rfl | h; exact a; exact b m h
  have l2 : m ≤ leastL i l := by
    rcases c with e | h
    · rw [e]; exact h1
    · exact h2 _ h
  omega
theorem Min_int_spec {l : List Int} (hl : Few l) (h0 : l ≠ []) : ∃ m, slices_Min_int l = some m ∧ m ∈ l ∧ ∀ y ∈ l, m ≤ y := by
  have hf : l.length ≤ 1000000 := hl
  cases l with
  | nil => exact absurd rfl h0
  | cons x r =>
    obtain ⟨q, e, h1, h2⟩ := loopM_rule (f := fun s : Int × Int => match s with | (v5, v6) => slices_Min_int_L1 (x :: r) v5 v6)
      (fun s => 1 ≤ s.2 ∧ s.2 ≤ (x :: r).length ∧ s.1 ∈ x :: r ∧ ∀ j, inL (x :: r) j → j < s.2 → s.1 ≤ getI (x :: r) j) (fun m => m ∈ x :: r ∧ ∀ y ∈ x :: r, m ≤ y) (fun s => ((x :: r).length - s.2).toNat) (s := (x, 1)) (fun s hI => by
        obtain ⟨m, i⟩ := s
        obtain ⟨i0, i1, hm, hj⟩ := hI
        simp only at i0 i1 hm hj ⊢
        by_cases c : i < ((x :: r).length : Int)
        · have hi : inL (x :: r) i := ⟨by omega, c⟩
          have hw := wr64 (n := i + 1) (by omega) (by omega)
          refine ⟨.inl (if getI (x :: r) i < m then getI (x :: r) i else m, i + 1), by simp only [slices_Min_int_L1, c, nth_getI hi, hw, decide_true, if_true, Option.bind_some], ⟨by simp only; omega, by simp only; omega, ?_, fun j h1 h2 => ?_⟩, by simp only; omega⟩
          · simp only; split
            · exact getI_mem hi
            · exact hm
          · simp only at h2 ⊢
            by_cases e : j = i
            · subst e; split <;> omega
            · have := hj j h1 (by omega)
              split <;> omega
        · have : i = (x :: r).length := by omega
          subst this
          refine ⟨.inr m, by simp only [slices_Min_int_L1, c, decide_false, Bool.false_eq_true, if_false], hm, fun y hy => ?_⟩
          obtain ⟨j, h1, rfl⟩ := mem_getI hy
          exact hj j h1 h1.2) ⟨by simp, by simp; omega, by simp, fun j h1 h2 => by
          have := h1.1; simp only at h2
          have : j = 0 := by omega
          subst this; simp [getI]⟩ (by simp only; omega)
    have hlen : ¬ (((x :: r).length : Int) < 1) := by simp; omega
    exact ⟨q, by simp only [slices_Min_int, hlen, decide_false, Bool.false_eq_true, if_false, nth_zero, List.getElem?_cons_zero, Option.bind_some, e], h1, h2⟩

section
variable {n : Api_Net}
/-- The least domain of a domain's mesh. -/
noncomputable def meshI (n : Api_Net) (i : Int) : Int := leastL i (getI n.domains i).peers
theorem meshI_in (hr : RightP n) {i : Int} (hi : inL n.domains i) : 0 ≤ meshI n i ∧ meshI n i ≤ i := by
  obtain ⟨a, b, c⟩ := leastL_spec (getI n.domains i).peers i
  refine ⟨?_, a⟩
  show 0 ≤ leastL i (getI n.domains i).peers
  rcases c with e | h
  · rw [e]; exact hi.1
  · exact (EP_in hr ⟨hi, h⟩).2.1
theorem mesh_min {i m : Int} (h1 : m ∈ (getI n.domains i).peers) (h2 : ∀ y ∈ (getI n.domains i).peers, m ≤ y) : (if m < i then m else i) = meshI n i := by
  symm
  refine leastL_uniq ?_ (fun y hy => ?_) ?_
  · split <;> omega
  · have := h2 y hy; split <;> omega
  · split
    · exact .inr h1
    · exact .inl rfl
theorem rmesh_spec (hg : BndN n 200 100) {i : Int} (hi : inL n.domains i) : palingref21_mesh n i = some (meshI n i) := by
  have hpl := hg.peers _ (getI_mem hi)
  have := loop_fold (f := fun s : Int × Int => match s with | (v3, v4) => palingref21_mesh_L1 n i v3 v4) (getI n.domains i).peers (fun s j => (s, j)) (fun _ y m => if y < m then y else m) i (out := id) (by omega) (fun _ _ => True) trivial (fun j y s hj hlt _ => by
    have hw := wr64 (n := (j : Int) + 1) (by omega) (by omega)
    have c : (j : Int) < ((getI n.domains i).peers.length : Int) := by omega
    refine ⟨?_, trivial⟩
    have hq : nth (getI n.domains i).peers (j : Int) = some y := by rw [nth_nat]; exact hj
    simp only [palingref21_mesh_L1, nth_getI hi, c, hq, hw, decide_true, if_true, Option.bind_some]
    by_cases d : y < s <;> simp [d]) (fun s _ => by simp [palingref21_mesh_L1, nth_getI hi])
  simp only [palingref21_mesh, this, id, Option.bind_some]
  exact congrArg some (zipIdx_foldl (fun y m => if y < m then y else m) _ 0 i)

/-- Steps from domains to their meshes, of those ahead of a place. -/
def MJ (n : Api_Net) (m x y : Int) : Prop := inL n.domains x ∧ x < m ∧ (getI n.domains x).peers ≠ [] ∧ y = n.domains.length + meshI n x
def EM (n : Api_Net) (m x y : Int) : Prop := ER n x y ∨ MJ n m x y
/-- A domain whose mesh closes a loop. -/
def LoopAt (n : Api_Net) (i : Int) : Prop := (getI n.domains i).peers ≠ [] ∧ Conn (EM n i) i (n.domains.length + meshI n i)
noncomputable def loopR (n : Api_Net) : Int × Bool := if 0 ≤ fstI (mkL n.domains.length fun x => x) (LoopAt n) then ((getI n.domains (fstI (mkL n.domains.length fun x => x) (LoopAt n))).row, true) else (0, false)
theorem MJ_in (hr : RightP n) {m x y : Int} (h : MJ n m x y) : (0 ≤ x ∧ x < ((2 * n.domains.length : Nat) : Int)) ∧ 0 ≤ y ∧ y < ((2 * n.domains.length : Nat) : Int) := by
  obtain ⟨h1, _, _, rfl⟩ := h
  have := h1.1; have := h1.2
  obtain ⟨a, b⟩ := meshI_in hr h1
  exact ⟨⟨by omega, by omega⟩, by omega, by omega⟩
theorem peers_len {i : Int} : (((getI n.domains i).peers.length : Int) == 0) = decide ((getI n.domains i).peers = []) := by
  cases (getI n.domains i).peers <;> simp; omega
theorem fst_ix {N : Nat} {P : Int → Prop} {i : Int} (i0 : 0 ≤ i) (i1 : i < (N : Int)) (h : P i) (h2 : ∀ j, 0 ≤ j → j < i → ¬ P j) : fstI (mkL N fun x => x) P = i := by
  have hi : inL (mkL N fun x => x) i := mkL_inL.2 ⟨i0, i1⟩
  rw [fstI_eq hi, mkL_get hi]
  exact ⟨h, fun j hj hlt => by rw [mkL_get hj]; exact h2 j hj.1 hlt⟩
theorem fst_ix_none {N : Nat} {P : Int → Prop} (h2 : ∀ j, 0 ≤ j → j < (N : Int) → ¬ P j) : ¬ 0 ≤ fstI (mkL N fun x => x) P := by
  have : fstI (mkL N fun x => x) P < 0 := fstI_none.2 fun i hi => by rw [mkL_get hi]; exact h2 i hi.1 (mkL_inL.1 hi).2
  omega
theorem comps_Loop_spec (hg : BndN n 200 100) (hr : RightP n) : comps_Loop n = some (loopR n) := by
  have hs := hg.sm
  have hd := hg.domains
  have hN : 2 * n.domains.length ≤ 1000 := by omega
  have w2 := wr64 (n := 2 * (n.domains.length : Int)) (by omega) (by omega)
  have w3 : wr_i64 (2 * (n.domains.length : Int)) = ((2 * n.domains.length : Nat) : Int) := by rw [w2]; omega
  obtain ⟨f, e, hF⟩ := linked_spec hg hr (N := 2 * n.domains.length) hN (by omega) (n3 := 2 * n.domains.length) fok_alone
  have hF : FOK (EM n 0) (2 * n.domains.length) f := hF.congr fun x y => by
    unfold EM
    rw [← EL_iff_ER hr]
    exact ⟨fun g => g.elim False.elim .inl, fun g => g.elim .inr (fun h => by have := h.1.1; have := h.2.1; omega)⟩
  obtain ⟨r, e2, h2⟩ := loopM_rule (f := fun s : (List Int) × Int => match s with | (l11, v12) => comps_Loop_L1 n l11 v12)
    (fun s => 0 ≤ s.2 ∧ s.2 ≤ n.domains.length ∧ FOK (EM n s.2) (2 * n.domains.length) s.1 ∧ ∀ j, 0 ≤ j → j < s.2 → ¬ LoopAt n j)
    (fun r => (match r with | Sum.inl v25 => (v25, true) | Sum.inr () => ((0 : Int), false)) = loopR n) (fun s => (n.domains.length - s.2).toNat) (s := (f, 0)) (fun s hI => by
      obtain ⟨l, i⟩ := s
      obtain ⟨i0, i1, hF, hno⟩ := hI
      simp only at i0 i1 hF hno ⊢
      by_cases c : i < (n.domains.length : Int)
      · have hi : inL n.domains i := ⟨i0, c⟩
        have hw := wr64 (n := i + 1) (by omega) (by omega)
        have hpl := hg.peers _ (getI_mem hi)
        by_cases hp : (getI n.domains i).peers = []
        · have hno2 : ∀ j, 0 ≤ j → j < i + 1 → ¬ LoopAt n j := fun j a b => by
            by_cases e : j = i
            · subst e; exact fun h => h.1 hp
            · exact hno j a (by omega)
          have pe : (((getI n.domains i).peers.length : Int) == 0) = true := by rw [peers_len]; exact decide_eq_true hp
          refine ⟨.inl (l, i + 1), by simp only [comps_Loop_L1, c, nth_getI hi, pe, hw, decide_true, if_true, Option.bind_some], ⟨by simp only; omega, by simp only; omega, hF.congr fun x y => ?_, hno2⟩, by simp only; omega⟩
          unfold EM
          refine or_congr Iff.rfl ⟨fun ⟨a, b, q⟩ => ⟨a, by simp only; omega, q⟩, fun ⟨a, b, q, d⟩ => ⟨a, ?_, q, d⟩⟩
          by_cases e : x = i
          · subst e; exact absurd hp q
          · simp only at b; omega
        · obtain ⟨m, m1, m2, m3⟩ := Min_int_spec (l := (getI n.domains i).peers) (by unfold Few; omega) hp
          have hm := mesh_min m2 m3
          obtain ⟨q0, q1⟩ := meshI_in hr hi
          have w4 := wr64 (n := (n.domains.length : Int) + meshI n i) (by omega) (by omega)
          obtain ⟨l', e1, hF'⟩ := fok_join hF hN i0 (by omega : i < ((2 * n.domains.length : Nat) : Int)) (by omega : 0 ≤ (n.domains.length : Int) + meshI n i) (by omega) (n2 := 2 * n.domains.length)
          have step : comps_Loop_L1 n l i = some (if Conn (EM n i) i (n.domains.length + meshI n i) then .inr (.inl (getI n.domains i).row) else .inl (l', i + 1)) := by
            have pe : (((getI n.domains i).peers.length : Int) == 0) = false := by rw [peers_len]; exact decide_eq_false hp
            simp only [comps_Loop_L1, c, nth_getI hi, pe, m1, hm, w3, w4, Int.toNat_natCast, e1, hw, decide_true, decide_false, Bool.false_eq_true, if_true, if_false, Option.bind_some]
            by_cases h : Conn (EM n i) i (n.domains.length + meshI n i) <;> simp [h]
          rw [step]
          by_cases h : Conn (EM n i) i (n.domains.length + meshI n i)
          · rw [if_pos h]
            refine ⟨_, rfl, ?_⟩
            have hf := fst_ix i0 c ⟨hp, h⟩ hno
            simp only [loopR, hf, i0, if_true]
          · rw [if_neg h]
            refine ⟨_, rfl, ⟨by simp only; omega, by simp only; omega, hF'.congr fun x y => ?_, fun j a b => ?_⟩, by simp only; omega⟩
            · unfold AddE EM
              constructor
              · rintro ((g | ⟨a, b, q⟩) | ⟨rfl, rfl⟩)
                · exact .inl g
                · exact .inr ⟨a, by simp only; omega, q⟩
                · exact .inr ⟨hi, by simp only; omega, hp, rfl⟩
              · rintro (g | ⟨a, b, q, d⟩)
                · exact .inl (.inl g)
                · by_cases e : x = i
                  · subst e; exact .inr ⟨rfl, d⟩
                  · exact .inl (.inr ⟨a, by simp only at b; omega, q, d⟩)
            · by_cases e : j = i
              · subst e; exact fun g => h g.2
              · exact hno j a (by simp only at b; omega)
      · have : i = n.domains.length := by omega
        subst this
        refine ⟨.inr (.inr ()), by simp only [comps_Loop_L1, c, decide_false, Bool.false_eq_true, if_false], ?_⟩
        have := fst_ix_none hno
        simp only [loopR, this, if_false]) ⟨by simp, by simp, hF, fun j a b => by simp only at b; omega⟩ (by simp only; omega)
  have e3 : comps_alone ((2 * n.domains.length : Nat) : Int) = some (mkL (2 * n.domains.length) fun x => x) := alone_spec hN
  simp only [comps_Loop, names_Right_spec hs, hr, w3, e3, e, e2, Int.toNat_natCast, decide_true, Bool.not_true, Bool.false_eq_true, if_false, Option.bind_some]
  rw [← h2]
  rcases r with r | r <;> rfl

/-! ### The reference's way -/
section
variable {a b : List Int} {part : Int}
theorem wstep_len {i : Int} {s : List Int × List Int} : (wstep a b i s).1.length ≤ s.1.length + 1 ∧ (wstep a b i s).2.length ≤ s.2.length + 1 := by
  unfold wstep
  refine ⟨?_, ?_⟩ <;> (try simp only) <;> (repeat' split) <;> simp
theorem way_in (hab : a.length = b.length) (ha : a.length ≤ 100) {a4 v7 : Int} {s : List Int × List Int} (h1 : s.1.length ≤ 100000) (h2 : s.2.length ≤ 100000) :
    loopM (fun s : (List Int) × (List Int) × Int => match s with | (l9, l10, v11) => palingref21_way_L2 a b a4 v7 l9 l10 v11) (s.1, s.2, 0) = some (wround a b s) ∧ (wround a b s).1.length ≤ s.1.length + 100 ∧ (wround a b s).2.length ≤ s.2.length + 100 := by
  have := loop_fold (f := fun s : (List Int) × (List Int) × Int => match s with | (l9, l10, v11) => palingref21_way_L2 a b a4 v7 l9 l10 v11) (mkL a.length fun x => x) (fun (s : List Int × List Int) j => (s.1, s.2, j)) (fun _ i s => wstep a b i s) s (out := id) (by rw [mkL_len]; omega)
    (fun j q => q.1.length ≤ s.1.length + j ∧ q.2.length ≤ s.2.length + j) ⟨by simp, by simp⟩ (fun j i q hj hlt hq => by
      have ji : i = (j : Int) := by
        have := getI_nat hj
        rw [mkL_get (inL_nat hj)] at this; exact this.symm
      subst ji
      rw [mkL_len] at hlt
      have ia : inL a (j : Int) := ⟨by omega, by omega⟩
      have ib : inL b (j : Int) := ⟨by omega, by omega⟩
      have hw := wr64 (n := (j : Int) + 1) (by omega) (by omega)
      have c : (j : Int) < (a.length : Int) := by omega
      obtain ⟨q1, q2⟩ := hq
      have f1 : Few q.1 := by unfold Few; omega
      have f2 : Few q.2 := by unfold Few; omega
      have hl := @wstep_len a b (j : Int) q
      have hJ : palingref21_way_J3 a b a4 v7 q.1 q.2 (j : Int) = some (wstep a b (j : Int) q).2 := by
        have r1 : roomy 8 (q.2 ++ [getI b (j : Int)]) = true := roomy_few (by simp; omega)
        simp only [palingref21_way_J3, nth_getI ia, nth_getI ib, rIn_spec f1, rIn_spec f2, r1, Option.bind_some, wstep, if_true]
        by_cases d1 : getI a (j : Int) ∈ q.1 <;> by_cases d2 : getI b (j : Int) ∈ q.2 <;> simp [d1, d2]
      have f3 : Few (wstep a b (j : Int) q).2 := by unfold Few; omega
      have r2 : roomy 8 (q.1 ++ [getI a (j : Int)]) = true := roomy_few (by simp; omega)
      have hfst : (wstep a b (j : Int) q).1 = if getI b (j : Int) ∈ (wstep a b (j : Int) q).2 ∧ getI a (j : Int) ∉ q.1 then q.1 ++ [getI a (j : Int)] else q.1 := rfl
      refine ⟨?_, by omega, by omega⟩
      simp only [palingref21_way_L2, c, hJ, nth_getI ia, nth_getI ib, rIn_spec f3, rIn_spec f1, r2, hw, decide_true, if_true, Option.bind_some]
      rw [hfst]
      by_cases d1 : getI b (j : Int) ∈ (wstep a b (j : Int) q).2 <;> by_cases d2 : getI a (j : Int) ∈ q.1 <;> simp [d1, d2]) (fun q _ => by rw [mkL_len]; simp [palingref21_way_L2])
  refine ⟨by rw [this, zipIdx_foldl]; rfl, ?_⟩
  have key : ∀ (L : List Int) (s : List Int × List Int), (L.foldl (fun s i => wstep a b i s) s).1.length ≤ s.1.length + L.length ∧ (L.foldl (fun s i => wstep a b i s) s).2.length ≤ s.2.length + L.length := by
    intro L
    induction L with
    | nil => intro s; simp
    | cons x L ih =>
      intro s
      have h1 := ih (wstep a b x s)
      have h2 := @wstep_len a b x s
      simp only [List.foldl_cons, List.length_cons]
      omega
  have := key (mkL a.length fun x => x) s
  rw [mkL_len] at this
  unfold wround
  omega
theorem way_spec {N : Int} (hab : a.length = b.length) (hal : a.length ≤ 100) (ha : ∀ i, inL a i → getI a i < N) (hb : ∀ i, inL a i → 0 ≤ getI b i) (hp : part < N) {m : Int} (hm : 0 ≤ m) :
    palingref21_way a b part m = some (decide (Conn (WE a b N) part (N + m))) := by
  have hlen : ∀ k, (wrounds a b part k).1.length ≤ 1 + 100 * k ∧ (wrounds a b part k).2.length ≤ 100 * k := by
    intro k
    have key : ∀ (L : List Int) (s : List Int × List Int), (L.foldl (fun s i => wstep a b i s) s).1.length ≤ s.1.length + L.length ∧ (L.foldl (fun s i => wstep a b i s) s).2.length ≤ s.2.length + L.length := by
      intro L
      induction L with
      | nil => intro s; simp
      | cons x L ih =>
        intro s
        have h1 := ih (wstep a b x s)
        have h2 := @wstep_len a b x s
        simp only [List.foldl_cons, List.length_cons]
        omega
    induction k with
    | zero => simp [wrounds]
    | succ k ih =>
      have := key (mkL a.length fun x => x) (wrounds a b part k)
      rw [mkL_len] at this
      show (wround a b (wrounds a b part k)).1.length ≤ _ ∧ (wround a b (wrounds a b part k)).2.length ≤ _
      unfold wround
      omega
  have e := loopM_trace (f := fun s : (List Int) × (List Int) × Int => match s with | (l5, l6, v7) => palingref21_way_L1 a b m l5 l6 v7) (fun k => ((wrounds a b part k).1, (wrounds a b part k).2, (k : Int))) (2 * a.length + 1) (r := (wrounds a b part (2 * a.length + 1)).2) (by omega) (fun k hk => by
    have hw := wr64 (n := (k : Int) + 1) (by omega) (by omega)
    have hw2 := wr64 (n := 2 * (a.length : Int)) (by omega) (by omega)
    have c : (k : Int) ≤ 2 * (a.length : Int) := by omega
    have h := hlen k
    obtain ⟨h1, _⟩ := way_in hab hal (a4 := m) (v7 := (k : Int)) (s := wrounds a b part k) (by omega) (by omega)
    simp only [palingref21_way_L1, hw2, c, h1, hw, decide_true, if_true, Option.bind_some]
    rfl) (by
    have hw2 := wr64 (n := 2 * (a.length : Int)) (by omega) (by omega)
    have c : ¬ ((2 * a.length + 1 : Nat) : Int) ≤ 2 * (a.length : Int) := by omega
    simp only [palingref21_way_L1, hw2, c, decide_false, Bool.false_eq_true, if_false])
  have e' : loopM (fun s : (List Int) × (List Int) × Int => match s with | (l5, l6, v7) => palingref21_way_L1 a b m l5 l6 v7) ([part], [], 0) = some (wrounds a b part (2 * a.length + 1)).2 := e
  have hf : Few (wrounds a b part (2 * a.length + 1)).2 := by have := (hlen (2 * a.length + 1)).2; unfold Few; omega
  simp only [palingref21_way, e', rIn_spec hf, Option.bind_some]
  exact sdec (wrounds_spec ha hb hp (by omega) hm)
end

/-- What was joined ahead of a place, in the reference: parts and meshes. -/
noncomputable def endsL (n : Api_Net) (i : Int) : List Int := (mkL n.domains.length fun x => x).filter fun k => decide (k < i) && !decide ((getI n.domains k).peers = [])
theorem mem_endsL {i k : Int} : k ∈ endsL n i ↔ inL n.domains k ∧ k < i ∧ (getI n.domains k).peers ≠ [] := by
  unfold endsL
  rw [List.mem_filter, mem_mkL]
  constructor
  · rintro ⟨⟨j, a, b, rfl⟩, h⟩
    simp at h
    exact ⟨⟨a, b⟩, h⟩
  · rintro ⟨h, h1, h2⟩
    exact ⟨⟨k, h.1, h.2, rfl⟩, by simp [h1, h2]⟩
theorem endsL_succ {i : Int} (hi : inL n.domains i) : endsL n (i + 1) = if (getI n.domains i).peers = [] then endsL n i else endsL n i ++ [i] := by
  have key : ∀ (N : Nat), (mkL N fun x => x).filter (fun k => decide (k < i + 1) && !decide ((getI n.domains k).peers = [])) =
      if i < (N : Int) ∧ (getI n.domains i).peers ≠ [] then (mkL N fun x => x).filter (fun k => decide (k < i) && !decide ((getI n.domains k).peers = [])) ++ [i] else (mkL N fun x => x).filter (fun k => decide (k < i) && !decide ((getI n.domains k).peers = [])) := by
    intro N
    induction N with
    | zero =>
      have : ¬ i < ((0 : Nat) : Int) := by have := hi.1; omega
      rw [if_neg (fun h => this h.1)]; rfl
    | succ N ih =>
      rw [mkL_succ, List.filter_append, List.filter_append, ih]
      by_cases e : (N : Int) = i
      · have h1 : ¬ i < (N : Int) := by omega
        have h2 : i < ((N + 1 : Nat) : Int) := by omega
        rw [if_neg (fun h => h1 h.1)]
        by_cases hp : (getI n.domains i).peers = []
        · rw [if_neg (fun h => h.2 hp)]
          simp [e, hp]
        · rw [if_pos ⟨h2, hp⟩]
          have h3 : i < i + 1 := by omega
          simp [e, hp, h3]
      · by_cases h1 : i < (N : Int)
        · have h2 : i < ((N + 1 : Nat) : Int) := by omega
          have h3 : ¬ (N : Int) < i + 1 := by omega
          have h4 : ¬ (N : Int) < i := by omega
          have h5 : i < (N : Int) + 1 := by omega
          by_cases hp : (getI n.domains i).peers = [] <;> simp [h1, h5, h3, h4, hp]
        · have h2 : ¬ i < ((N + 1 : Nat) : Int) := by omega
          have h3 : (N : Int) < i + 1 := by omega
          have h4 : (N : Int) < i := by omega
          have h5 : ¬ i < (N : Int) + 1 := by omega
          have h6 : List.filter (fun k => decide (k < i + 1) && !decide ((getI n.domains k).peers = [])) [(N : Int)] = List.filter (fun k => decide (k < i) && !decide ((getI n.domains k).peers = [])) [(N : Int)] := by
            simp only [List.filter_cons, h3, h4, decide_true, Bool.true_and, List.filter_nil]
          simp [h1, h5, h6]
  unfold endsL
  rw [key]
  by_cases hp : (getI n.domains i).peers = []
  · rw [if_neg (fun h => h.2 hp), if_pos hp]
  · rw [if_pos ⟨hi.2, hp⟩, if_neg hp]
theorem endsL_len {i : Int} : (endsL n i).length ≤ n.domains.length := by
  have := List.length_filter_le (fun k => decide (k < i) && !decide ((getI n.domains k).peers = [])) (mkL n.domains.length fun x => x)
  rw [mkL_len] at this; exact this
theorem getI_map {α β : Type} [Inhabited α] [Inhabited β] {l : List α} {g : α → β} {i : Int} (h : inL l i) : getI (l.map g) i = g (getI l i) := by
  have := getI_get? h
  unfold getI at this ⊢
  rw [List.getElem?_map, this]; simp
theorem inL_map {α β : Type} {l : List α} {g : α → β} {i : Int} : inL (l.map g) i ↔ inL l i := by simp [inL]
/-- Both ways to look for a loop agree. -/
theorem loop_way (hr : RightP n) {T : Int → Int} (ht : LeastT (ER n) T n.domains.length) {i : Int} (hi : inL n.domains i) :
    Conn (WE ((endsL n i).map T) ((endsL n i).map (meshI n)) n.domains.length) (T i) (n.domains.length + meshI n i) ↔ Conn (EM n i) i (n.domains.length + meshI n i) := by
  have up : ∀ {x y}, Conn (ER n) x y → Conn (EM n i) x y := Conn.mono fun _ _ g => .inl g
  constructor
  · intro h
    have h2 : Conn (EM n i) (T i) (n.domains.length + meshI n i) := h.sub fun x y g => by
      obtain ⟨k, hk, rfl, rfl⟩ := g
      rw [inL_map] at hk
      rw [getI_map hk, getI_map hk]
      obtain ⟨k1, k2, k3⟩ := mem_endsL.1 (getI_mem hk)
      exact (up (ht.conn _ k1.1 k1.2)).symm.trans (.edge (.inr ⟨k1, k2, k3, rfl⟩))
    exact (up (ht.conn i hi.1 hi.2)).trans h2
  · intro h
    let φ : Int → Int := fun x => if x < (n.domains.length : Int) then T x else x
    have key : ∀ {x y}, Conn (EM n i) x y → Conn (WE ((endsL n i).map T) ((endsL n i).map (meshI n)) n.domains.length) (φ x) (φ y) := by
      intro x y c
      induction c with
      | refl x => exact .refl _
      | symm _ ih => exact ih.symm
      | trans _ _ i1 i2 => exact i1.trans i2
      | edge g =>
        rename_i x y
        rcases g with g | ⟨h1, h2, h3, rfl⟩
        · obtain ⟨gx, gy⟩ := ER_in hr g
          have e : φ x = φ y := by
            simp only [φ, gx.2, gy.2, if_true]
            exact ht.same x y gx.1 gx.2 gy.1 gy.2 (.edge g)
          rw [e]; exact .refl _
        · have hm := meshI_in hr h1
          have c : ¬ (n.domains.length : Int) + meshI n x < n.domains.length := by omega
          simp only [φ, h1.2, c, if_true, if_false]
          obtain ⟨k, k1, k2⟩ := mem_getI (mem_endsL.2 ⟨h1, h2, h3⟩)
          refine .edge ⟨k, inL_map.2 k1, ?_, ?_⟩
          · rw [getI_map k1, k2]
          · rw [getI_map k1, k2]
    have := key h
    have hm := meshI_in hr hi
    have c : ¬ (n.domains.length : Int) + meshI n i < n.domains.length := by omega
    simpa only [φ, hi.2, c, if_true, if_false] using this
theorem rLoop_spec (hg : BndN n 200 100) (hr : RightP n) : palingref21_Loop n = some (loopR n) := by
  have hd := hg.domains
  have hfew := hr.few
  have hd48 : n.domains.length ≤ 48 := hfew.2.2.2.1
  obtain ⟨T, ht, _⟩ := comps_Links_spec hg hr
  obtain ⟨r, e2, h2⟩ := loopM_rule (f := fun s : (List Int) × (List Int) × Int => match s with | (l6, l7, v8) => palingref21_Loop_L1 n (mkL n.domains.length T) n.domains.length l6 l7 v8)
    (fun s => 0 ≤ s.2.2 ∧ s.2.2 ≤ n.domains.length ∧ s.1 = (endsL n s.2.2).map T ∧ s.2.1 = (endsL n s.2.2).map (meshI n) ∧ ∀ j, 0 ≤ j → j < s.2.2 → ¬ LoopAt n j)
    (fun r => (match r with | Sum.inl v25 => (v25, true) | Sum.inr () => ((0 : Int), false)) = loopR n) (fun s => (n.domains.length - s.2.2).toNat) (s := ([], [], 0)) (fun s hI => by
      obtain ⟨la, lb, i⟩ := s
      obtain ⟨i0, i1, ha, hb, hno⟩ := hI
      simp only at i0 i1 ha hb hno ⊢
      subst ha; subst hb
      by_cases c : i < (n.domains.length : Int)
      · have hi : inL n.domains i := ⟨i0, c⟩
        have hw := wr64 (n := i + 1) (by omega) (by omega)
        have hsucc := endsL_succ hi
        have hel := @endsL_len n i
        by_cases hp : (getI n.domains i).peers = []
        · rw [if_pos hp] at hsucc
          have pe : (((getI n.domains i).peers.length : Int) == 0) = true := by rw [peers_len]; exact decide_eq_true hp
          refine ⟨.inl ((endsL n i).map T, (endsL n i).map (meshI n), i + 1), by simp only [palingref21_Loop_L1, c, nth_getI hi, pe, hw, decide_true, if_true, Option.bind_some], ⟨by simp only; omega, by simp only; omega, by simp only; rw [hsucc], by simp only; rw [hsucc], fun j a b => ?_⟩, by simp only; omega⟩
          by_cases e : j = i
          · subst e; exact fun h => h.1 hp
          · exact hno j a (by simp only at b; omega)
        · rw [if_neg hp] at hsucc
          have mi : inL (mkL n.domains.length T) i := mkL_inL.2 ⟨i0, c⟩
          have gi := getI_get? mi
          rw [mkL_get mi] at gi
          obtain ⟨q0, q1⟩ := meshI_in hr hi
          have hway := way_spec (a := (endsL n i).map T) (b := (endsL n i).map (meshI n)) (part := T i) (N := (n.domains.length : Int)) (by simp) (by simp; omega) (fun k hk => by
            rw [inL_map] at hk
            rw [getI_map hk]
            obtain ⟨k1, _⟩ := mem_endsL.1 (getI_mem hk)
            have := ht.le _ k1.1 k1.2; have := k1.2; omega) (fun k hk => by
            rw [inL_map] at hk
            rw [getI_map hk]
            obtain ⟨k1, _⟩ := mem_endsL.1 (getI_mem hk)
            exact (meshI_in hr k1).1) (by have := ht.le i i0 c; omega) q0
          have hlw := loop_way hr ht hi
          have r1 : roomy 8 ((endsL n i).map T ++ [T i]) = true := roomy_few (by simp; omega)
          have r2 : roomy 8 ((endsL n i).map (meshI n) ++ [meshI n i]) = true := roomy_few (by simp; omega)
          have step : palingref21_Loop_L1 n (mkL n.domains.length T) n.domains.length ((endsL n i).map T) ((endsL n i).map (meshI n)) i = some (if Conn (EM n i) i (n.domains.length + meshI n i) then .inr (.inl (getI n.domains i).row) else .inl ((endsL n i).map T ++ [T i], (endsL n i).map (meshI n) ++ [meshI n i], i + 1)) := by
            have pe : (((getI n.domains i).peers.length : Int) == 0) = false := by rw [peers_len]; exact decide_eq_false hp
            simp only [palingref21_Loop_L1, c, nth_getI hi, pe, lin_true mi, gi, rmesh_spec hg hi, hway, r1, r2, hw, decide_true, decide_false, Bool.false_eq_true, if_true, if_false, Option.bind_some]
            by_cases h : Conn (EM n i) i (n.domains.length + meshI n i)
            · have := hlw.2 h; simp [h, this]
            · have g := mt hlw.1 h
              rw [if_neg h, decide_eq_false g]; simp
          rw [step]
          by_cases h : Conn (EM n i) i (n.domains.length + meshI n i)
          · rw [if_pos h]
            refine ⟨_, rfl, ?_⟩
            have hf := fst_ix i0 c ⟨hp, h⟩ hno
            simp only [loopR, hf, i0, if_true]
          · rw [if_neg h]
            refine ⟨_, rfl, ⟨by simp only; omega, by simp only; omega, by simp only; rw [hsucc]; simp, by simp only; rw [hsucc]; simp, fun j a b => ?_⟩, by simp only; omega⟩
            by_cases e : j = i
            · subst e; exact fun g => h g.2
            · exact hno j a (by simp only at b; omega)
      · have : i = n.domains.length := by omega
        subst this
        refine ⟨.inr (.inr ()), by simp only [palingref21_Loop_L1, c, decide_false, Bool.false_eq_true, if_false], ?_⟩
        have := fst_ix_none hno
        simp only [loopR, this, if_false]) ⟨by simp, by simp, by
        have : endsL n 0 = [] := List.eq_nil_iff_forall_not_mem.2 fun k hk => by have := mem_endsL.1 hk; have := this.1.1; omega
        simp [this], by
        have : endsL n 0 = [] := List.eq_nil_iff_forall_not_mem.2 fun k hk => by have := mem_endsL.1 hk; have := this.1.1; omega
        simp [this], fun j a b => by simp only at b; omega⟩ (by simp only; omega)
  simp only [palingref21_Loop, rLinks_spec hg hr ht, e2, Option.bind_some]
  rw [← h2]
  rcases r with r | r <;> rfl
theorem compsLoops (n : Api_Net) (_ : n.Ok) : palinglaw21_CompsLoops n = some true := by
  simp only [palinglaw21_CompsLoops, works21, Great_spec, bind_ite, Option.bind_some, dif1, dif2, dif3, dif4, dif5, dif6, dif7, dnot, ibeq, ibne, decide_eq_true_eq, if_not2, ge_iff_le, gt_iff_lt, fst_ret, Bool.false_eq_true, decide_false]
  by_cases hg : BndN n 200 100
  case neg => simp [hg]
  have hs := hg.sm
  by_cases hr : RightP n
  · simp [hg, comps_Loop_spec hg hr, rLoop_spec hg hr, rRight_spec hs, hr]
  · simp [hg, comps_Loop, names_Right_spec hs, rRight_spec hs, hr]
end
end Go.Eng
