/- Plain laws of chapter 21 (comps): what hangs together by all; the reference's labels; CompsTells and CompsHang. -/
import Derived.Test.YtakginbgngjhkaaEngP21b
set_option linter.unusedVariables false
set_option linter.unusedSectionVars false
set_option linter.unusedSimpArgs false
namespace Go.Eng
open Go Classical
attribute [local congr] ite_cg
section
variable {n : Api_Net}
def EPj (n : Api_Net) (d m : Int) (x y : Int) : Prop := x = d ∧ ∃ k, inL (getI n.domains d).peers k ∧ k < m ∧ y = getI (getI n.domains d).peers k
def EPk (n : Api_Net) (m : Int) (x y : Int) : Prop := x < m ∧ EP n x y
theorem all_in (hr : RightP n) {E : Int → Int → Prop} {N : Nat} (hN : N ≤ 1000) (hD : n.domains.length ≤ N) {d : Int} (hd : inL n.domains d) (hp : (getI n.domains d).peers.length ≤ 1000) {f : List Int} (hf : FOK E N f) :
    ∃ f', loopM (fun s : (List Int) × Int => match s with | (l16, v17) => comps_All_L2 n d (getI n.domains d) l16 v17) (f, 0) = some f' ∧ FOK (fun x y => E x y ∨ EPj n d (getI n.domains d).peers.length x y) N f' := by
  obtain ⟨r, e, h1⟩ := loopM_rule (f := fun s : (List Int) × Int => match s with | (l16, v17) => comps_All_L2 n d (getI n.domains d) l16 v17)
    (fun s => 0 ≤ s.2 ∧ s.2 ≤ (getI n.domains d).peers.length ∧ FOK (fun x y => E x y ∨ EPj n d s.2 x y) N s.1) (fun r => FOK (fun x y => E x y ∨ EPj n d (getI n.domains d).peers.length x y) N r) (fun s => ((getI n.domains d).peers.length - s.2).toNat) (s := (f, 0)) (fun s hI => by
      obtain ⟨l, j⟩ := s
      obtain ⟨j0, j1, hF⟩ := hI
      simp only at j0 j1 hF ⊢
      by_cases c : j < ((getI n.domains d).peers.length : Int)
      · have hj : inL (getI n.domains d).peers j := ⟨j0, c⟩
        have hw := wr64 (n := j + 1) (by omega) (by omega)
        have hy := (hr.peers d hd j hj).1.1
        have d1 := hd.1; have d2 := hd.2; have y1 := hy.1; have y2 := hy.2
        obtain ⟨f', e1, hF'⟩ := fok_join hF hN d1 (by omega) y1 (by omega) (n2 := Int.toNat (n.domains.length : Int))
        refine ⟨.inl (f', j + 1), ?_, ⟨by simp only; omega, by simp only; omega, hF'.congr fun x y => ?_⟩, by simp only; omega⟩
        · simp only [comps_All_L2, c, nth_getI hj, e1, hw, decide_true, if_true, Option.bind_some]
        · constructor
          · rintro ((g | ⟨e, k, k1, k2, k3⟩) | ⟨rfl, rfl⟩)
            · exact .inl g
            · exact .inr ⟨e, k, k1, by simp only; omega, k3⟩
            · exact .inr ⟨rfl, j, hj, by simp only; omega, rfl⟩
          · rintro (g | ⟨e, k, k1, k2, k3⟩)
            · exact .inl (.inl g)
            · by_cases e2 : k = j
              · subst e2; exact .inr ⟨e, k3⟩
              · exact .inl (.inr ⟨e, k, k1, by simp only at k2; omega, k3⟩)
      · have : j = (getI n.domains d).peers.length := by omega
        subst this
        exact ⟨.inr l, by simp only [comps_All_L2, c, decide_false, Bool.false_eq_true, if_false], hF⟩) ⟨by simp, by simp, hf.congr fun x y => ⟨.inl, fun g => g.elim id (fun ⟨_, k, k1, k2, _⟩ => by have := k1.1; simp only at k2; omega)⟩⟩ (by simp only; omega)
  exact ⟨r, e, h1⟩
theorem comps_All_spec (hg : BndN n 200 100) (hr : RightP n) : ∃ T, LeastT (EA n) T n.domains.length ∧ comps_All n = some (mkL n.domains.length T) := by
  have hs := hg.sm
  have hd := hg.domains
  obtain ⟨f, e, hF⟩ := linked_spec hg hr (N := n.domains.length) (by omega) (Nat.le_refl _) (n3 := Int.toNat (n.domains.length : Int)) fok_alone
  obtain ⟨r, e3, hF3⟩ := loopM_rule (f := fun s : (List Int) × Int => match s with | (l11, v12) => comps_All_L1 n l11 v12)
    (fun s => 0 ≤ s.2 ∧ s.2 ≤ n.domains.length ∧ FOK (fun x y => (False ∨ EL n x y) ∨ EPk n s.2 x y) n.domains.length s.1) (fun r => FOK (EA n) n.domains.length r) (fun s => (n.domains.length - s.2).toNat) (s := (f, 0)) (fun s hI => by
      obtain ⟨l, j⟩ := s
      obtain ⟨j0, j1, hF⟩ := hI
      simp only at j0 j1 hF ⊢
      by_cases c : j < (n.domains.length : Int)
      · have hj : inL n.domains j := ⟨j0, c⟩
        have hw := wr64 (n := j + 1) (by omega) (by omega)
        have hpl := hg.peers _ (getI_mem hj)
        obtain ⟨f', e1, hF'⟩ := all_in hr (by omega) (Nat.le_refl _) hj (by omega) hF
        refine ⟨.inl (f', j + 1), ?_, ⟨by simp only; omega, by simp only; omega, hF'.congr fun x y => ?_⟩, by simp only; omega⟩
        · simp only [comps_All_L1, c, nth_getI hj, e1, hw, decide_true, if_true, Option.bind_some]
        · constructor
          · rintro ((g | ⟨k1, k2⟩) | ⟨rfl, k, k1, k2, rfl⟩)
            · exact .inl g
            · exact .inr ⟨by simp only; omega, k2⟩
            · exact .inr ⟨by simp only; omega, hj, getI_mem k1⟩
          · rintro (g | ⟨k1, k2, k3⟩)
            · exact .inl (.inl g)
            · by_cases e2 : x = j
              · subst e2
                obtain ⟨k, q1, rfl⟩ := mem_getI k3
                exact .inr ⟨rfl, k, q1, q1.2, rfl⟩
              · exact .inl (.inr ⟨by simp only at k1; omega, k2, k3⟩)
      · have : j = n.domains.length := by omega
        subst this
        refine ⟨.inr l, by simp only [comps_All_L1, c, decide_false, Bool.false_eq_true, if_false], hF.congr fun x y => ?_⟩
        rw [EA, ← EL_iff_ER hr]
        constructor
        · rintro ((g | g) | ⟨_, g⟩)
          · exact g.elim
          · exact .inl g
          · exact .inr g
        · rintro (g | g)
          · exact .inl (.inr g)
          · exact .inr ⟨g.1.2, g⟩) ⟨by simp, by simp, hF.congr fun x y => ⟨.inl, fun g => g.elim id (fun ⟨k1, k2⟩ => by have := k2.1.1; simp only at k1; omega)⟩⟩ (by simp only; omega)
  obtain ⟨T, hl, ht⟩ := hF3.lab
  obtain ⟨f', e2⟩ := tops_spec hl (by have := hF3.len; omega) (m := n.domains.length) (by have := hF3.len; omega) (n2 := Int.toNat (n.domains.length : Int))
  refine ⟨T, ht, ?_⟩
  simp only [Int.toNat_natCast] at e e2
  simp only [comps_All, names_Right_spec hs, hr, alone_spec (N := n.domains.length) (by omega), Option.bind_some, decide_true, Bool.not_true, Bool.false_eq_true, if_false, Int.toNat_natCast, e, e3, e2]

/-! ### The reference's labels -/
noncomputable def crossL (n : Api_Net) (x : Int) : List Int := gatherI (membersL n x) (fun _ p => OkX n p (getI n.domains x).vlan) (fun _ p => toDom n p (getI n.domains x).vlan)
theorem mem_crossL {x y : Int} (hx : inL n.domains x) : y ∈ crossL n x ↔ ER n x y := by
  unfold crossL
  rw [mem_gatherI]
  constructor
  · rintro ⟨i, h1, h2, rfl⟩; exact ⟨hx, _, getI_mem h1, h2, rfl⟩
  · rintro ⟨_, p, hp, h2, rfl⟩
    obtain ⟨i, hi, rfl⟩ := mem_getI hp
    exact ⟨i, hi, h2, rfl⟩
theorem crossL_len {x : Int} : (crossL n x).length ≤ n.ports.length := Nat.le_trans gatherI_len membersL_len
theorem Crossed_spec (hg : BndN n 200 100) (hr : RightP n) {x : Int} (hx : inL n.domains x) : palingref21_Crossed n x = some (crossL n x) := by
  have hs := hg.sm
  have hm : (membersL n x).length ≤ 200 := Nat.le_trans membersL_len hg.ports
  simp only [palingref21_Crossed, rMembers_spec hs, hx, if_true, Option.bind_some]
  rw [loop_gather (f := fun s : (List Int) × Int => match s with | (l6, v7) => palingref21_Crossed_L1 n x (membersL n x) l6 v7) (membersL n x) (fun _ p => OkX n p (getI n.domains x).vlan) (fun _ p => toDom n p (getI n.domains x).vlan) (out := id) (by unfold Few; omega) (fun i s h0 h1 h2 h3 => by
    have hw := wr64 (n := i + 1) (by omega) (by omega)
    have h5 : ∀ y : Int, roomy 8 (s ++ [y]) = true := fun y => roomy_few (by simp; omega)
    simp only [palingref21_Crossed_L1, h1, lin_true h2, getI_get? h2, nth_getI hx, rDomain_ok hs hr, h5, hw, decide_true, if_true, Option.bind_some]
    by_cases ho : OkX n (getI (membersL n x) i) (getI n.domains x).vlan <;> simp [ho]) (fun s => by simp [palingref21_Crossed_L1])]
  rfl
theorem zipIdx_foldl {α σ : Type} (g : α → σ → σ) : ∀ (l : List α) (k : Nat) (s : σ), (l.zipIdx k).foldl (fun s q => g q.1 s) s = l.foldl (fun s x => g x s) s := by
  intro l
  induction l with
  | nil => intro k s; rfl
  | cons a l ih => intro k s; simp only [List.zipIdx_cons, List.foldl_cons]; exact ih _ _
/-- The steps of a domain in the reference. -/
noncomputable def nextR (n : Api_Net) (peers : Bool) (x : Int) : List Int := if peers = true then crossL n x ++ (getI n.domains x).peers else crossL n x
theorem least_in {N : Nat} (hN : N ≤ 1000) {b : Bool} {l11 : List Int} {v15 i : Int} {ys : List Int} (hy : ∀ y ∈ ys, 0 ≤ y ∧ y < (N : Int)) (hyl : ys.length ≤ 1000) (i0 : 0 ≤ i) (i1 : i < (N : Int)) {l : List Int} (hl : l.length = N) :
    loopM (fun s : (List Int) × Int => match s with | (l37, v38) => palingref21_least_L5 n b l11 v15 i ys l37 v38) (l, 0) = some (ys.foldl (fun l y => relax i y l) l) := by
  have := loop_fold (f := fun s : (List Int) × Int => match s with | (l37, v38) => palingref21_least_L5 n b l11 v15 i ys l37 v38) ys (fun s j => (s, j)) (fun _ y s => relax i y s) l (out := id) (by omega) (fun _ s => s.length = N) hl (fun j y s hj hlt hs => by
    have jj : inL ys (j : Int) := inL_nat hj
    have gj : getI ys (j : Int) = y := getI_nat hj
    obtain ⟨y0, y1⟩ := hy y (List.mem_of_getElem? hj)
    have si : inL s i := ⟨i0, by omega⟩
    have sy : inL s y := ⟨y0, by omega⟩
    have hw := wr64 (n := (j : Int) + 1) (by omega) (by omega)
    have gq := getI_get? jj
    rw [gj] at gq
    have c : (j : Int) < (ys.length : Int) := by omega
    refine ⟨?_, by rw [relax_len]; exact hs⟩
    have hmin : palingref21_least_J6 n b l11 v15 i ys s (j : Int) (getI s i) = some (min (getI s i) (getI s y)) := by
      simp only [palingref21_least_J6, lin_true jj, gq, lin_true sy, getI_get? sy, if_true, Option.bind_some]
      by_cases d : getI s y < getI s i
      · have : min (getI s i) (getI s y) = getI s y := by omega
        simp [d, this]
      · have : min (getI s i) (getI s y) = getI s i := by omega
        simp [d, this]
    have sy2 : inL (s.set i.toNat (min (getI s i) (getI s y))) y := inL_set.2 sy
    simp only [palingref21_least_L5, c, lin_true si, getI_get? si, hmin, lin_true jj, gq, lin_true sy2, getI_get? sy2, hw, decide_true, if_true, Option.bind_some]
    rfl) (fun s hs => by simp [palingref21_least_L5])
  rw [this, zipIdx_foldl]; rfl
theorem least_spec (hg : BndN n 200 100) (hr : RightP n) {b : Bool} : palingref21_least n b = some (roundsL (nextR n b) n.domains.length n.domains.length, n.domains.length) := by
  have hd := hg.domains
  have hnext : ∀ i, inL n.domains i → (∀ y ∈ nextR n b i, 0 ≤ y ∧ y < (n.domains.length : Int)) ∧ (nextR n b i).length ≤ 1000 := fun i hi => by
    have h1 : ∀ y ∈ crossL n i, 0 ≤ y ∧ y < (n.domains.length : Int) := fun y hy => (ER_in hr ((mem_crossL hi).1 hy)).2
    have h2 := @crossL_len n i
    have h3 := hg.ports
    have h4 := hg.peers _ (getI_mem hi)
    unfold nextR
    split
    · refine ⟨fun y hy => ?_, by simp; omega⟩
      rcases List.mem_append.1 hy with hy | hy
      · exact h1 y hy
      · exact (EP_in hr ⟨hi, hy⟩).2
    · exact ⟨h1, by omega⟩
  -- the start
  have e1 := loop_gather (f := fun s : (List Int) × Int => match s with | (l3, v4) => palingref21_least_L1 n b l3 v4) n.domains (fun _ _ => True) (fun i _ => i) (out := id) (by unfold Few; omega) (fun i s h0 h1 h2 h3 => by
    have hw := wr64 (n := i + 1) (by omega) (by omega)
    have h5 : roomy 8 (s ++ [i]) = true := roomy_few (by simp; omega)
    simp only [palingref21_least_L1, h1, h5, hw, decide_true, if_true]) (fun s => by simp [palingref21_least_L1])
  have e2 : gatherI n.domains (fun _ _ => True) (fun i _ => i) = mkL n.domains.length fun x => x := by
    unfold gatherI mkL
    have key : ∀ (l : List Api_Domain) (k : Nat), (l.zipIdx k).filterMap (fun q => if True then some ((q.2 : Nat) : Int) else none) = (List.range' k l.length).map fun (i : Nat) => (i : Int) := by
      intro l
      induction l with
      | nil => intro k; rfl
      | cons x l ih => intro k; simp only [List.zipIdx_cons, List.filterMap_cons, if_true, List.length_cons, List.range'_succ, List.map_cons]; rw [← ih]; simp
    have := key n.domains 0
    rw [List.range_eq_range']
    simpa using this
  rw [e2] at e1
  -- one round
  have e3 : ∀ (l : List Int) (v15 : Int), l.length = n.domains.length → loopM (fun s : (List Int) × Int => match s with | (l17, v18) => palingref21_least_L3 n b (mkL n.domains.length fun x => x) v15 l17 v18) (l, 0) = some (roundL (nextR n b) n.domains.length l) := fun l v15 hl => by
    have := loop_fold (f := fun s : (List Int) × Int => match s with | (l17, v18) => palingref21_least_L3 n b (mkL n.domains.length fun x => x) v15 l17 v18) (mkL n.domains.length fun x => x) (fun s j => (s, j)) (fun _ i s => relaxI (nextR n b) i s) l (out := id) (by rw [mkL_len]; omega) (fun _ s => s.length = n.domains.length) hl (fun j i s hj hlt hs => by
      have ji : i = (j : Int) := by
        have := getI_nat hj
        rw [mkL_get (inL_nat hj)] at this; exact this.symm
      subst ji
      rw [mkL_len] at hlt
      have hi : inL n.domains (j : Int) := ⟨by omega, by omega⟩
      obtain ⟨n1, n2⟩ := hnext _ hi
      have hw := wr64 (n := (j : Int) + 1) (by omega) (by omega)
      have c : (j : Int) < (n.domains.length : Int) := by omega
      have hJ : palingref21_least_J4 n b (mkL n.domains.length fun x => x) v15 s (j : Int) (crossL n (j : Int)) = some (nextR n b (j : Int)) := by
        unfold palingref21_least_J4 nextR
        cases b with
        | false => simp
        | true =>
          have : roomy 8 (crossL n (j : Int) ++ (getI n.domains (j : Int)).peers) = true := roomy_few (by
            have h2 := @crossL_len n (j : Int)
            have h3 := hg.ports
            have h4 := hg.peers _ (getI_mem hi)
            simp; omega)
          simp [nth_getI hi, this]
      have hlen : ∀ (ys : List Int) (l : List Int), (ys.foldl (fun l y => relax (j : Int) y l) l).length = l.length := by
        intro ys
        induction ys with
        | nil => intro l; rfl
        | cons y ys ih => intro l; rw [List.foldl_cons, ih, relax_len]
      refine ⟨?_, by unfold relaxI; rw [hlen]; exact hs⟩
      simp only [palingref21_least_L3, c, Crossed_spec hg hr hi, hJ, least_in (by omega) n1 n2 hi.1 c hs, hw, decide_true, if_true, Option.bind_some]
      rfl) (fun s hs => by rw [mkL_len]; simp [palingref21_least_L3])
    rw [this, zipIdx_foldl]; rfl
  have hlenI : ∀ (i : Int) (l : List Int), (relaxI (nextR n b) i l).length = l.length := by
    intro i l
    unfold relaxI
    generalize nextR n b i = ys
    induction ys generalizing l with
    | nil => rfl
    | cons y ys ih => rw [List.foldl_cons, ih, relax_len]
  have hlenR : ∀ l, (roundL (nextR n b) n.domains.length l).length = l.length := by
    intro l
    unfold roundL
    generalize (mkL n.domains.length fun x => x) = L
    induction L generalizing l with
    | nil => rfl
    | cons y ys ih => rw [List.foldl_cons, ih, hlenI]
  have hlenK : ∀ k, (roundsL (nextR n b) n.domains.length k).length = n.domains.length := by
    intro k
    induction k with
    | zero => exact mkL_len
    | succ k ih => show (roundL _ _ _).length = _; rw [hlenR]; exact ih
  have e4 := loopM_trace (f := fun s : (List Int) × Int => match s with | (l14, v15) => palingref21_least_L2 n b (mkL n.domains.length fun x => x) l14 v15) (fun k => (roundsL (nextR n b) n.domains.length k, (k : Int))) n.domains.length (r := roundsL (nextR n b) n.domains.length n.domains.length) (by omega) (fun k hk => by
    have hw := wr64 (n := (k : Int) + 1) (by omega) (by omega)
    have c : (k : Int) < (n.domains.length : Int) := by omega
    simp only [palingref21_least_L2, c, e3 _ _ (hlenK k), hw, decide_true, if_true, Option.bind_some]
    rfl) (by simp [palingref21_least_L2])
  have e4' : loopM (fun s : (List Int) × Int => match s with | (l14, v15) => palingref21_least_L2 n b (mkL n.domains.length fun x => x) l14 v15) (mkL n.domains.length fun x => x, 0) = some (roundsL (nextR n b) n.domains.length n.domains.length) := e4
  simp only [palingref21_least, e1, id, Option.bind_some, e4', mkL_len]
theorem rLinks_spec (hg : BndN n 200 100) (hr : RightP n) {T : Int → Int} (ht : LeastT (ER n) T n.domains.length) : palingref21_Links n = some (mkL n.domains.length T, n.domains.length) := by
  simp only [palingref21_Links, least_spec hg hr, Option.bind_some]
  rw [roundsL_least ht (fun x y g => ⟨(ER_in hr g).1, by unfold nextR; simp; exact (mem_crossL (ER_in hr g).1).2 g⟩) (fun i i0 i1 y hy => by
    unfold nextR at hy; simp at hy
    have := (mem_crossL ⟨i0, i1⟩).1 hy
    exact ⟨.edge this, (ER_in hr this).2⟩)]
theorem rAll_spec (hg : BndN n 200 100) (hr : RightP n) {T : Int → Int} (ht : LeastT (EA n) T n.domains.length) : palingref21_All n = some (mkL n.domains.length T, n.domains.length) := by
  simp only [palingref21_All, least_spec hg hr, Option.bind_some]
  rw [roundsL_least ht (fun x y g => ⟨(EA_in hr g).1, by
    unfold nextR; simp
    rcases g with g | g
    · exact .inl ((mem_crossL (ER_in hr g).1).2 g)
    · exact .inr g.2⟩) (fun i i0 i1 y hy => by
    unfold nextR at hy; simp at hy
    have : EA n i y := hy.elim (fun h => .inl ((mem_crossL ⟨i0, i1⟩).1 h)) (fun h => .inr ⟨⟨i0, i1⟩, h⟩)
    exact ⟨.edge this, (EA_in hr this).2⟩)]
theorem works21 : palinglaw21_works = some true := by kernel_rfl

theorem compsTells (n : Api_Net) (_ : n.Ok) : palinglaw21_CompsTells n = some true := by
  simp only [palinglaw21_CompsTells, works21, Great_spec, bind_ite, Option.bind_some, dif1, dif2, dif3, dif4, dif5, dif6, dif7, dnot, ibeq, ibne, decide_eq_true_eq, if_not2, ge_iff_le, gt_iff_lt, fst_ret, Bool.false_eq_true, decide_false]
  by_cases hg : BndN n 200 100
  case neg => simp [hg]
  have hs := hg.sm
  have hd := hg.domains
  by_cases hr : RightP n
  · obtain ⟨T, ht, e1⟩ := comps_Links_spec hg hr
    obtain ⟨U, hu, e2⟩ := comps_All_spec hg hr
    have f1 : Few (mkL n.domains.length T) := by unfold Few; rw [mkL_len]; omega
    have f2 : Few (mkL n.domains.length U) := by unfold Few; rw [mkL_len]; omega
    simp [hg, e1, e2, rRight_spec hs, hr, rLinks_spec hg hr ht, rAll_spec hg hr hu, rInts_spec f1, rInts_spec f2]
  · simp [hg, comps_Links, comps_All, names_Right_spec hs, rRight_spec hs, hr]

theorem compsHang (n : Api_Net) (_ : n.Ok) : palinglaw21_CompsHang n = some true := by
  simp only [palinglaw21_CompsHang, works21, Great_spec, bind_ite, Option.bind_some, dif1, dif2, dif3, dif4, dif5, dif6, dif7, dnot, ibeq, ibne, decide_eq_true_eq, if_not2, ge_iff_le, gt_iff_lt, fst_ret, Bool.false_eq_true, decide_false]
  by_cases hg : BndN n 200 100
  case neg => simp [hg]
  have hs := hg.sm
  have hd := hg.domains
  by_cases hr : RightP n
  case neg => simp [hg, names_Right_spec hs, hr]
  obtain ⟨T, ht, e1⟩ := comps_Links_spec hg hr
  obtain ⟨U, hu, e2⟩ := comps_All_spec hg hr
  have hL : loopM (palinglaw21_CompsHang_L1 n (mkL n.domains.length T) (mkL n.domains.length U)) 0 = some (.inr ()) := by
    refine loop_pass (f := palinglaw21_CompsHang_L1 n (mkL n.domains.length T) (mkL n.domains.length U)) (mkL n.domains.length T) (Sum.inr ()) (by unfold Few; rw [mkL_len]; omega) (fun i h0 h1 h2 => ?_) (by simp [palinglaw21_CompsHang_L1])
    have hw := wr64 (n := i + 1) (by omega) (by rw [mkL_len] at h1; omega)
    have i1 : i < (n.domains.length : Int) := by rw [mkL_len] at h1; exact h1
    have hi : inL n.domains i := ⟨h0, i1⟩
    have mi : ∀ {V : Int → Int} {x : Int}, 0 ≤ x → x < (n.domains.length : Int) → inL (mkL n.domains.length V) x := fun a b => mkL_inL.2 ⟨a, b⟩
    have gi : ∀ {V : Int → Int} {x : Int}, 0 ≤ x → x < (n.domains.length : Int) → (mkL n.domains.length V)[x.toNat]? = some (V x) := fun a b => by rw [getI_get? (mi a b), mkL_get (mi a b)]
    have li : ∀ {V : Int → Int} {x : Int}, 0 ≤ x → x < (n.domains.length : Int) → lin (mkL n.domains.length V) x = true := fun a b => lin_true (mi a b)
    have t0 := ht.lo i h0 i1; have t1 := ht.le i h0 i1; have t2 := ht.top h0 i1
    have u0 := hu.lo i h0 i1; have u1 := hu.le i h0 i1; have u2 := hu.top h0 i1
    have a1 : ¬ T i < 0 := by omega
    have a2 : ¬ i < T i := by omega
    have a3 : ¬ U i < 0 := by omega
    have a4 : ¬ i < U i := by omega
    have ut : U (T i) = U i := (hu.same i (T i) h0 i1 t0 (by omega) ((ht.conn i h0 i1).mono fun _ _ g => .inl g)).symm
    have t1' : T i < (n.domains.length : Int) := by omega
    have u1' : U i < (n.domains.length : Int) := by omega
    have hpl := hg.peers _ (getI_mem hi)
    have L2 : loopM (palinglaw21_CompsHang_L2 n (mkL n.domains.length T) (mkL n.domains.length U) i (getI n.domains i)) 0 = some (.inr ()) := by
      refine loop_pass (f := palinglaw21_CompsHang_L2 n (mkL n.domains.length T) (mkL n.domains.length U) i (getI n.domains i)) (getI n.domains i).peers (Sum.inr ()) (by unfold Few; omega) (fun j j0 j1 hj => ?_) (by simp [palinglaw21_CompsHang_L2])
      have hw := wr64 (n := j + 1) (by omega) (by omega)
      have hE : EP n i (getI (getI n.domains i).peers j) := ⟨hi, getI_mem hj⟩
      obtain ⟨_, y⟩ := EP_in hr hE
      have b1 : ¬ getI (getI n.domains i).peers j < 0 := by have := y.1; omega
      have b2 : ¬ (n.domains.length : Int) ≤ getI (getI n.domains i).peers j := by have := y.2; omega
      have us : U (getI (getI n.domains i).peers j) = U i := (hu.same i _ h0 i1 y.1 y.2 (.edge (.inr hE))).symm
      simp only [palinglaw21_CompsHang_L2, j1, nth_getI hj, mkL_len, b1, b2, li y.1 y.2, gi y.1 y.2, li h0 i1, gi h0 i1, us, hw, decide_true, decide_false, if_true, if_false, Bool.false_eq_true, Option.bind_some, ge_iff_le, bne_self_eq_false]
    have hm : (membersL n i).length ≤ 200 := Nat.le_trans membersL_len hg.ports
    have L3 : loopM (palinglaw21_CompsHang_L3 n (mkL n.domains.length T) (mkL n.domains.length U) i (membersL n i)) 0 = some (.inr ()) := by
      refine loop_pass (f := palinglaw21_CompsHang_L3 n (mkL n.domains.length T) (mkL n.domains.length U) i (membersL n i)) (membersL n i) (Sum.inr ()) (by unfold Few; omega) (fun j j0 j1 hj => ?_) (by simp [palinglaw21_CompsHang_L3])
      have hw := wr64 (n := j + 1) (by omega) (by omega)
      by_cases ho : OkX n (getI (membersL n i) j) (getI n.domains i).vlan
      · have hE : ER n i (toDom n (getI (membersL n i) j) (getI n.domains i).vlan) := ⟨hi, _, getI_mem hj, ho, rfl⟩
        obtain ⟨_, y⟩ := ER_in hr hE
        have b1 : ¬ toDom n (getI (membersL n i) j) (getI n.domains i).vlan < 0 := by have := y.1; omega
        have b2 : ¬ (n.domains.length : Int) ≤ toDom n (getI (membersL n i) j) (getI n.domains i).vlan := by have := y.2; omega
        have ts : T (toDom n (getI (membersL n i) j) (getI n.domains i).vlan) = T i := (ht.same i _ h0 i1 y.1 y.2 (.edge hE)).symm
        simp only [palinglaw21_CompsHang_L3, j1, lin_true hj, getI_get? hj, nth_getI hi, links_Domain_ok hs hr, ho, mkL_len, b1, b2, li y.1 y.2, gi y.1 y.2, li h0 i1, gi h0 i1, ts, hw, decide_true, decide_false, if_true, if_false, Bool.false_eq_true, Option.bind_some, ge_iff_le, bne_self_eq_false]
      · simp only [palinglaw21_CompsHang_L3, j1, lin_true hj, getI_get? hj, nth_getI hi, links_Domain_ok hs hr, ho, hw, decide_true, if_true, if_false, Bool.false_eq_true, Option.bind_some]
    simp only [palinglaw21_CompsHang_L1, h1, li h0 i1, gi h0 i1, a1, a2, a3, a4, li t0 t1', gi t0 t1', li u0 u1', gi u0 u1', t2, u2, ut, nth_getI hi, L2, L3, names_Members_spec hs, hr, hi, hw, decide_true, decide_false, if_true, if_false, Bool.false_eq_true, Option.bind_some, gt_iff_lt, bne_self_eq_false, and_self]
  simp [hg, names_Right_spec hs, hr, e1, e2, mkL_len, hL]
end
end Go.Eng
