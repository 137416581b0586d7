/- Plain laws of chapter 42 (labels): what the program spreads. -/
import Derived.Test.YtlinloabahbioaaEngV0
import Derived.Test.YtlinloabahbioaaEngW1
import Derived.Test.YtlinloabahbioaaEngL5a
import Derived.Test.YtlinloabahbioaaEngP23a
set_option linter.unusedVariables false
set_option linter.unusedSectionVars false
set_option linter.unusedSimpArgs false
namespace Go.Eng
open Go Classical
attribute [local congr] ite_cg

section
variable {n : Api_Net}
noncomputable def hopD (n : Api_Net) (d : Int) : List Int := (hopsI n d).map fun h => h.domain
noncomputable def leadD (n : Api_Net) (d : Int) : List Int := if (getI n.domains d).irb < 0 then [] else (leads36 n (getI n.domains d).irb).map fun h => h.domain
def seedP (n : Api_Net) (of : List Int) (d : Int) (t : Nat) : Prop := inL n.domains d ∧ ∃ p ∈ membersL n d, getI of p = (t : Int)
theorem hopD_in (hr : RightP n) : ∀ d, 0 ≤ d → d < (n.domains.length : Int) → ∀ h ∈ hopD n d, 0 ≤ h ∧ h < (n.domains.length : Int) := by
  intro d d0 d1 h hh
  obtain ⟨x, hx, rfl⟩ := List.mem_map.1 hh
  exact hops_in hr d d0 d1 x hx
theorem leadD_in (hr : RightP n) : ∀ d, 0 ≤ d → d < (n.domains.length : Int) → ∀ h ∈ leadD n d, 0 ≤ h ∧ h < (n.domains.length : Int) := by
  intro d d0 d1 h hh
  unfold leadD at hh
  split at hh
  · simp at hh
  · obtain ⟨x, hx, rfl⟩ := List.mem_map.1 hh
    obtain ⟨i, hi, _, rfl⟩ := mem_gatherI.1 hx
    exact (hr.irbs i hi).1
theorem leads36_len {irb : Int} : (leads36 n irb).length ≤ n.irbs.length := gatherI_len
theorem leadD_len {d : Int} : (leadD n d).length ≤ n.irbs.length := by
  unfold leadD; split
  · simp
  · rw [List.length_map]; exact leads36_len
theorem hops_spec (hg : BndN n 200 100) (hr : RightP n) {d : Int} (hd : inL n.domains d) : labels_hops n d = some (hopD n d) := by
  have hl := hopsI_len hg hd
  simp only [labels_hops]
  rw [reach_Hops_spec hg hr hd, Option.bind_some]
  have e := loop_map (f := fun s : (List Int) × Int => match s with | (l6, v7) => labels_hops_L1 (hopsI n d) l6 v7) (hopsI n d) (fun h => h.domain) [] (out := fun s => s) (by unfold Few; omega) (fun i s hi hlen => by
    have i0 := hi.1; have i1 := hi.2
    simp only [labels_hops_L1]
    rw [if_pos (by simpa using i1), if_pos (linT hi), getI_get? hi, Option.bind_some, wr64 (by omega) (by omega), if_pos (roomy_few (by simp at hlen ⊢; omega))]) (fun s => by simp [labels_hops_L1])
  rw [e]; rfl
theorem routes_spec (ho : n.Ok) (hg : BndN n 200 100) (hr : RightP n) {d : Int} (hd : inL n.domains d) : labels_routes n d = some (leadD n d) := by
  have hs := hg.sm
  have hil := hg.irbs
  simp only [labels_routes]
  unfold leadD
  by_cases c : (getI n.domains d).irb < 0
  · rw [chooseRoutes_none hs (fun h => h.2.2 c), Option.bind_some, if_pos c]
    have e := loop_map (f := fun s : (List Int) × Int => match s with | (l6, v7) => labels_routes_L1 [] l6 v7) ([] : List Choose_Lead) (fun h => h.domain) [] (out := fun s => s) few_nil (fun i s hi hlen => by have := hi.1; have := hi.2; simp at this; omega) (fun s => by simp [labels_routes_L1])
    rw [e]; rfl
  · have hl := leads36_len (n := n) (irb := (getI n.domains d).irb)
    rw [chooseRoutes_some ho hs hil hr hd c, Option.bind_some, if_neg c]
    generalize leads36 n (getI n.domains d).irb = ls at *
    have e := loop_map (f := fun s : (List Int) × Int => match s with | (l6, v7) => labels_routes_L1 ls l6 v7) ls (fun h => h.domain) [] (out := fun s => s) (by unfold Few; omega) (fun i s hi hlen => by
      have i0 := hi.1; have i1 := hi.2
      simp only [labels_routes_L1]
      rw [if_pos (by simpa using i1), if_pos (linT hi), getI_get? hi, Option.bind_some, wr64 (by omega) (by omega), if_pos (roomy_few (by simp at hlen ⊢; omega))]) (fun s => by simp [labels_routes_L1])
    rw [e]; rfl
/-- A list of what places have. -/
def mkG {β : Type} (N : Nat) (f : Int → β) : List β := (List.range N).map fun (i : Nat) => f (i : Int)
theorem mkG_len {β : Type} {N : Nat} {f : Int → β} : (mkG N f).length = N := by simp [mkG]
theorem mkG_inL {β : Type} {N : Nat} {f : Int → β} {i : Int} : inL (mkG N f) i ↔ 0 ≤ i ∧ i < N := by rw [inL_iff, mkG_len]
theorem mkG_get {β : Type} [Inhabited β] {N : Nat} {f : Int → β} {i : Int} (h : 0 ≤ i ∧ i < (N : Int)) : getI (mkG N f) i = f i := by
  have h1 : (mkG N f)[i.toNat]? = some (f i) := by
    unfold mkG
    rw [List.getElem?_map, List.getElem?_range (by omega)]
    simp only [Option.map_some]
    congr 2; omega
  unfold getI; rw [h1]; rfl
theorem mkG_succ {β : Type} {N : Nat} {f : Int → β} : mkG (N + 1) f = mkG N f ++ [f N] := by simp [mkG, List.range_succ]
theorem begin_spec (ho : n.Ok) (hg : BndN n 200 100) (hr : RightP n) : labels_begin n = some (mkG n.domains.length (hopD n), mkG n.domains.length (leadD n)) := by
  have hdl := hg.domains
  have hmk : mkok 16 (n.domains.length : Int) (n.domains.length : Int) = true := by unfold mkok; simp; omega
  have e := loopM_trace (f := fun s : (List (List Int)) × (List (List Int)) × Int => match s with | (l3, l4, v5) => labels_begin_L1 n l3 l4 v5) (r := (mkG n.domains.length (hopD n), mkG n.domains.length (leadD n))) (fun k => (mkG k (hopD n), mkG k (leadD n), (k : Int))) n.domains.length (by omega) (fun k hk => by
    have hd : inL n.domains (k : Int) := ⟨by omega, by omega⟩
    simp only [labels_begin_L1]
    rw [if_pos (by simpa using hk), hops_spec hg hr hd, Option.bind_some]
    rw [if_pos (roomy_few (by simp [mkG_len]; omega)), routes_spec ho hg hr hd, Option.bind_some]
    rw [if_pos (roomy_few (by simp [mkG_len]; omega)), wr64 (by omega) (by omega), mkG_succ, mkG_succ]
    rfl) (by
    simp only [labels_begin_L1]
    rw [if_neg (by simp)])
  simp only [labels_begin, hmk, if_true]
  have e' : loopM (fun s : (List (List Int)) × (List (List Int)) × Int => match s with | (l3, l4, v5) => labels_begin_L1 n l3 l4 v5) ([], [], 0) = some (mkG n.domains.length (hopD n), mkG n.domains.length (leadD n)) := e
  rw [e']; rfl

theorem eqLab_dec {x y : Labels_Label} : eq_Labels_Label x y = decide (x = y) := by
  cases x; cases y
  rw [Bool.eq_iff_iff]
  simp [eq_Labels_Label]
theorem grow_spec {a1 : List Api_Device} {a2 : List Api_Port} {a3 : List Api_Link} {a4 : List Api_Domain} {a5 : List Api_Static} {a6 : List Api_Flood} {a7 : List Api_Vrf} {a8 : List Api_Irb} {all : List Labels_Label} {n10 : Nat} {q : List Labels_queued} {u v : List (List Int)} {d : Int} {y : Labels_Label} (hd : inL all d) (hq : q.length ≤ 1000000) :
    labels_spread_grow_own a1 a2 a3 a4 a5 a6 a7 a8 all n10 q u v d y = some (growF all q d y) := by
  unfold labels_spread_grow_own growF orL
  rw [if_pos (linT hd), getI_get? hd, Option.bind_some, eqLab_dec]
  by_cases c : (⟨bits_or .i64 (getI all d).plain y.plain, bits_or .i64 (getI all d).led y.led⟩ : Labels_Label) = getI all d
  · rw [if_neg (by simpa using c), if_neg (by simpa using c)]
  · rw [if_pos (by simpa using c), Option.bind_some, if_pos (roomy_few (by simp; omega)), if_pos (by simpa using c)]
theorem growx_spec {a1 : List Api_Device} {a2 : List Api_Port} {a3 : List Api_Link} {a4 : List Api_Domain} {a5 : List Api_Static} {a6 : List Api_Flood} {a7 : List Api_Vrf} {a8 : List Api_Irb} {all : List Labels_Label} {n10 : Nat} {q : List Labels_queued} {u v : List (List Int)} {d : Int} {y : Labels_Label} (hd : inL all d) (hq : q.length ≤ 1000000) :
    labels_spread_grow_ownx a1 a2 a3 a4 a5 a6 a7 a8 all n10 q q.length u v d y = some ((growF all q d y).1, (growF all q d y).2, (growF all q d y).2.length) := by
  unfold labels_spread_grow_ownx growF orL
  rw [if_pos (linT hd), getI_get? hd, Option.bind_some, eqLab_dec]
  by_cases c : (⟨bits_or .i64 (getI all d).plain y.plain, bits_or .i64 (getI all d).led y.led⟩ : Labels_Label) = getI all d
  · rw [if_neg (by simpa using c), if_neg (by simpa using c)]
  · rw [if_pos (by simpa using c), Option.bind_some, if_pos (roomy_few (by simp; omega)), if_pos (by simpa using c)]
/-- A label is handed to all of a list. -/
theorem spread_loop {E R : Int → List Int} {S : Int → Nat → Prop} {N : Nat} (hN : N ≤ 200) {f : (List Labels_Label) × (List Labels_queued) × Nat × Int → Option (((List Labels_Label) × (List Labels_queued) × Nat × Int) ⊕ ((List Labels_Label) × (List Labels_queued) × Nat))} {xs : List Int} {y : Labels_Label} (hx : Few xs)
    (hf : ∀ (all : List Labels_Label) (q : List Labels_queued) j, inL xs j → inL all (getI xs j) → q.length ≤ 1000000 → f (all, q, q.length, j) = some (.inl ((growF all q (getI xs j) y).1, (growF all q (getI xs j) y).2, (growF all q (getI xs j) y).2.length, j + 1)))
    (he : ∀ (all : List Labels_Label) (q : List Labels_queued) (k : Nat), f (all, q, k, xs.length) = some (.inr (all, q, k))) (hy : ∀ x ∈ xs, 0 ≤ x ∧ x < (N : Int) ∧ LbOk E R S x y)
    {all : List Labels_Label} {q : List Labels_queued} (ha : AllOk E R S N all) (hq : (q.length : Int) ≤ pot all) :
    ∃ b r, loopM f (all, q, q.length, 0) = some (b, r, r.length) ∧ Grown E R S N all q b r ∧ ∀ x ∈ xs, subL y (getI b x) := by
  unfold Few at hx
  obtain ⟨⟨b, r, k⟩, e, hk0, h1, h2⟩ := loopM_rule (f := f)
    (fun s => 0 ≤ s.2.2.2 ∧ s.2.2.2 ≤ xs.length ∧ s.2.2.1 = s.2.1.length ∧ Grown E R S N all q s.1 s.2.1 ∧ ∀ j, inL xs j → j < s.2.2.2 → subL y (getI s.1 (getI xs j)))
    (fun r => r.2.2 = r.2.1.length ∧ Grown E R S N all q r.1 r.2.1 ∧ ∀ x ∈ xs, subL y (getI r.1 x)) (fun s => (xs.length - s.2.2.2).toNat) (s := (all, q, q.length, 0)) (fun s hI => by
      obtain ⟨b, r, k, j⟩ := s
      obtain ⟨j0, j1, hk, hG, hK⟩ := hI
      simp only at j0 j1 hk hG hK ⊢
      subst hk
      by_cases c : j < (xs.length : Int)
      · have hj : inL xs j := ⟨j0, c⟩
        obtain ⟨y0, y1, y2⟩ := hy _ (getI_mem hj)
        have hbl := hG.ok.1
        have hd : inL b (getI xs j) := ⟨y0, by omega⟩
        have hpl := pot_le hG.ok
        have hpt := hG.pot
        obtain ⟨g1, g2⟩ := growF_ok (q := r) hG.ok hd y2
        refine ⟨_, hf b r j hj hd (by omega), ⟨by simp only; omega, by simp only; omega, rfl, hG.trans ha g1, fun i hi hij => ?_⟩, by simp only; omega⟩
        simp only at hij
        by_cases e : i = j
        · subst e; exact g2
        · obtain ⟨z0, z1, _⟩ := hy _ (getI_mem hi)
          exact (hK i hi (by omega)).trans (g1.mono _ ⟨z0, by omega⟩)
      · have : j = xs.length := by omega
        subst this
        refine ⟨_, he b r _, rfl, hG, fun x hx => ?_⟩
        obtain ⟨i, hi, rfl⟩ := mem_getI hx
        exact hK i hi hi.2) ⟨by simp, by simp, rfl, Grown.refl ha, fun j hj h => by have := hj.1; simp only at h; omega⟩ (by simp only; omega)
  simp only at hk0
  subst hk0
  exact ⟨b, r, e, h1, h2⟩
/-- Spread to the end. -/
theorem run_spec {S : Int → Nat → Prop} (hN : n.domains.length ≤ 200) (hr : RightP n) (hh : ∀ d, (hopD n d).length ≤ 1000 ∨ ¬ inL n.domains d) (hi : n.irbs.length ≤ 200) {a1 : List Api_Device} {a2 : List Api_Port} {a3 : List Api_Link} {a4 : List Api_Domain} {a5 : List Api_Static} {a6 : List Api_Flood} {a7 : List Api_Vrf} {a8 : List Api_Irb} {n10 : Nat}
    {all : List Labels_Label} {q : List Labels_queued} (ha : AllOk (hopD n) (leadD n) S n.domains.length all) (hq : (q.length : Int) ≤ pot all) (hqe : ∀ x ∈ q, x.done = false ∧ 0 ≤ x.task.domain ∧ x.task.domain < (n.domains.length : Int))
    (hw : ∀ d, inL all d → getI all d = ⟨0, 0⟩ ∨ ∃ x ∈ q, x.task.domain = d) :
    ∃ b r k, labels_spread_run_own a1 a2 a3 a4 a5 a6 a7 a8 all n10 q (mkG n.domains.length (hopD n)) (mkG n.domains.length (leadD n)) = some (b, r, k) ∧ AllOk (hopD n) (leadD n) S n.domains.length b ∧ (∀ d, inL all d → subL (getI all d) (getI b d)) ∧ ∀ d, 0 ≤ d → d < (n.domains.length : Int) → ClosedAt (hopD n) (leadD n) b d := by
  obtain ⟨⟨b, r, k⟩, e, h1, h2, h3⟩ := loopM_rule (f := fun s : (List Labels_Label) × (List Labels_queued) × Nat × Int => match s with | (l14, l15, n16, v17) => labels_spread_run_own_L1 a1 a2 a3 a4 a5 a6 a7 a8 n10 (mkG n.domains.length (hopD n)) (mkG n.domains.length (leadD n)) l14 l15 n16 v17)
    (fun s => 0 ≤ s.2.2.2 ∧ s.2.2.2 ≤ s.2.1.length ∧ s.2.2.1 = s.2.1.length ∧ AllOk (hopD n) (leadD n) S n.domains.length s.1 ∧ (s.2.1.length : Int) ≤ pot s.1 ∧ (∀ j, inL s.2.1 j → s.2.2.2 ≤ j → (getI s.2.1 j).done = false ∧ 0 ≤ (getI s.2.1 j).task.domain ∧ (getI s.2.1 j).task.domain < (n.domains.length : Int)) ∧
      (∀ d, inL all d → subL (getI all d) (getI s.1 d)) ∧ ∀ d, 0 ≤ d → d < (n.domains.length : Int) → (∃ j, inL s.2.1 j ∧ s.2.2.2 ≤ j ∧ (getI s.2.1 j).task.domain = d) ∨ ClosedAt (hopD n) (leadD n) s.1 d)
    (fun r => AllOk (hopD n) (leadD n) S n.domains.length r.1 ∧ (∀ d, inL all d → subL (getI all d) (getI r.1 d)) ∧ ∀ d, 0 ≤ d → d < (n.domains.length : Int) → ClosedAt (hopD n) (leadD n) r.1 d)
    (fun s => (2046 * n.domains.length + 1 - s.2.2.2).toNat) (s := (all, q, q.length, 0)) (fun s hI => by
      obtain ⟨b, r, k, i⟩ := s
      obtain ⟨i0, i1, hk, hA, hP, hE, hM, hC⟩ := hI
      simp only at i0 i1 hk hA hP hE hM hC ⊢
      subst hk
      have hpl := pot_le hA
      by_cases c : i < (r.length : Int)
      · have hir : inL r i := ⟨i0, c⟩
        obtain ⟨d1, d2, d3⟩ := hE i hir (by omega)
        have hsi : inL (List.set r (Int.toNat i) ⟨(getI r i).task, true⟩) i := inL_setI.2 hir
        have hgi : getI (List.set r (Int.toNat i) ⟨(getI r i).task, true⟩) i = ⟨(getI r i).task, true⟩ := by rw [getI_setI hir hir, if_pos rfl]
        generalize hat : (getI r i).task = tk at *
        have hib : inL b tk.domain := ⟨d2, by have := hA.1; omega⟩
        have hin : inL n.domains tk.domain := ⟨d2, d3⟩
        have ie : inL (mkG n.domains.length (hopD n)) tk.domain := mkG_inL.2 ⟨d2, d3⟩
        have il : inL (mkG n.domains.length (leadD n)) tk.domain := mkG_inL.2 ⟨d2, d3⟩
        have hlb := hA.2 _ hib
        have hlen1 : (List.set r (Int.toNat i) (⟨tk, true⟩ : Labels_queued)).length = r.length := List.length_set ..
        have hhl := (hh tk.domain).resolve_right (fun h => h hin)
        have hll : (leadD n tk.domain).length ≤ n.irbs.length := leadD_len
        obtain ⟨b1, r1, e1, G1, K1⟩ := spread_loop (E := hopD n) (R := leadD n) (S := S) hN (xs := hopD n tk.domain) (y := getI b tk.domain) (f := fun s => match s with | (l34, l35, n36, v37) => labels_spread_run_own_L2 a1 a2 a3 a4 a5 a6 a7 a8 n10 (mkG n.domains.length (hopD n)) (mkG n.domains.length (leadD n)) i ⟨tk, true⟩ (getI b tk.domain) (hopD n tk.domain) l34 l35 n36 v37) (by unfold Few; omega)
          (fun all q j hj hd hq => by
            have j0 := hj.1; have j1 := hj.2
            simp only [labels_spread_run_own_L2]
            rw [if_pos (by simpa using j1), nth_getI hj, Option.bind_some, growx_spec hd hq, Option.bind_some, wr64 (by omega) (by omega)]) (fun all q k => by simp [labels_spread_run_own_L2]) (fun x hx => by
            have := hopD_in hr _ d2 d3 x hx
            exact ⟨this.1, this.2, hlb.p0, hlb.p1, hlb.l0, hlb.l1, fun t h => .hop (hlb.sp t h) hx, fun t h => .hop (hlb.sl t h) hx⟩)
          (all := b) (q := List.set r (Int.toNat i) ⟨tk, true⟩) hA (by rw [hlen1]; exact hP)
        have hP1 := G1.pot
        have hpl1 := pot_le G1.ok
        obtain ⟨b2, r2, e2, G2, K2⟩ := spread_loop (E := hopD n) (R := leadD n) (S := S) hN (xs := leadD n tk.domain) (y := ⟨0, (getI b tk.domain).plain⟩) (f := fun s => match s with | (l66, l67, n68, v69) => labels_spread_run_own_L3 a1 a2 a3 a4 a5 a6 a7 a8 n10 (mkG n.domains.length (hopD n)) (mkG n.domains.length (leadD n)) i (getI b tk.domain) (leadD n tk.domain) l66 l67 n68 v69) (by unfold Few; omega)
          (fun all q j hj hd hq => by
            have j0 := hj.1; have j1 := hj.2
            simp only [labels_spread_run_own_L3]
            rw [if_pos (by simpa using j1), nth_getI hj, Option.bind_some, growx_spec hd hq, Option.bind_some, wr64 (by omega) (by omega)]) (fun all q k => by simp [labels_spread_run_own_L3]) (fun x hx => by
            have := leadD_in hr _ d2 d3 x hx
            exact ⟨this.1, this.2, by simp only; omega, by simp only; omega, hlb.p0, hlb.p1, fun t h => (by rw [tb_zero] at h; cases h), fun t h => .route (hlb.sp t h) hx⟩)
          (all := b1) (q := r1) G1.ok (by omega)
        have G := G1.trans hA G2
        have hP2 := G.pot
        rw [hlen1] at hP2
        obtain ⟨ee, rfl, ee1, ee2⟩ := G.ext
        have hlb1 := G1.ok.1
        refine ⟨.inl (b2, List.set r (Int.toNat i) ⟨tk, true⟩ ++ ee, (List.set r (Int.toNat i) ⟨tk, true⟩ ++ ee).length, i + 1), ?_, ⟨by simp only; omega, by simp only [List.length_append, hlen1]; omega, rfl, G.ok, by simp only; omega, fun j hj hji => ?_, fun d hd => ?_, fun d x0 x1 => ?_⟩, by simp only; omega⟩
        · simp only [labels_spread_run_own_L1]
          rw [if_pos (by simpa using c), if_pos (linT hir), getI_get? hir, Option.bind_some, if_neg (by rw [d1]; simp), Option.bind_some, hat, if_pos (linT hsi), getI_get? hsi, Option.bind_some, hgi]
          simp only
          rw [if_pos (linT hib), getI_get? hib, Option.bind_some, if_pos (linT ie), getI_get? ie, Option.bind_some, mkG_get ⟨d2, d3⟩]
          rw [← hlen1, e1, Option.bind_some]
          simp only
          rw [if_pos (linT il), getI_get? il, Option.bind_some, mkG_get ⟨d2, d3⟩, e2, Option.bind_some, wr64 (by omega) (by omega)]
        · simp only at hj hji ⊢
          by_cases e : inL (List.set r (Int.toNat i) (⟨tk, true⟩ : Labels_queued)) j
          · rw [getI_app e, getI_setI hir (inL_setI.1 e), if_neg (by omega)]
            exact hE j (inL_setI.1 e) (by omega)
          · have hm := getI_mem hj
            obtain ⟨m, hm1, hm2⟩ : ∃ m : Nat, j = (List.set r (Int.toNat i) (⟨tk, true⟩ : Labels_queued)).length + m ∧ m < ee.length := by
              have h1 := hj.1; have h2 := hj.2
              rw [List.length_append] at h2
              have : ¬ j < ((List.set r (Int.toNat i) (⟨tk, true⟩ : Labels_queued)).length : Int) := fun h => e ⟨h1, h⟩
              exact ⟨(j - (List.set r (Int.toNat i) (⟨tk, true⟩ : Labels_queued)).length).toNat, by omega, by omega⟩
            have : getI (List.set r (Int.toNat i) (⟨tk, true⟩ : Labels_queued) ++ ee) j ∈ ee := by
              have : (List.set r (Int.toNat i) (⟨tk, true⟩ : Labels_queued) ++ ee)[j.toNat]? = some ee[m] := by
                rw [List.getElem?_append_right (by omega), show j.toNat - (List.set r (Int.toNat i) (⟨tk, true⟩ : Labels_queued)).length = m by omega]
                exact List.getElem?_eq_getElem hm2
              unfold getI; rw [this]; exact List.getElem_mem hm2
            exact ee1 _ this
        · exact (hM d hd).trans (G.mono d ⟨hd.1, by have := hd.2; have := ha.1; have := hA.1; omega⟩)
        · simp only
          have hdb : inL b d := ⟨x0, by have := hA.1; omega⟩
          -- who grew waits
          have wait : (∃ x ∈ ee, x.task.domain = d) → ∃ j, inL (List.set r (Int.toNat i) (⟨tk, true⟩ : Labels_queued) ++ ee) j ∧ i + 1 ≤ j ∧ (getI (List.set r (Int.toNat i) (⟨tk, true⟩ : Labels_queued) ++ ee) j).task.domain = d := by
            rintro ⟨x, hx, hxd⟩
            obtain ⟨m, hm, rfl⟩ := mem_getI hx
            have m0 := hm.1; have m1 := hm.2
            refine ⟨(r.length : Int) + m, ⟨by omega, by rw [List.length_append, hlen1]; omega⟩, by omega, ?_⟩
            have : getI (List.set r (Int.toNat i) (⟨tk, true⟩ : Labels_queued) ++ ee) ((r.length : Int) + m) = getI ee m := by
              unfold getI
              rw [List.getElem?_append_right (by omega)]
              congr 2; omega
            rw [this]; exact hxd
          rcases (ee2 d hdb).symm with hgrew | same
          · exact .inl (wait hgrew)
          by_cases hdt : d = tk.domain
          · subst hdt
            refine .inr ⟨fun h hh' => ?_, fun h hh' t ht => ?_⟩
            · rw [same]
              have hin2 := hopD_in hr _ d2 d3 h hh'
              exact (K1 h hh').trans (G2.mono h ⟨hin2.1, by omega⟩)
            · rw [same] at ht
              exact (K2 h hh').2 t ht
          · rcases hC d x0 x1 with ⟨j, hj, hij, hjd⟩ | hcl
            · refine .inl ⟨j, inL_app (inL_setI.2 hj), ?_, ?_⟩
              · by_cases e : j = i
                · subst e; rw [hat] at hjd; exact absurd hjd.symm hdt
                · omega
              · rw [getI_app (inL_setI.2 hj), getI_setI hir hj, if_neg (by
                  intro e; subst e; rw [hat] at hjd; exact hdt hjd.symm)]
                exact hjd
            · refine .inr ⟨fun h hh' => ?_, fun h hh' t ht => ?_⟩
              · have hin2 := hopD_in hr _ x0 x1 h hh'
                rw [same]
                exact (hcl.1 h hh').trans (G.mono h ⟨hin2.1, by have := hA.1; omega⟩)
              · have hin2 := leadD_in hr _ x0 x1 h hh'
                rw [same] at ht
                exact (G.mono h ⟨hin2.1, by have := hA.1; omega⟩).2 t (hcl.2 h hh' t ht)
      · have : i = r.length := by omega
        subst this
        refine ⟨.inr (b, r, r.length), ?_, hA, hM, fun d x0 x1 => ?_⟩
        · simp only [labels_spread_run_own_L1]
          rw [if_neg (by simp)]
        · rcases hC d x0 x1 with ⟨j, hj, hij, _⟩ | h
          · have := hj.2; omega
          · exact h) ⟨by simp, by simp, rfl, ha, hq, fun j hj _ => hqe _ (getI_mem hj), fun d _ => subL.refl, fun d x0 x1 => by
        have hd : inL all d := ⟨x0, by have := ha.1; omega⟩
        rcases hw d hd with h | ⟨x, hx, h⟩
        · refine .inr ⟨fun h' _ => ?_, fun h' _ t ht => ?_⟩
          · rw [h]; exact ⟨fun t ht => (by rw [tb_zero] at ht; cases ht), fun t ht => (by rw [tb_zero] at ht; cases ht)⟩
          · rw [h, tb_zero] at ht; cases ht
        · obtain ⟨j, hj, rfl⟩ := mem_getI hx
          exact .inl ⟨j, hj, hj.1, h⟩⟩ (by simp only; omega)
  refine ⟨b, r, k, ?_, h1, h2, h3⟩
  unfold labels_spread_run_own
  rw [e]; rfl
end
end Go.Eng
