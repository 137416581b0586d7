/- Plain laws of chapter 35: the reference's ways and steps. -/
import Derived.Test.YtlinloabahbioaaEngW3
set_option linter.unusedVariables false
set_option linter.unusedSectionVars false
set_option linter.unusedSimpArgs false
namespace Go.Eng
open Go Classical
attribute [local congr] ite_cg

section
variable {n : Api_Net}
theorem getI_mapI {α β : Type} [Inhabited α] [Inhabited β] {l : List α} {g : α → β} {i : Int} (h : inL l i) : getI (l.map g) i = g (getI l i) := by
  have := getI_get? h
  unfold getI
  rw [List.getElem?_map, this]; rfl
theorem inL_mapI {α β : Type} {l : List α} {g : α → β} {i : Int} : inL (l.map g) i ↔ inL l i := by simp [inL]
theorem fstI_map {α β : Type} {l : List α} {g : α → β} {P : β → Prop} : fstI (l.map g) P = fstI l (fun x => P (g x)) := by
  unfold fstI; rw [List.findIdx?_map]; rfl
abbrev toldWs (ws : List (List Reach_Hop)) : List (List Palingref35_Hop) := ws.map (List.map toldH)
theorem rpath_in (hg : BndN n 200 100) (hr : RightP n) {a b : Int} {ws : List (List Reach_Hop)} {i : Int} (g : Good domH (hopsI n) n.domains.length (rootH a) ws i) (hi : i < ws.length) :
    loopM (fun s : (List (List Palingref35_Hop)) × (List Int) × Int => match s with | (l15, l16, v17) => palingref35_Path_L2 n b i ((hopsI n (endD domH (getI ws i))).map toldH) l15 l16 v17) (toldWs ws, ws.map (endD domH), 0) =
      some (toldWs ((hopsI n (endD domH (getI ws i))).foldl (addW domH (getI ws i)) ws), ((hopsI n (endD domH (getI ws i))).foldl (addW domH (getI ws i)) ws).map (endD domH)) := by
  have ii : inL ws i := ⟨g.i0, hi⟩
  have hri := g.rng i ii
  have hdi : inL n.domains (endD domH (getI ws i)) := ⟨hri.1, hri.2⟩
  have hhl := hopsI_len hg hdi
  have hdl := hg.domains
  have hHin : ∀ h ∈ hopsI n (endD domH (getI ws i)), h ∈ hopsI n (endD domH (getI ws i)) ∧ 0 ≤ domH h ∧ domH h < (n.domains.length : Int) := fun h hh => ⟨hh, hops_in hr _ hri.1 hri.2 h hh⟩
  generalize hhs : hopsI n (endD domH (getI ws i)) = hs at *
  have := loopM_trace (f := fun s : (List (List Palingref35_Hop)) × (List Int) × Int => match s with | (l15, l16, v17) => palingref35_Path_L2 n b i (hs.map toldH) l15 l16 v17)
    (r := (toldWs (hs.foldl (addW domH (getI ws i)) ws), (hs.foldl (addW domH (getI ws i)) ws).map (endD domH)))
    (fun k => (toldWs ((hs.take k).foldl (addW domH (getI ws i)) ws), ((hs.take k).foldl (addW domH (getI ws i)) ws).map (endD domH), (k : Int))) hs.length (by omega) (fun k hk => by
      have hx : hs[k]? = some hs[k] := List.getElem?_eq_getElem hk
      have htake := take_succ_foldl (f := addW domH (getI ws i)) (b := ws) hx
      have hpre : ws <+: (hs.take k).foldl (addW domH (getI ws i)) ws := fold_pre _ _
      have hge : getI ((hs.take k).foldl (addW domH (getI ws i)) ws) i = getI ws i := pre_get hpre ii
      have hgood := (good_fold (hs.take k) ws g hi rfl (fun h hh => ⟨by rw [hhs]; exact List.mem_of_mem_take hh, (hHin h (List.mem_of_mem_take hh)).2⟩)).1
      have hic : inL ((hs.take k).foldl (addW domH (getI ws i)) ws) i := pre_in hpre ii
      have il : inL (hs.map toldH) (k : Int) := ⟨by omega, by simp; omega⟩
      have ih : inL hs (k : Int) := ⟨by omega, by omega⟩
      have gx : getI (hs.map toldH) (k : Int) = toldH hs[k] := by rw [getI_mapI ih, getI_nat hx]
      have hl := g.lens ii
      have hl2 := g.len
      have hl3 := ii.2
      simp only
      rw [htake]
      generalize (hs.take k).foldl (addW domH (getI ws i)) ws = cur at *
      have hcl := hgood.len
      have iw : inL (toldWs cur) i := inL_mapI.2 hic
      have gw : getI (toldWs cur) i = (getI ws i).map toldH := by rw [getI_mapI hic, hge]
      have gdom : (toldH hs[k]).domain = domH hs[k] := rfl
      have hwk := wr64 (n := (k : Int) + 1) (by omega) (by omega)
      simp only [palingref35_Path_L2]
      rw [if_pos (by simpa using hk), if_pos (linT il), getI_get? il, gx, Option.bind_some, gdom, rIn_spec (by unfold Few; simp; omega), Option.bind_some, hwk]
      by_cases hm : domH hs[k] ∈ cur.map (endD domH)
      · rw [if_pos (decide_eq_true hm), addW, if_pos hm]; rfl
      · rw [if_neg (by simpa using hm), Option.bind_some, if_pos (roomy_few (by simp; omega)), if_pos (linT iw), getI_get? iw, gw, Option.bind_some, if_pos (roomy_few (by simp; omega)), Option.bind_some, if_pos (roomy_few (by simp; omega)), if_pos (roomy_few (by simp; omega)), addW, if_neg hm]
        simp [endD_app, gdom]) (by
      simp only [List.take_length, palingref35_Path_L2]
      rw [if_neg (by simp)])
  simpa using this
theorem rpath_run (hg : BndN n 200 100) (hr : RightP n) {a b : Int} (ha : inL n.domains a) :
    loopM (fun s : (List (List Palingref35_Hop)) × (List Int) × Int => match s with | (l5, l6, v7) => palingref35_Path_L1 n b l5 l6 v7) ([[(⟨0, 0, a, 0⟩ : Palingref35_Hop)]], [a], 0) = some (toldWs (fullW n a), (fullW n a).map (endD domH)) := by
  have hdl := hg.domains
  have hrun := good_run (dom := domH) (hops_in hr) (root := rootH a) ⟨ha.1, ha.2⟩
  have hF := full_good hg hr ha
  have hFl := hF.len
  have hlt : ∀ k : Nat, k < (fullW n a).length → k < (runW domH (hopsI n) (rootH a) k).length := fun k hk => by
    apply Classical.byContradiction
    intro hn
    have := runW_end (dom := domH) (H := hopsI n) (root := rootH a) (k := k) (by omega) n.domains.length (by omega)
    unfold fullW at hk
    rw [this] at hk; omega
  have hK : runW domH (hopsI n) (rootH a) (fullW n a).length = fullW n a := by
    have h1 := (runW_pre2 (dom := domH) (H := hopsI n) (root := rootH a) hFl).length_le
    have h2 := runW_end (dom := domH) (H := hopsI n) (root := rootH a) (k := (fullW n a).length) h1 n.domains.length hFl
    exact h2.symm
  have := loopM_trace (f := fun s : (List (List Palingref35_Hop)) × (List Int) × Int => match s with | (l5, l6, v7) => palingref35_Path_L1 n b l5 l6 v7) (r := (toldWs (fullW n a), (fullW n a).map (endD domH)))
    (fun k => (toldWs (runW domH (hopsI n) (rootH a) k), (runW domH (hopsI n) (rootH a) k).map (endD domH), (k : Int))) (fullW n a).length (by omega) (fun k hk => by
      have c := hlt k hk
      have gk := hrun k
      rw [Int.min_eq_left (by omega)] at gk
      have iq : inL ((runW domH (hopsI n) (rootH a) k).map (endD domH)) (k : Int) := ⟨by omega, by simpa using c⟩
      have ik : inL (runW domH (hopsI n) (rootH a) k) (k : Int) := ⟨by omega, by omega⟩
      have hrx := gk.rng k ik
      simp only [palingref35_Path_L1]
      rw [if_pos (by simpa using c), if_pos (linT iq), getI_get? iq, Option.bind_some, getI_mapI ik, rHops_spec hg hr ⟨hrx.1, hrx.2⟩, Option.bind_some]
      rw [rpath_in hg hr gk (by omega), Option.bind_some, wr64 (by omega) (by omega)]
      simp only [runW, if_pos c]
      rfl) (by
      simp only [hK, palingref35_Path_L1]
      rw [if_neg (by simp)])
  simpa [runW, toldH, endD_one] using this
theorem rPath_spec (hg : BndN n 200 100) (hr : RightP n) {a b : Int} (ha : inL n.domains a) :
    palingref35_Path n a b = some (if 0 ≤ DW domH (fullW n a) b then ((wayI n a b).map toldH, true) else ([], false)) := by
  have hF := full_good hg hr ha
  have hFl := hF.len
  have hdl := hg.domains
  simp only [palingref35_Path]
  rw [if_pos (roomy_few (by simp)), rpath_run hg hr ha, Option.bind_some]
  simp only
  have e := loop_firstv (f := palingref35_Path_L3 b (toldWs (fullW n a)) ((fullW n a).map (endD domH))) ((fullW n a).map (endD domH)) (fun x => x = b) (fun i _ => getI (toldWs (fullW n a)) i) (by unfold Few; simp; omega) (fun i i0 i1 hi => by
    have hi2 := inL_mapI.1 hi
    have hi3 : inL (toldWs (fullW n a)) i := inL_mapI.2 hi2
    simp only [palingref35_Path_L3]
    rw [if_pos (by simpa using i1), if_pos (linT hi), getI_get? hi, Option.bind_some]
    by_cases c : getI ((fullW n a).map (endD domH)) i = b
    · rw [if_pos (by simpa using c), if_pos (linT hi3), getI_get? hi3, Option.bind_some, if_pos c]
    · rw [if_neg (by simpa using c), if_neg c, wr64 (by omega) (by simp at i1; omega)]) (by
    simp only [palingref35_Path_L3]
    rw [if_neg (by simp)])
  rw [e, fstI_map]
  by_cases c : 0 ≤ fstI (fullW n a) (fun w => endD domH w = b)
  · have c2 : 0 ≤ DW domH (fullW n a) b := by
      rw [hF.DW_pos, mem_ends]
      exact ⟨_, fstI_inL.1 c, fstI_is c⟩
    rw [if_pos c, if_pos c2, Option.bind_some]
    simp only
    rw [getI_mapI (fstI_inL.1 c)]
    rfl
  · have c2 : ¬ 0 ≤ DW domH (fullW n a) b := by
      unfold DW; rw [if_neg c]; omega
    rw [if_neg c, if_neg c2, Option.bind_some]

/-! ### Steps by rounds -/
/-- No one is told nearer than it is. -/
def UpB (N : Nat) (D : Int → Int) (l : List Int) (M : Int) : Prop := l.length = N ∧ ∀ d, inL l d → (getI l d = -1 ∨ 0 ≤ D d ∧ D d ≤ getI l d) ∧ getI l d ≤ M
theorem bf_in (hg : BndN n 200 100) (hr : RightP n) {a : Int} {D : Int → Int} (hD : Dist domH (hopsI n) n.domains.length a D) {i : Int} (hi : inL n.domains i) {l11 l : List Int} {v18 M : Int} (hM : 0 ≤ M) (hM2 : M ≤ 1000000000) (hu : UpB n.domains.length D l M) :
    ∃ l', loopM (fun s : (List Int) × Int => match s with | (l26, v27) => palingref35_Steps_L4 n l11 v18 i ((hopsI n i).map toldH) l26 v27) (l, 0) = some l' ∧ UpB n.domains.length D l' (M + 300) ∧
      (∀ x, 0 ≤ D x → getI l x = D x → getI l' x = D x) ∧ (0 ≤ D i → getI l i = D i → ∀ h ∈ hopsI n i, D h.domain = D i + 1 → getI l' h.domain = D h.domain) := by
  have hhl := hopsI_len hg hi
  have hdl := hg.domains
  have hHin := hops_in hr i hi.1 hi.2
  have hHm : ∀ h ∈ hopsI n i, 0 ≤ D i → 0 ≤ D h.domain ∧ D h.domain ≤ D i + 1 := fun h hh h0 => hD.edge i h0 h hh
  generalize hopsI n i = hs at *
  obtain ⟨r, e, h1, h2, h3⟩ := loopM_rule (f := fun s : (List Int) × Int => match s with | (l26, v27) => palingref35_Steps_L4 n l11 v18 i (hs.map toldH) l26 v27)
    (fun s => 0 ≤ s.2 ∧ s.2 ≤ hs.length ∧ UpB n.domains.length D s.1 (M + s.2) ∧ (∀ x, 0 ≤ D x → getI l x = D x → getI s.1 x = D x) ∧ (0 ≤ D i → getI l i = D i → ∀ k, inL hs k → k < s.2 → D (getI hs k).domain = D i + 1 → getI s.1 (getI hs k).domain = D (getI hs k).domain))
    (fun l' => UpB n.domains.length D l' (M + 300) ∧ (∀ x, 0 ≤ D x → getI l x = D x → getI l' x = D x) ∧ (0 ≤ D i → getI l i = D i → ∀ h ∈ hs, D h.domain = D i + 1 → getI l' h.domain = D h.domain))
    (fun s => (hs.length - s.2).toNat) (s := (l, 0)) (fun s hI => by
      obtain ⟨q, k⟩ := s
      obtain ⟨k0, k1, hU, hE, hK⟩ := hI
      simp only at k0 k1 hU hE hK ⊢
      by_cases c : k < (hs.length : Int)
      · have ih : inL hs k := ⟨k0, c⟩
        have il : inL (hs.map toldH) k := inL_mapI.2 ih
        have gx : getI (hs.map toldH) k = toldH (getI hs k) := getI_mapI ih
        have hmem := getI_mem ih
        have hin := hHin _ hmem
        have hm2 := hHm _ hmem
        have hw := wr64 (n := k + 1) (by omega) (by omega)
        have hkey : ∀ k', inL hs k' → k' < k + 1 → k' < k ∨ getI hs k' = getI hs k := fun k' _ h2 => by
          by_cases e : k' = k
          · rw [e]; exact .inr rfl
          · exact .inl (by omega)
        have gdom : (toldH (getI hs k)).domain = (getI hs k).domain := rfl
        generalize getI hs k = h at *
        have hql := hU.1
        have iqi : inL q i := ⟨hi.1, by have := hi.2; omega⟩
        have iqd : inL q h.domain := ⟨hin.1, by have : h.domain < (n.domains.length : Int) := hin.2; omega⟩
        have ui := hU.2 i iqi
        have ud := hU.2 _ iqd
        have hf : palingref35_Steps_L4 n l11 v18 i (hs.map toldH) q k = some (.inl (if 0 ≤ getI q i ∧ (getI q h.domain < 0 ∨ getI q i + 1 < getI q h.domain) then List.set q (Int.toNat h.domain) (getI q i + 1) else q, k + 1)) := by
          simp only [palingref35_Steps_L4]
          rw [if_pos (by simpa using c), if_pos (linT il), getI_get? il, gx, Option.bind_some, if_pos (linT iqi), getI_get? iqi, Option.bind_some, hw, gdom]
          by_cases c1 : 0 ≤ getI q i
          · have hw2 := wr64 (n := getI q i + 1) (by omega) (by omega)
            rw [if_pos (by simpa using c1), if_pos (linT iqd), getI_get? iqd, Option.bind_some]
            by_cases c2 : getI q h.domain < 0
            · rw [if_pos (by simpa using c2), Option.bind_some, Option.bind_some, hw2, if_pos ⟨c1, .inl c2⟩]
            · rw [if_neg (by simpa using c2), Option.bind_some, Option.bind_some, hw2]
              by_cases c3 : getI q i + 1 < getI q h.domain
              · rw [if_pos (by simpa using c3), Option.bind_some, Option.bind_some, hw2, if_pos ⟨c1, .inr c3⟩]
              · rw [if_neg (by simpa using c3), if_neg (by omega)]
          · rw [if_neg (by simpa using c1), if_neg (by omega)]
        refine ⟨_, hf, ?_⟩
        simp only
        by_cases cc : 0 ≤ getI q i ∧ (getI q h.domain < 0 ∨ getI q i + 1 < getI q h.domain)
        · rw [if_pos cc]
          have hgs : ∀ x, inL q x → getI (List.set q (Int.toNat h.domain) (getI q i + 1)) x = if x = h.domain then getI q i + 1 else getI q x := fun x hx => getI_setI iqd hx
          have uq : 0 ≤ D i ∧ D i ≤ getI q i := by rcases ui.1 with e | e <;> omega
          have dd := hm2 uq.1
          have keep : ∀ x, 0 ≤ D x → getI q x = D x → getI (List.set q (Int.toNat h.domain) (getI q i + 1)) x = D x := fun x hx hx2 => by
            have hxr := hD.rng x hx
            have iqx : inL q x := ⟨hxr.1, by omega⟩
            rw [hgs x iqx]
            by_cases e : x = h.domain
            · subst e; omega
            · rw [if_neg e]; exact hx2
          refine ⟨⟨by omega, by omega, ⟨by rw [List.length_set]; exact hql, fun x hx => ?_⟩, fun x hx hx2 => keep x hx (hE x hx hx2), fun hDi hli k' hk' hkk hDk => ?_⟩, by omega⟩
          · have hx := inL_setI.1 hx
            rw [hgs x hx]
            have ux := hU.2 x hx
            by_cases e : x = h.domain
            · subst e; rw [if_pos rfl]; exact ⟨.inr (by omega), by omega⟩
            · rw [if_neg e]; exact ⟨ux.1, by omega⟩
          · rcases hkey k' hk' hkk with h' | h'
            · exact keep _ (by omega) (hK hDi hli k' hk' h' hDk)
            · rw [h'] at hDk ⊢
              rw [hgs _ iqd, if_pos rfl, hE i hDi hli]; omega
        · rw [if_neg cc]
          refine ⟨⟨by omega, by omega, ⟨hql, fun x hx => ⟨(hU.2 x hx).1, by have := (hU.2 x hx).2; omega⟩⟩, hE, fun hDi hli k' hk' hkk hDk => ?_⟩, by omega⟩
          rcases hkey k' hk' hkk with h' | h'
          · exact hK hDi hli k' hk' h' hDk
          · rw [h'] at hDk ⊢
            have := hE i hDi hli
            rcases ud.1 with e | e <;> omega
      · have hkl : k = hs.length := by omega
        subst hkl
        refine ⟨.inr q, by simp only [palingref35_Steps_L4]; rw [if_neg (by simp)], ⟨hU.1, fun x hx => ⟨(hU.2 x hx).1, by have := (hU.2 x hx).2; omega⟩⟩, hE, fun hDi hli h hh hDk => ?_⟩
        obtain ⟨k', hk', rfl⟩ := mem_getI hh
        exact hK hDi hli k' hk' hk'.2 hDk) ⟨by simp, by simp, ⟨hu.1, fun x hx => ⟨(hu.2 x hx).1, by have := (hu.2 x hx).2; simp; omega⟩⟩, fun x _ h => h, fun _ _ k hk hk2 => by have := hk.1; simp only at hk2; omega⟩ (by simp only; omega)
  exact ⟨r, e, h1, h2, h3⟩
theorem bf_round (hg : BndN n 200 100) (hr : RightP n) {a : Int} {D : Int → Int} (hD : Dist domH (hopsI n) n.domains.length a D) {l11 l : List Int} {v18 M : Int} (hM : 0 ≤ M) (hM2 : M ≤ 900000000) (hu : UpB n.domains.length D l M) :
    ∃ l', loopM (fun s : (List Int) × Int => match s with | (l20, v21) => palingref35_Steps_L3 n l11 v18 l20 v21) (l, 0) = some l' ∧ UpB n.domains.length D l' (M + 60000) ∧
      (∀ x, 0 ≤ D x → getI l x = D x → getI l' x = D x) ∧ (∀ i, inL n.domains i → 0 ≤ D i → getI l i = D i → ∀ h ∈ hopsI n i, D h.domain = D i + 1 → getI l' h.domain = D h.domain) := by
  have hdl := hg.domains
  obtain ⟨r, e, h1, h2, h3⟩ := loopM_rule (f := fun s : (List Int) × Int => match s with | (l20, v21) => palingref35_Steps_L3 n l11 v18 l20 v21)
    (fun s => 0 ≤ s.2 ∧ s.2 ≤ n.domains.length ∧ UpB n.domains.length D s.1 (M + 300 * s.2) ∧ (∀ x, 0 ≤ D x → getI l x = D x → getI s.1 x = D x) ∧ (∀ i, inL n.domains i → i < s.2 → 0 ≤ D i → getI l i = D i → ∀ h ∈ hopsI n i, D h.domain = D i + 1 → getI s.1 h.domain = D h.domain))
    (fun l' => UpB n.domains.length D l' (M + 60000) ∧ (∀ x, 0 ≤ D x → getI l x = D x → getI l' x = D x) ∧ (∀ i, inL n.domains i → 0 ≤ D i → getI l i = D i → ∀ h ∈ hopsI n i, D h.domain = D i + 1 → getI l' h.domain = D h.domain))
    (fun s => (n.domains.length - s.2).toNat) (s := (l, 0)) (fun s hI => by
      obtain ⟨q, k⟩ := s
      obtain ⟨k0, k1, hU, hE, hK⟩ := hI
      simp only at k0 k1 hU hE hK ⊢
      by_cases c : k < (n.domains.length : Int)
      · have ik : inL n.domains k := ⟨k0, c⟩
        obtain ⟨q', e, u1, u2, u3⟩ := bf_in hg hr hD ik (l11 := l11) (v18 := v18) (M := M + 300 * k) (by omega) (by omega) hU
        refine ⟨.inl (q', k + 1), ?_, ⟨by simp only; omega, by simp only; omega, ⟨u1.1, fun x hx => ⟨(u1.2 x hx).1, by have := (u1.2 x hx).2; simp only; omega⟩⟩, fun x hx hx2 => u2 x hx (hE x hx hx2), fun i hi hik hDi hli h hh hDh => ?_⟩, by simp only; omega⟩
        · simp only [palingref35_Steps_L3]
          rw [if_pos (by simpa using c), rHops_spec hg hr ik, Option.bind_some]
          rw [e, Option.bind_some, wr64 (by omega) (by omega)]
        · simp only at hik
          by_cases e : i = k
          · subst e; exact u3 hDi (hE _ hDi hli) h hh hDh
          · exact u2 _ (by omega) (hK i hi (by omega) hDi hli h hh hDh)
      · have hkl : k = n.domains.length := by omega
        subst hkl
        exact ⟨.inr q, by simp only [palingref35_Steps_L3]; rw [if_neg (by simp)], ⟨hU.1, fun x hx => ⟨(hU.2 x hx).1, by have := (hU.2 x hx).2; omega⟩⟩, hE, fun i hi => hK i hi hi.2⟩) ⟨by simp, by simp, ⟨hu.1, fun x hx => ⟨(hu.2 x hx).1, by have := (hu.2 x hx).2; simp; omega⟩⟩, fun x _ h => h, fun i hi hk2 => by have := hi.1; simp only at hk2; omega⟩ (by simp only; omega)
  exact ⟨r, e, h1, h2, h3⟩
theorem rSteps_spec (hg : BndN n 200 100) (hr : RightP n) {a : Int} (ha : inL n.domains a) : palingref35_Steps n a = some (mkL n.domains.length (DW domH (fullW n a)), n.domains.length) := by
  have hdl := hg.domains
  have hD := full_dist hg hr ha
  generalize DW domH (fullW n a) = D at *
  have e1 := loop_map (f := fun s : (List Int) × Int => match s with | (l3, v4) => palingref35_Steps_L1 n a l3 v4) n.domains (fun _ => (-1 : Int)) [] (out := fun s => s) (by unfold Few; omega) (fun i s hi hlen => by
    have i0 := hi.1; have i1 := hi.2
    simp only [palingref35_Steps_L1, i1, decide_true, if_true, wr64 (n := i + 1) (by omega) (by omega)]
    rw [if_pos (roomy_few (by simp at hlen ⊢; omega))]) (fun s => by simp [palingref35_Steps_L1])
  simp only [palingref35_Steps, e1, Option.bind_some, List.nil_append]
  have hml : (n.domains.map fun _ => (-1 : Int)).length = n.domains.length := by simp
  have ia : inL (n.domains.map fun _ => (-1 : Int)) a := inL_mapI.2 ha
  have hm1 : ∀ d, inL n.domains d → getI (n.domains.map fun _ => (-1 : Int)) d = -1 := fun d hd => getI_mapI hd
  rw [if_pos (linT ia), getI_get? ia, Option.bind_some]
  generalize hl0 : (n.domains.map fun _ => (-1 : Int)) = l0 at *
  have s1 : ∀ x, inL (List.set l0 (Int.toNat a) 0) x → (getI (List.set l0 (Int.toNat a) 0) x = -1 ∨ 0 ≤ D x ∧ D x ≤ getI (List.set l0 (Int.toNat a) 0) x) ∧ getI (List.set l0 (Int.toNat a) 0) x ≤ 60000 * 0 := fun x hx => by
    have hx := inL_setI.1 hx
    have hxd : inL n.domains x := ⟨hx.1, by have := hx.2; omega⟩
    rw [getI_setI ia hx]
    by_cases c : x = a
    · subst c; rw [if_pos rfl, hD.zero]; simp
    · rw [if_neg c, hm1 x hxd]; simp
  have s2 : ∀ x, 0 ≤ D x → D x ≤ 0 → getI (List.set l0 (Int.toNat a) 0) x = D x := fun x hx hx2 => by
    have := hD.only x (by omega)
    subst this
    rw [getI_setI ia ia, if_pos rfl, hD.zero]
  obtain ⟨r, e, hr1⟩ := loopM_rule (f := fun s : (List Int) × Int => match s with | (l17, v18) => palingref35_Steps_L2 n l0 l17 v18)
    (fun s => 0 ≤ s.2 ∧ s.2 ≤ n.domains.length ∧ UpB n.domains.length D s.1 (60000 * s.2) ∧ (∀ x, 0 ≤ D x → D x ≤ s.2 → getI s.1 x = D x))
    (fun l' => l' = mkL n.domains.length D) (fun s => (n.domains.length - s.2).toNat) (s := (List.set l0 (Int.toNat a) 0, 0)) (fun s hI => by
      obtain ⟨q, k⟩ := s
      obtain ⟨k0, k1, hU, hE⟩ := hI
      simp only at k0 k1 hU hE ⊢
      by_cases c : k < (n.domains.length : Int)
      · obtain ⟨q', e, u1, u2, u3⟩ := bf_round hg hr hD (l11 := l0) (v18 := k) (M := 60000 * k) (by omega) (by omega) hU
        refine ⟨.inl (q', k + 1), ?_, ⟨by simp only; omega, by simp only; omega, ⟨u1.1, fun x hx => ⟨(u1.2 x hx).1, by have := (u1.2 x hx).2; simp only; omega⟩⟩, fun x hx hx2 => ?_⟩, by simp only; omega⟩
        · simp only [palingref35_Steps_L2]
          rw [if_pos (by simpa using c), e, Option.bind_some, wr64 (by omega) (by omega)]
        · simp only at hx2 ⊢
          by_cases c2 : D x ≤ k
          · exact u2 x hx (hE x hx c2)
          · obtain ⟨i, h, g1, g2, rfl⟩ := hD.pre x (by omega)
            have hir := hD.rng i (by omega)
            exact u3 i ⟨hir.1, hir.2⟩ (by omega) (hE i (by omega) (by omega)) h g2 (by have g3 : D i = D h.domain - 1 := g1; omega)
      · have hkl : k = n.domains.length := by omega
        subst hkl
        refine ⟨.inr q, by simp only [palingref35_Steps_L2]; rw [if_neg (by simp)], eq_mkL hU.1 fun x hx => ?_⟩
        have h1 := hU.2 x hx
        have h2 := hD.ge x
        have h3 := hD.lt x
        by_cases c2 : 0 ≤ D x
        · exact hE x c2 (by omega)
        · rcases h1.1 with h | h <;> omega) ⟨by simp, by simp, ⟨by simp [hml], s1⟩, s2⟩ (by simp only; omega)
  rw [e]; subst hr1; simp [hml]
end
end Go.Eng
