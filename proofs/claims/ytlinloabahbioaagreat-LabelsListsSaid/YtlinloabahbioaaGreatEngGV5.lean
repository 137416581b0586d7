/- Part of the proof of LabelsLists: plain laws of the printed mirrors. No conditions. -/
import Derived.Test.YtlinloabahbioaaGreatEngGP1
set_option linter.unusedVariables false
set_option linter.unusedSectionVars false
set_option linter.unusedSimpArgs false
namespace Go.Eng
open Go Classical
attribute [local congr] ite_cg

theorem take_foldl1 {α β : Type} {f : β → α → β} {l : List α} {b : β} {k : Nat} {x : α} (h : l[k]? = some x) : (l.take (k + 1)).foldl f b = f ((l.take k).foldl f b) x := by
  rw [List.take_add_one, h]; simp
section
variable {n : Api_Net} {of : List Int}
theorem r42J6 {v48 i k h : Int} {l56 : List Palingref35_Hop} {l57 l58 : List Bool} (hk : inL l56 k) (hh : (getI l56 k).domain = h) (h1 : inL l57 h) (h2 : inL l57 i) : palingref42_reached_J6 n v48 i l56 l57 l58 k = some (stepB i h l57) := by
  unfold palingref42_reached_J6 stepB
  rw [if_pos (linT hk), getI_get? hk, Option.bind_some, Option.bind_some, hh, if_pos (linT h1), getI_get? h1, Option.bind_some]
  cases c : getI l57 h
  · rw [if_neg (by simp), if_pos (linT h2), getI_get? h2, Option.bind_some, if_pos (linT h1), Option.bind_some]; simp
  · rw [if_pos rfl, if_pos (linT h1), Option.bind_some]; simp
theorem hopD_len (hg : BndN n 200 100) {d : Int} (hd : inL n.domains d) : (hopD n d).length ≤ 300 := by unfold hopD; rw [List.length_map]; exact hopsI_len hg hd
theorem r42_L5 (hg : BndN n 200 100) (hr : RightP n) {i v48 : Int} (hi : inL n.domains i) {p l : List Bool} (hp : p.length = n.domains.length) (hl : l.length = n.domains.length) :
    loopM (fun s : (List Bool) × (List Bool) × Int => match s with | (l57, l58, v59) => palingref42_reached_L5 n v48 i ((hopsI n i).map toldH) l57 l58 v59) (p, l, 0) = some (passI i (hopD n i) p, passI i (hopD n i) l) := by
  have hhl := hopD_len hg hi
  have hHl : (hopsI n i).length = (hopD n i).length := by unfold hopD; simp
  have hHin := hopD_in hr i hi.1 hi.2
  have := loopM_trace (f := fun s : (List Bool) × (List Bool) × Int => match s with | (l57, l58, v59) => palingref42_reached_L5 n v48 i ((hopsI n i).map toldH) l57 l58 v59) (r := (passI i (hopD n i) p, passI i (hopD n i) l))
    (fun k => (passI i ((hopD n i).take k) p, passI i ((hopD n i).take k) l, (k : Int))) (hopD n i).length (by omega) (fun k hk => by
      have hx : (hopD n i)[k]? = some (hopD n i)[k] := List.getElem?_eq_getElem hk
      have t1 : ∀ q, passI i ((hopD n i).take (k + 1)) q = stepB i (hopD n i)[k] (passI i ((hopD n i).take k) q) := fun q => take_foldl1 hx
      have hb := hHin _ (List.getElem_mem hk)
      have ik : inL ((hopsI n i).map toldH) (k : Int) := ⟨by omega, by simp; omega⟩
      have ik2 : inL (hopsI n i) (k : Int) := ⟨by omega, by omega⟩
      have gd : (getI ((hopsI n i).map toldH) (k : Int)).domain = (hopD n i)[k] := by
        have h1 := getI_get? ik2
        rw [Int.toNat_natCast] at h1
        have h2 : ((hopsI n i).map toldH)[k]? = some (toldH (getI (hopsI n i) (k : Int))) := by rw [List.getElem?_map, h1]; rfl
        have h3 : (hopD n i)[k]? = some (getI (hopsI n i) (k : Int)).domain := by unfold hopD; rw [List.getElem?_map, h1]; rfl
        rw [h3] at hx
        rw [getI_nat h2]
        exact Option.some.inj hx
      rw [t1, t1]
      have q1 : (passI i ((hopD n i).take k) p).length = n.domains.length := by rw [passI_len]; exact hp
      have q2 : (passI i ((hopD n i).take k) l).length = n.domains.length := by rw [passI_len]; exact hl
      generalize passI i ((hopD n i).take k) p = P at *
      generalize passI i ((hopD n i).take k) l = L at *
      generalize (hopD n i)[k] = h at *
      have i1 : inL P h := ⟨hb.1, by omega⟩
      have i2 : inL P i := ⟨hi.1, by have := hi.2; omega⟩
      have i3 : inL L h := ⟨hb.1, by omega⟩
      have i4 : inL L i := ⟨hi.1, by have := hi.2; omega⟩
      have hlt : (k : Int) < (((hopsI n i).map toldH).length : Int) := ik.2
      simp only [palingref42_reached_L5]
      rw [if_pos (decide_eq_true hlt), r42J6 ik gd i1 i2, Option.bind_some]
      rw [if_pos (linT ik), getI_get? ik, Option.bind_some, Option.bind_some, gd, if_pos (linT i3), getI_get? i3, Option.bind_some, wr64 (by omega) (by omega)]
      cases c : getI L h
      · rw [if_neg (by simp), if_pos (linT i4), getI_get? i4, Option.bind_some, if_pos (linT i3), Option.bind_some]; simp [stepB, c]
      · rw [if_pos rfl, if_pos (linT i3), Option.bind_some]; simp [stepB, c]) (by
      simp only [palingref42_reached_L5]
      rw [if_neg (by simp [hHl]), List.take_length])
  simpa [passI] using this
theorem r42_L4 (hg : BndN n 200 100) (hr : RightP n) {v48 : Int} {p l : List Bool} (hp : p.length = n.domains.length) (hl : l.length = n.domains.length) :
    loopM (fun s : (List Bool) × (List Bool) × Int => match s with | (l50, l51, v52) => palingref42_reached_L4 n v48 l50 l51 v52) (p, l, 0) = some (passK (hopD n) n.domains.length p, passK (hopD n) n.domains.length l) := by
  have hdl := hg.domains
  exact loopM_trace (f := fun s : (List Bool) × (List Bool) × Int => match s with | (l50, l51, v52) => palingref42_reached_L4 n v48 l50 l51 v52) (r := (passK (hopD n) n.domains.length p, passK (hopD n) n.domains.length l))
    (fun k => (passK (hopD n) k p, passK (hopD n) k l, (k : Int))) n.domains.length (by omega) (fun k hk => by
      have hd : inL n.domains (k : Int) := ⟨by omega, by omega⟩
      simp only [palingref42_reached_L4]
      rw [if_pos (by simpa using hk), rHops_spec hg hr hd, Option.bind_some]
      rw [r42_L5 hg hr hd (by rw [passK_len]; exact hp) (by rw [passK_len]; exact hl), Option.bind_some, wr64 (by omega) (by omega)]
      rfl) (by
      simp only [palingref42_reached_L4]
      rw [if_neg (by simp)])
theorem rleads (hn : n.Ok) (hg : BndN n 200 100) (hr : RightP n) {i : Int} (hi : inL n.domains i) : ∃ ls : List Palingref36_Lead, palingref36_Routes n i = some ls ∧ ls.length ≤ 200 ∧ ∀ d, d ∈ leadD n i ↔ ∃ x ∈ ls, x.domain = d := by
  have hs := hg.sm
  have hb := (hr.bare i hi).2.2.2.2.2.1
  by_cases c : (getI n.domains i).irb = -1
  · refine ⟨[], refRoutes_none (fun h => h.2 c), by simp, fun d => ?_⟩
    unfold leadD; rw [if_pos (by omega)]; simp
  · have h0 : ¬ (getI n.domains i).irb < 0 := by
      rcases hb with h | h
      · exact absurd h c
      · have := h.1.1; omega
    refine ⟨_, refRoutes_some hn hs hg.irbs hr hi c, by rw [List.length_map]; exact Nat.le_trans leads36_len hg.irbs, fun d => ?_⟩
    unfold leadD; rw [if_neg h0, List.mem_map]
    constructor
    · rintro ⟨x, hx, rfl⟩; exact ⟨conv36 x, List.mem_map.2 ⟨x, hx, rfl⟩, rfl⟩
    · rintro ⟨y, hy, rfl⟩
      obtain ⟨x, hx, rfl⟩ := List.mem_map.1 hy
      exact ⟨x, hx, rfl⟩
theorem r42_L8 {v48 i : Int} {p l : List Bool} {N : Nat} (hp : p.length = N) (hl : l.length = N) (hi : 0 ≤ i ∧ i < (N : Int)) {ls : List Palingref36_Lead} (hls : ls.length ≤ 200) (hb : ∀ x ∈ ls, 0 ≤ x.domain ∧ x.domain < (N : Int)) :
    ∃ l', loopM (fun s : (List Bool) × Int => match s with | (l150, v151) => palingref42_reached_L8 n v48 p i ls l150 v151) (l, 0) = some l' ∧ l'.length = N ∧ ∀ d, inL l d → (getI l' d = true ↔ getI l d = true ∨ getI p i = true ∧ ∃ x ∈ ls, x.domain = d) := by
  obtain ⟨l', e, h1, h2⟩ := loopM_rule (f := fun s : (List Bool) × Int => match s with | (l150, v151) => palingref42_reached_L8 n v48 p i ls l150 v151)
    (fun s => 0 ≤ s.2 ∧ s.2 ≤ ls.length ∧ s.1.length = N ∧ ∀ d, inL l d → (getI s.1 d = true ↔ getI l d = true ∨ getI p i = true ∧ ∃ j, inL ls j ∧ j < s.2 ∧ (getI ls j).domain = d))
    (fun l' => l'.length = N ∧ ∀ d, inL l d → (getI l' d = true ↔ getI l d = true ∨ getI p i = true ∧ ∃ x ∈ ls, x.domain = d)) (fun s => (ls.length - s.2).toNat) (s := (l, 0)) (fun s hI => by
      obtain ⟨q, j⟩ := s
      obtain ⟨j0, j1, hq, hK⟩ := hI
      simp only at j0 j1 hq hK ⊢
      by_cases c : j < (ls.length : Int)
      · have hj : inL ls j := ⟨j0, c⟩
        have hbx := hb _ (getI_mem hj)
        have ih : inL q (getI ls j).domain := ⟨hbx.1, by omega⟩
        have ip : inL p i := ⟨hi.1, by omega⟩
        refine ⟨.inl (q.set (getI ls j).domain.toNat (getI q (getI ls j).domain || getI p i), j + 1), ?_, ⟨by simp only; omega, by simp only; omega, by simp only [List.length_set]; exact hq, fun d hd => ?_⟩, by simp only; omega⟩
        · simp only [palingref42_reached_L8]
          rw [if_pos (by simpa using c), if_pos (linT hj), getI_get? hj, Option.bind_some, Option.bind_some, if_pos (linT ih), getI_get? ih, Option.bind_some, wr64 (by omega) (by omega)]
          cases c2 : getI q (getI ls j).domain
          · rw [if_neg (by simp), if_pos (linT ip), getI_get? ip, Option.bind_some, if_pos (linT ih), Option.bind_some]; simp
          · rw [if_pos rfl, if_pos (linT ih), Option.bind_some]; simp
        · have hdq : inL q d := ⟨hd.1, by have := hd.2; omega⟩
          simp only
          rw [getI_setI ih hdq]
          have hk := hK d hd
          by_cases e : d = (getI ls j).domain
          · rw [if_pos e, Bool.or_eq_true, ← e, hk]
            constructor
            · rintro ((h | ⟨h1, k, k1, k2, k3⟩) | h)
              · exact .inl h
              · exact .inr ⟨h1, k, k1, by omega, k3⟩
              · exact .inr ⟨h, j, hj, by omega, e.symm⟩
            · rintro (h | ⟨h1, k, k1, k2, k3⟩)
              · exact .inl (.inl h)
              · exact .inr h1
          · rw [if_neg e, hk]
            constructor
            · rintro (h | ⟨h1, k, k1, k2, k3⟩)
              · exact .inl h
              · exact .inr ⟨h1, k, k1, by omega, k3⟩
            · rintro (h | ⟨h1, k, k1, k2, k3⟩)
              · exact .inl h
              · refine .inr ⟨h1, k, k1, ?_, k3⟩
                by_cases e2 : k = j
                · subst e2; exact absurd k3.symm e
                · omega
      · have : j = ls.length := by omega
        subst this
        refine ⟨.inr q, by simp only [palingref42_reached_L8]; rw [if_neg (by simp)], hq, fun d hd => ?_⟩
        rw [hK d hd]
        constructor
        · rintro (h | ⟨h1, k, k1, k2, k3⟩)
          · exact .inl h
          · exact .inr ⟨h1, _, getI_mem k1, k3⟩
        · rintro (h | ⟨h1, x, hx, k3⟩)
          · exact .inl h
          · obtain ⟨k, k1, rfl⟩ := mem_getI hx
            exact .inr ⟨h1, k, k1, k1.2, k3⟩) ⟨by simp, by simp, hl, fun d hd => ⟨.inl, fun h => h.elim id (fun ⟨_, k, k1, k2, _⟩ => by have := k1.1; simp only at k2; omega)⟩⟩ (by simp only; omega)
  exact ⟨l', e, h1, h2⟩
theorem r42_L7 (hn : n.Ok) (hg : BndN n 200 100) (hr : RightP n) {p l : List Bool} (hp : p.length = n.domains.length) (hl : l.length = n.domains.length) :
    ∃ l', loopM (fun s : (List Bool) × Int => match s with | (l143, v144) => palingref42_reached_L7 n (n.domains.length : Int) p l143 v144) (l, 0) = some l' ∧ l'.length = n.domains.length ∧ ∀ d, inL l d → (getI l' d = true ↔ getI l d = true ∨ ∃ i, inL n.domains i ∧ getI p i = true ∧ d ∈ leadD n i) := by
  have hdl := hg.domains
  obtain ⟨l', e, h1, h2⟩ := loopM_rule (f := fun s : (List Bool) × Int => match s with | (l143, v144) => palingref42_reached_L7 n (n.domains.length : Int) p l143 v144)
    (fun s => 0 ≤ s.2 ∧ s.2 ≤ n.domains.length ∧ s.1.length = n.domains.length ∧ ∀ d, inL l d → (getI s.1 d = true ↔ getI l d = true ∨ ∃ i, inL n.domains i ∧ i < s.2 ∧ getI p i = true ∧ d ∈ leadD n i))
    (fun l' => l'.length = n.domains.length ∧ ∀ d, inL l d → (getI l' d = true ↔ getI l d = true ∨ ∃ i, inL n.domains i ∧ getI p i = true ∧ d ∈ leadD n i)) (fun s => (n.domains.length - s.2).toNat) (s := (l, 0)) (fun s hI => by
      obtain ⟨q, j⟩ := s
      obtain ⟨j0, j1, hq, hK⟩ := hI
      simp only at j0 j1 hq hK ⊢
      by_cases c : j < (n.domains.length : Int)
      · have hj : inL n.domains j := ⟨j0, c⟩
        obtain ⟨ls, e1, e2, e3⟩ := rleads hn hg hr hj
        obtain ⟨q', k1, k2, k3⟩ := r42_L8 (n := n) (v48 := (n.domains.length : Int)) hp hq ⟨j0, c⟩ e2 (fun x hx => leadD_in hr j j0 c x.domain ((e3 _).2 ⟨x, hx, rfl⟩))
        refine ⟨.inl (q', j + 1), ?_, ⟨by simp only; omega, by simp only; omega, k2, fun d hd => ?_⟩, by simp only; omega⟩
        · simp only [palingref42_reached_L7]
          rw [if_pos (by simpa using c), if_pos (by simp), e1, Option.bind_some]
          rw [k1, Option.bind_some, wr64 (by omega) (by omega)]
        · simp only
          rw [k3 d ⟨hd.1, by have := hd.2; omega⟩, hK d hd, ← e3 d]
          constructor
          · rintro ((h | ⟨i, i1, i2, i3, i4⟩) | ⟨h1, h2⟩)
            · exact .inl h
            · exact .inr ⟨i, i1, by omega, i3, i4⟩
            · exact .inr ⟨j, hj, by omega, h1, h2⟩
          · rintro (h | ⟨i, i1, i2, i3, i4⟩)
            · exact .inl (.inl h)
            · by_cases e : i = j
              · subst e; exact .inr ⟨i3, i4⟩
              · exact .inl (.inr ⟨i, i1, by omega, i3, i4⟩)
      · have : j = n.domains.length := by omega
        subst this
        refine ⟨.inr q, by simp only [palingref42_reached_L7]; rw [if_neg (by simp)], hq, fun d hd => ?_⟩
        rw [hK d hd]
        constructor
        · rintro (h | ⟨i, i1, i2, i3, i4⟩)
          · exact .inl h
          · exact .inr ⟨i, i1, i3, i4⟩
        · rintro (h | ⟨i, i1, i3, i4⟩)
          · exact .inl h
          · exact .inr ⟨i, i1, i1.2, i3, i4⟩) ⟨by simp, by simp, hl, fun d hd => ⟨.inl, fun h => h.elim id (fun ⟨k, k1, k2, _⟩ => by have := k1.1; simp only at k2; omega)⟩⟩ (by simp only; omega)
  exact ⟨l', e, h1, h2⟩
theorem r42_L7no {p l : List Bool} {r : Int} (h : r ≠ n.domains.length) : loopM (fun s : (List Bool) × Int => match s with | (l143, v144) => palingref42_reached_L7 n r p l143 v144) (l, 0) = some l :=
  loopM_trace (f := fun s : (List Bool) × Int => match s with | (l143, v144) => palingref42_reached_L7 n r p l143 v144) (r := l) (fun _ => (l, 0)) 0 (by decide) (fun i hi => by omega) (by
    simp only [palingref42_reached_L7]
    by_cases c : (0 : Int) < (n.domains.length : Int)
    · rw [if_pos (by simpa using c), if_neg (by simpa using h)]
    · rw [if_neg (by simpa using c)])
theorem r42_seeds (hg : BndN n 200 100) (ho : OwnP n of) {t : Nat} : ∃ p, loopM (fun s : (List Bool) × Int => match s with | (l5, v6) => palingref42_reached_L1 n of (t : Int) l5 v6) (List.replicate n.domains.length false, 0) = some p ∧ p.length = n.domains.length ∧ ∀ d, inL n.domains d → (getI p d = true ↔ seedP n of d t) := by
  have hs := hg.sm
  have hdl := hg.domains
  have hrep : ∀ d, inL n.domains d → getI (List.replicate n.domains.length false) d = false := fun d hd => List.eq_of_mem_replicate (getI_mem ⟨hd.1, by simpa using hd.2⟩)
  obtain ⟨p, e, h1, h2⟩ := loopM_rule (f := fun s : (List Bool) × Int => match s with | (l5, v6) => palingref42_reached_L1 n of (t : Int) l5 v6)
    (fun s => 0 ≤ s.2 ∧ s.2 ≤ n.domains.length ∧ s.1.length = n.domains.length ∧ ∀ d, inL n.domains d → (getI s.1 d = true ↔ d < s.2 ∧ seedP n of d t))
    (fun p => p.length = n.domains.length ∧ ∀ d, inL n.domains d → (getI p d = true ↔ seedP n of d t)) (fun s => (n.domains.length - s.2).toNat) (s := (List.replicate n.domains.length false, 0)) (fun s hI => by
      obtain ⟨q, i⟩ := s
      obtain ⟨i0, i1, hq, hK⟩ := hI
      simp only at i0 i1 hq hK ⊢
      by_cases c : i < (n.domains.length : Int)
      · have hi : inL n.domains i := ⟨i0, c⟩
        have hiq : inL q i := ⟨i0, by omega⟩
        have hml : (membersL n i).length ≤ 200 := Nat.le_trans membersL_len hg.ports
        obtain ⟨q', e1, k1, k2, k3⟩ := loopM_rule (f := fun s : (List Bool) × Int => match s with | (l11, v12) => palingref42_reached_L2 n of (t : Int) i (membersL n i) l11 v12)
          (fun s => 0 ≤ s.2 ∧ s.2 ≤ (membersL n i).length ∧ s.1.length = n.domains.length ∧ (∀ d, inL n.domains d → d ≠ i → getI s.1 d = getI q d) ∧ (getI s.1 i = true ↔ ∃ j, inL (membersL n i) j ∧ j < s.2 ∧ getI of (getI (membersL n i) j) = (t : Int)))
          (fun q' => q'.length = n.domains.length ∧ (∀ d, inL n.domains d → d ≠ i → getI q' d = getI q d) ∧ (getI q' i = true ↔ ∃ p ∈ membersL n i, getI of p = (t : Int))) (fun s => ((membersL n i).length - s.2).toNat) (s := (q, 0)) (fun s hI => by
            obtain ⟨u, j⟩ := s
            obtain ⟨j0, j1, hu, hM, hN⟩ := hI
            simp only at j0 j1 hu hM hN ⊢
            by_cases c : j < ((membersL n i).length : Int)
            · have hj : inL (membersL n i) j := ⟨j0, c⟩
              obtain ⟨hio, _⟩ := owner_ok ho (membersL_in (getI_mem hj))
              have hiu : inL u i := ⟨i0, by omega⟩
              refine ⟨.inl (u.set i.toNat (getI u i || (getI of (getI (membersL n i) j) == (t : Int))), j + 1), ?_, ⟨by simp only; omega, by simp only; omega, by simp only [List.length_set]; exact hu, fun d hd hdi => ?_, ?_⟩, by simp only; omega⟩
              · simp only [palingref42_reached_L2]
                rw [if_pos (by simpa using c), if_pos (linT hiu), getI_get? hiu, Option.bind_some, wr64 (by omega) (by omega)]
                cases c2 : getI u i
                · rw [if_neg (by simp), if_pos (linT hj), getI_get? hj, Option.bind_some, nth_getI hio, Option.bind_some, Option.bind_some]; simp
                · rw [if_pos rfl, Option.bind_some]; simp
              · simp only
                rw [getI_setI hiu ⟨hd.1, by have := hd.2; omega⟩, if_neg hdi]; exact hM d hd hdi
              · simp only
                rw [getI_setI hiu hiu, if_pos rfl, Bool.or_eq_true, hN, beq_iff_eq]
                constructor
                · rintro (⟨k, k1, k2, k3⟩ | h)
                  · exact ⟨k, k1, by omega, k3⟩
                  · exact ⟨j, hj, by omega, h⟩
                · rintro ⟨k, k1, k2, k3⟩
                  by_cases e : k = j
                  · subst e; exact .inr k3
                  · exact .inl ⟨k, k1, by omega, k3⟩
            · have : j = (membersL n i).length := by omega
              subst this
              refine ⟨.inr u, by simp only [palingref42_reached_L2]; rw [if_neg (by simp)], hu, hM, hN.trans ⟨fun ⟨k, k1, _, k3⟩ => ⟨_, getI_mem k1, k3⟩, fun ⟨p, hp, hpt⟩ => by
                obtain ⟨k, k1, rfl⟩ := mem_getI hp
                exact ⟨k, k1, k1.2, hpt⟩⟩⟩) ⟨by simp, by simp, hq, fun d _ _ => rfl, ⟨fun h => absurd ((hK i hi).1 h).1 (by omega), fun ⟨k, k1, k2, _⟩ => by have := k1.1; simp only at k2; omega⟩⟩ (by simp only; omega)
        refine ⟨.inl (q', i + 1), ?_, ⟨by simp only; omega, by simp only; omega, k1, fun d hd => ?_⟩, by simp only; omega⟩
        · simp only [palingref42_reached_L1]
          rw [if_pos (by simpa using c), rMembers_spec hs, if_pos hi, Option.bind_some]
          rw [e1, Option.bind_some, wr64 (by omega) (by omega)]
        · simp only
          by_cases e : d = i
          · subst e
            rw [k3]
            exact ⟨fun h => ⟨by omega, hd, h⟩, fun h => h.2.2⟩
          · rw [k2 d hd e, hK d hd]
            exact ⟨fun h => ⟨by omega, h.2⟩, fun h => ⟨by omega, h.2⟩⟩
      · have : i = n.domains.length := by omega
        subst this
        exact ⟨.inr q, by simp only [palingref42_reached_L1]; rw [if_neg (by simp)], hq, fun d hd => (hK d hd).trans ⟨fun h => h.2, fun h => ⟨hd.2, h⟩⟩⟩) ⟨by simp, by simp, by simp, fun d hd => by rw [hrep d hd]; exact ⟨fun h => by simp at h, fun h => absurd h.1 (by have := hd.1; simp only; omega)⟩⟩ (by simp only; omega)
  exact ⟨p, e, h1, h2⟩
end
end Go.Eng

set_option linter.unusedVariables false
set_option linter.unusedSectionVars false
set_option linter.unusedSimpArgs false
namespace Go.Eng
open Go Classical
attribute [local congr] ite_cg

section
variable {n : Api_Net} {of : List Int}
theorem pass_sound {Q : Int → Prop} (hr : RightP n) (hQ : ∀ i x, 0 ≤ i → i < (n.domains.length : Int) → Q i → x ∈ hopD n i → Q x) {l : List Bool} (hl : l.length = n.domains.length) (h : ∀ d, inL n.domains d → getI l d = true → Q d) :
    ∀ d, inL n.domains d → getI (passK (hopD n) n.domains.length l) d = true → Q d := by
  refine passK_all (N := n.domains.length) (hopD_in hr) (P := fun l => ∀ d, inL n.domains d → getI l d = true → Q d) n.domains.length l (Nat.le_refl _) hl h (fun l i x i0 i1 hx hl hi hp d hd ht => ?_)
  rw [stepB_get hi ⟨hd.1, by have := hd.2; omega⟩] at ht
  by_cases e : d = x
  · rw [if_pos e, Bool.or_eq_true] at ht
    rcases ht with ht | ht
    · subst e; exact hp d hd ht
    · rw [e]; exact hQ i x i0 i1 (hp i ⟨i0, i1⟩ ht) hx
  · rw [if_neg e] at ht; exact hp d hd ht
theorem pass_keep (hr : RightP n) {l : List Bool} (hl : l.length = n.domains.length) {d : Int} (hd : inL n.domains d) (h : getI l d = true) : getI (passK (hopD n) n.domains.length l) d = true :=
  passK_all (N := n.domains.length) (hopD_in hr) (P := fun l => getI l d = true) n.domains.length l (Nat.le_refl _) hl h (fun l i x i0 i1 hx hl hi hp => stepB_mono hi ⟨hd.1, by have := hd.2; omega⟩ hp)
theorem num_pos {l : List Bool} {d : Int} (hd : inL l d) (h : getI l d = true) : 1 ≤ numT l := by
  have h1 := cnt_set (x := false) hd
  have h2 : 0 ≤ numT (l.set d.toNat false) := by
    unfold numT
    generalize l.set d.toNat false = q
    induction q with
    | nil => simp
    | cons a q ih =>
      rw [List.map_cons, List.sum_cons]
      have : 0 ≤ oneB a := by unfold oneB; split <;> omega
      omega
  rw [h] at h1
  simp [oneB] at h1
  omega
theorem reached_spec (hn : n.Ok) (hg : BndN n 200 100) (ho : OwnP n of) {t : Nat} : ∃ p l, palingref42_reached n of (t : Int) = some (p, l) ∧ p.length = n.domains.length ∧ l.length = n.domains.length ∧ (∀ d, inL n.domains d → (getI p d = true ↔ DerN n of false d t)) ∧ ∀ d, inL n.domains d → (getI l d = true ↔ DerN n of true d t) := by
  have hr := ho.2.1
  have hdl := hg.domains
  have hmk : mkok 1 (n.domains.length : Int) (n.domains.length : Int) = true := by unfold mkok; simp; omega
  obtain ⟨p0, e0, hp0, hs0⟩ := r42_seeds hg ho (t := t)
  have hlrep : ∀ d, inL n.domains d → getI (List.replicate n.domains.length false) d = false := fun d hd => List.eq_of_mem_replicate (getI_mem ⟨hd.1, by simpa using hd.2⟩)
  have hQp : ∀ i x, 0 ≤ i → i < (n.domains.length : Int) → DerN n of false i t → x ∈ hopD n i → DerN n of false x t := fun i x _ _ h hx => .hop h hx
  have hQl : ∀ i x, 0 ≤ i → i < (n.domains.length : Int) → DerN n of true i t → x ∈ hopD n i → DerN n of true x t := fun i x _ _ h hx => .hop h hx
  -- what is closed, and has its seeds
  have full : ∀ p : List Bool, ClB (hopD n) n.domains.length p → (∀ d, inL n.domains d → seedP n of d t → getI p d = true) → ∀ k d t', Der (hopD n) (leadD n) (seedP n of) k d t' → t' = t → k = false → inL n.domains d ∧ getI p d = true := by
    intro p hc hs k d t' h
    induction h with
    | seed h => intro e _; subst e; exact ⟨h.1, hs _ h.1 h⟩
    | @hop k d x t' h hx ih =>
      intro e ek
      obtain ⟨i1, i2⟩ := ih e ek
      exact ⟨hopD_in hr d i1.1 i1.2 x hx, hc d i1.1 i1.2 x hx i2⟩
    | route h hx ih => intro _ ek; cases ek
  have fullL : ∀ l : List Bool, ClB (hopD n) n.domains.length l → (∀ i, inL n.domains i → DerN n of false i t → ∀ m ∈ leadD n i, getI l m = true) → ∀ k d t', Der (hopD n) (leadD n) (seedP n of) k d t' → t' = t → inL n.domains d ∧ (k = true → getI l d = true) := by
    intro l hc hs k d t' h
    induction h with
    | seed h => intro _; exact ⟨h.1, fun e => by cases e⟩
    | @hop k d x t' h hx ih =>
      intro e
      obtain ⟨i1, i2⟩ := ih e
      exact ⟨hopD_in hr d i1.1 i1.2 x hx, fun ek => hc d i1.1 i1.2 x hx (i2 ek)⟩
    | @route d x t' h hx ih =>
      intro e
      obtain ⟨i1, _⟩ := ih e
      subst e
      exact ⟨leadD_in hr d i1.1 i1.2 x hx, fun _ => hs d i1 h x hx⟩
  have h2N := wr64 (n := 2 * (n.domains.length : Int)) (by omega) (by omega)
  obtain ⟨⟨p, l⟩, e, k1, k2, k3, k4⟩ := loopM_rule (f := fun s : (List Bool) × (List Bool) × Int => match s with | (l46, l47, v48) => palingref42_reached_L3 n l46 l47 v48)
    (fun s => 0 ≤ s.2.2 ∧ s.2.2 ≤ 2 * n.domains.length ∧ s.1.length = n.domains.length ∧ s.2.1.length = n.domains.length ∧
      (∀ d, inL n.domains d → getI s.1 d = true → DerN n of false d t) ∧ (∀ d, inL n.domains d → seedP n of d t → getI s.1 d = true) ∧ (ClB (hopD n) n.domains.length s.1 ∨ s.2.2 ≤ numT s.1) ∧
      (s.2.2 ≤ n.domains.length → ∀ d, inL n.domains d → getI s.2.1 d = false) ∧
      (n.domains.length < s.2.2 → (∀ d, inL n.domains d → getI s.2.1 d = true → DerN n of true d t) ∧ (∀ i, inL n.domains i → DerN n of false i t → ∀ m ∈ leadD n i, getI s.2.1 m = true) ∧ (ClB (hopD n) n.domains.length s.2.1 ∨ s.2.2 - n.domains.length ≤ numT s.2.1)))
    (fun r => r.1.length = n.domains.length ∧ r.2.length = n.domains.length ∧ (∀ d, inL n.domains d → (getI r.1 d = true ↔ DerN n of false d t)) ∧ ∀ d, inL n.domains d → (getI r.2 d = true ↔ DerN n of true d t))
    (fun s => (2 * n.domains.length - s.2.2).toNat) (s := (p0, List.replicate n.domains.length false, 0)) (fun s hI => by
      obtain ⟨p, l, r⟩ := s
      obtain ⟨r0, r1, hp, hl, a1, a2, a3, b1, b2⟩ := hI
      simp only at r0 r1 hp hl a1 a2 a3 b1 b2 ⊢
      by_cases c : r < 2 * (n.domains.length : Int)
      · have hw := wr64 (n := r + 1) (by omega) (by omega)
        have p1 : (passK (hopD n) n.domains.length p).length = n.domains.length := by rw [passK_len]; exact hp
        have l1 : (passK (hopD n) n.domains.length l).length = n.domains.length := by rw [passK_len]; exact hl
        have a1' := pass_sound hr hQp hp a1
        have a2' : ∀ d, inL n.domains d → seedP n of d t → getI (passK (hopD n) n.domains.length p) d = true := fun d hd hs => pass_keep hr hp hd (a2 d hd hs)
        have a3' := rounds_closed (hopD_in hr) hp a3
        by_cases cN : r = n.domains.length
        · -- the round of the routes
          have pc : ClB (hopD n) n.domains.length (passK (hopD n) n.domains.length p) := full_closed (hopD_in hr) p1 (a3'.imp id (fun h => by omega))
          have hpf : ∀ i, inL n.domains i → (getI (passK (hopD n) n.domains.length p) i = true ↔ DerN n of false i t) := fun i hi => ⟨a1' i hi, fun h => (full _ pc a2' false i t h rfl rfl).2⟩
          have lf : ∀ d, inL n.domains d → getI (passK (hopD n) n.domains.length l) d = false := fun d hd => by
            have hcl : ClB (hopD n) n.domains.length l := fun i i0 i1 h hh ht => by rw [b1 (by omega) i ⟨i0, i1⟩] at ht; cases ht
            rw [passK_same (hopD_in hr) hl hcl _ (Nat.le_refl _)]
            exact b1 (by omega) d hd
          obtain ⟨l', e1, e2, e3⟩ := r42_L7 hn hg hr p1 l1
          have e4 : ∀ d, inL n.domains d → (getI l' d = true ↔ ∃ i, inL n.domains i ∧ DerN n of false i t ∧ d ∈ leadD n i) := fun d hd => by
            rw [e3 d ⟨hd.1, by have := hd.2; omega⟩, lf d hd]
            constructor
            · rintro (h | ⟨i, i1, i2, i3⟩)
              · cases h
              · exact ⟨i, i1, (hpf i i1).1 i2, i3⟩
            · rintro ⟨i, i1, i2, i3⟩
              exact .inr ⟨i, i1, (hpf i i1).2 i2, i3⟩
          refine ⟨.inl (passK (hopD n) n.domains.length p, l', r + 1), ?_, ⟨by simp only; omega, by simp only; omega, p1, e2, a1', a2', a3', fun h => by simp only at h; omega, fun _ => ⟨fun d hd h => ?_, fun i hi h m hm => ?_, ?_⟩⟩, by simp only; omega⟩
          · simp only [palingref42_reached_L3]
            rw [h2N, if_pos (by simpa using c), r42_L4 hg hr hp hl, Option.bind_some]
            simp only
            rw [cN, e1, Option.bind_some, ← cN, hw]
          · obtain ⟨i, i1, i2, i3⟩ := (e4 d hd).1 h
            exact .route i2 i3
          · have := leadD_in hr i hi.1 hi.2 m hm
            exact (e4 m ⟨this.1, this.2⟩).2 ⟨i, hi, h, hm⟩
          · by_cases ex : ∃ d, inL n.domains d ∧ getI l' d = true
            · obtain ⟨d, hd, h⟩ := ex
              have := num_pos (l := l') (d := d) ⟨hd.1, by have := hd.2; omega⟩ h
              exact .inr (by simp only; omega)
            · exact .inl (fun i i0 i1 h hh ht => absurd ⟨i, ⟨i0, i1⟩, ht⟩ ex)
        · refine ⟨.inl (passK (hopD n) n.domains.length p, passK (hopD n) n.domains.length l, r + 1), ?_, ⟨by simp only; omega, by simp only; omega, p1, l1, a1', a2', a3', fun h d hd => ?_, fun h => ?_⟩, by simp only; omega⟩
          · simp only [palingref42_reached_L3]
            rw [h2N, if_pos (by simpa using c), r42_L4 hg hr hp hl, Option.bind_some]
            simp only
            rw [r42_L7no cN, Option.bind_some, hw]
          · simp only at h ⊢
            have hcl : ClB (hopD n) n.domains.length l := fun i i0 i1 h' hh ht => by rw [b1 (by omega) i ⟨i0, i1⟩] at ht; cases ht
            rw [passK_same (hopD_in hr) hl hcl _ (Nat.le_refl _)]
            exact b1 (by omega) d hd
          · simp only at h ⊢
            obtain ⟨c1, c2, c3⟩ := b2 (by omega)
            refine ⟨pass_sound hr hQl hl c1, fun i hi hd m hm => ?_, ?_⟩
            · have := leadD_in hr i hi.1 hi.2 m hm
              exact pass_keep hr hl ⟨this.1, this.2⟩ (c2 i hi hd m hm)
            · have := rounds_closed (hopD_in hr) hl c3
              exact this.imp id (fun h => by omega)
      · have hr2 : r = 2 * n.domains.length := by omega
        refine ⟨.inr (p, l), ?_, hp, hl, fun d hd => ⟨a1 d hd, fun h => ?_⟩, fun d hd => ?_⟩
        · simp only [palingref42_reached_L3]
          rw [h2N, if_neg (by simpa using c)]
        · have pc : ClB (hopD n) n.domains.length p := full_closed (hopD_in hr) hp (a3.imp id (fun h => by omega))
          exact (full _ pc a2 false d t h rfl rfl).2
        · have hd1 := hd.1; have hd2 := hd.2
          obtain ⟨c1, c2, c3⟩ := b2 (by omega)
          have lc : ClB (hopD n) n.domains.length l := full_closed (hopD_in hr) hl (c3.imp id (fun h => by omega))
          exact ⟨c1 d hd, fun h => (fullL _ lc c2 true d t h rfl).2 rfl⟩) ⟨by simp, by simp only; omega, hp0, by simp, fun d hd h => .seed ((hs0 d hd).1 h), fun d hd h => (hs0 d hd).2 h, .inr (by
        have : 0 ≤ numT p0 := by
          unfold numT
          generalize p0 = q
          induction q with
          | nil => simp
          | cons a q ih =>
            rw [List.map_cons, List.sum_cons]
            have : 0 ≤ oneB a := by unfold oneB; split <;> omega
            omega
        exact this), fun _ d hd => hlrep d hd, fun h => by simp only at h; omega⟩ (by simp only; omega)
  refine ⟨p, l, ?_, k1, k2, k3, k4⟩
  simp only [palingref42_reached, hmk, if_true, Int.toNat_natCast]
  rw [e0, Option.bind_some]
  rw [e]; rfl

/-! ### All labels -/
noncomputable def setN (P : Nat → Prop) : Nat → Int
  | 0 => 0
  | k + 1 => setN P k + if P k then ((2 ^ k : Nat) : Int) else 0
theorem setN_nat (P : Nat → Prop) : ∀ k, ∃ m : Nat, setN P k = (m : Int) ∧ m < 2 ^ k ∧ ∀ t, m.testBit t = decide (t < k ∧ P t)
  | 0 => ⟨0, rfl, by simp, fun t => by simp⟩
  | k + 1 => by
    obtain ⟨m, e, h1, h2⟩ := setN_nat P k
    by_cases c : P k
    · refine ⟨2 ^ k + m, by rw [setN, e, if_pos c]; omega, by rw [Nat.pow_succ]; omega, fun t => ?_⟩
      by_cases e1 : t = k
      · subst e1
        rw [Nat.testBit_two_pow_add_eq, h2]
        simp [c]
      · by_cases e2 : t < k
        · rw [Nat.testBit_two_pow_add_gt (by omega), h2]
          simp [e2, show t < k + 1 by omega]
        · have : 2 ^ k + m < 2 ^ t := by
            have h3 : 2 ^ (k + 1) ≤ 2 ^ t := Nat.pow_le_pow_right (by decide) (by omega)
            rw [Nat.pow_succ] at h3
            omega
          rw [Nat.testBit_lt_two_pow this]
          simp [show ¬ t < k + 1 by omega]
    · refine ⟨m, by rw [setN, e, if_neg c]; omega, by rw [Nat.pow_succ]; omega, fun t => ?_⟩
      rw [h2]
      by_cases e1 : t = k
      · subst e1; simp [c]
      · have : t < k + 1 ↔ t < k := by omega
        simp [this]
theorem setN_b (P : Nat → Prop) : 0 ≤ setN P 10 ∧ setN P 10 < 1024 ∧ ∀ t, tb (setN P 10) t = decide (t < 10 ∧ P t) := by
  obtain ⟨m, e, h1, h2⟩ := setN_nat P 10
  rw [e]
  exact ⟨by omega, by omega, fun t => by unfold tb; rw [Int.toNat_natCast]; exact h2 t⟩
theorem setN_le (P : Nat → Prop) {k : Nat} (hk : k ≤ 10) : 0 ≤ setN P k ∧ setN P k < 1024 := by
  obtain ⟨m, e, h1, h2⟩ := setN_nat P k
  have : 2 ^ k ≤ 2 ^ 10 := Nat.pow_le_pow_right (by decide) hk
  omega
theorem powL {t : Nat} (h : t < 10) : inL [(1 : Int), 2, 4, 8, 16, 32, 64, 128, 256, 512] (t : Int) ∧ getI [(1 : Int), 2, 4, 8, 16, 32, 64, 128, 256, 512] (t : Int) = ((2 ^ t : Nat) : Int) := by
  have key : ∀ t : Fin 10, getI [(1 : Int), 2, 4, 8, 16, 32, 64, 128, 256, 512] ((t.val : Nat) : Int) = ((2 ^ t.val : Nat) : Int) := by decide
  exact ⟨⟨by omega, by simp; omega⟩, key ⟨t, h⟩⟩
end
end Go.Eng

set_option linter.unusedVariables false
set_option linter.unusedSectionVars false
set_option linter.unusedSimpArgs false
namespace Go.Eng
open Go Classical
attribute [local congr] ite_cg

theorem works42 : palinglaw42_works = some true := by kernel_rfl
theorem shift_bit {x : Int} (x0 : 0 ≤ x) (x1 : x < 1000000000000) {t : Nat} (ht : t ≤ 64) : bits_and .i64 (Int.fdiv x (2 ^ (min (Int.toNat (t : Int)) 64))) 1 = if tb x t = true then 1 else 0 := by
  have hm : min (Int.toNat (t : Int)) 64 = t := by omega
  rw [hm]
  have e1 : Int.fdiv x (2 ^ t) = ((x.toNat / 2 ^ t : Nat) : Int) := by
    rw [Int.fdiv_eq_ediv_of_nonneg _ (by exact Int.le_of_lt (Int.pow_pos (by decide)))]
    conv => lhs; rw [show x = ((x.toNat : Nat) : Int) by omega]
    simp
  have hle : x.toNat / 2 ^ t ≤ x.toNat := Nat.div_le_self _ _
  rw [e1]
  generalize hy : x.toNat / 2 ^ t = y at *
  have e2 : (BitVec.ofInt 64 ((y : Nat) : Int) &&& BitVec.ofInt 64 1).toNat = y % 2 := by
    rw [ofInt_nat _ _ (Int.natCast_nonneg _), ofInt_nat _ _ (by decide), BitVec.toNat_and, BitVec.toNat_ofNat, BitVec.toNat_ofNat, Int.toNat_natCast, Nat.mod_eq_of_lt (by omega)]
    exact Nat.and_one_is_mod y
  show wr_i64 (((BitVec.ofInt 64 ((y : Nat) : Int) &&& BitVec.ofInt 64 1).toNat : Nat) : Int) = _
  rw [e2, wr64 (by omega) (by omega)]
  unfold tb
  rw [Nat.testBit_eq_decide_div_mod_eq, hy]
  by_cases c : y % 2 = 1
  · rw [if_pos (decide_eq_true c), c]; rfl
  · rw [if_neg (by simpa using c), show y % 2 = 0 by omega]; rfl
end Go.Eng

set_option linter.unusedVariables false
set_option linter.unusedSectionVars false
set_option linter.unusedSimpArgs false
namespace Go.Eng
open Go Classical
attribute [local congr] ite_cg

section
variable {n : Api_Net} {of : List Int}
theorem der_seed {k : Bool} {d : Int} {t : Nat} (h : DerN n of k d t) : ∃ x p, p ∈ membersL n x ∧ getI of p = (t : Int) := by
  induction h with
  | @seed d t h => exact ⟨d, h.2.choose, h.2.choose_spec⟩
  | hop _ _ ih => exact ih
  | route _ _ ih => exact ih
noncomputable def rlab (n : Api_Net) (of : List Int) (t : Nat) (d : Int) : Palingref42_Label := ⟨setN (fun s => DerN n of false d s) t, setN (fun s => DerN n of true d s) t⟩
theorem r42All_L2 (hN : n.domains.length ≤ 200) {t : Nat} (ht : t < 10) {p l : List Bool} (hp : p.length = n.domains.length) (hl : l.length = n.domains.length) (h1 : ∀ d, inL n.domains d → (getI p d = true ↔ DerN n of false d t)) (h2 : ∀ d, inL n.domains d → (getI l d = true ↔ DerN n of true d t)) :
    loopM (fun s : (List Palingref42_Label) × Int => match s with | (l18, v19) => palingref42_All_L2 n of (t : Int) p l l18 v19) (mkG n.domains.length (rlab n of t), 0) = some (mkG n.domains.length (rlab n of (t + 1))) := by
  obtain ⟨iP, gP⟩ := powL ht
  have hpw := pow_1024 ht
  have hpw0 : (0 : Int) ≤ ((2 ^ t : Nat) : Int) := Int.natCast_nonneg _
  obtain ⟨q, e, hq⟩ := loopM_rule (f := fun s : (List Palingref42_Label) × Int => match s with | (l18, v19) => palingref42_All_L2 n of (t : Int) p l l18 v19)
    (fun s => 0 ≤ s.2 ∧ s.2 ≤ n.domains.length ∧ s.1.length = n.domains.length ∧ ∀ d, inL n.domains d → getI s.1 d = if d < s.2 then rlab n of (t + 1) d else rlab n of t d)
    (fun q => q = mkG n.domains.length (rlab n of (t + 1))) (fun s => (n.domains.length - s.2).toNat) (s := (mkG n.domains.length (rlab n of t), 0)) (fun s hI => by
      obtain ⟨q, j⟩ := s
      obtain ⟨j0, j1, hq, hK⟩ := hI
      simp only at j0 j1 hq hK ⊢
      by_cases c : j < (n.domains.length : Int)
      · have hj : inL n.domains j := ⟨j0, c⟩
        have ip : inL p j := ⟨j0, by omega⟩
        have il : inL l j := ⟨j0, by omega⟩
        have iq : inL q j := ⟨j0, by omega⟩
        have hv := hK j hj
        rw [if_neg (by omega)] at hv
        have b1 := setN_le (fun s => DerN n of false j s) (k := t) (by omega)
        have b2 := setN_le (fun s => DerN n of true j s) (k := t) (by omega)
        have hJ : palingref42_All_J3 n of (t : Int) p l q j = some (q.set j.toNat ⟨setN (fun s => DerN n of false j s) (t + 1), setN (fun s => DerN n of true j s) t⟩) := by
          unfold palingref42_All_J3
          rw [if_pos (linT ip), getI_get? ip, Option.bind_some]
          by_cases c1 : getI p j = true
          · rw [if_pos c1, if_pos (linT iq), getI_get? iq, Option.bind_some, palingref42_powers, Option.bind_some]
            rw [if_pos (linT iP), getI_get? iP, Option.bind_some, Option.bind_some, gP, hv, rlab, setN, if_pos ((h1 j hj).1 c1)]
            simp only
            rw [wr64 (by omega) (by omega)]
          · rw [if_neg c1]
            have : (⟨setN (fun s => DerN n of false j s) (t + 1), setN (fun s => DerN n of true j s) t⟩ : Palingref42_Label) = getI q j := by
              rw [hv, rlab, setN, if_neg (fun h => c1 ((h1 j hj).2 h))]; simp
            rw [this, set_same iq]
        have iq2 : inL (q.set j.toNat ⟨setN (fun s => DerN n of false j s) (t + 1), setN (fun s => DerN n of true j s) t⟩) j := inL_setI.2 iq
        have gq2 : getI (q.set j.toNat ⟨setN (fun s => DerN n of false j s) (t + 1), setN (fun s => DerN n of true j s) t⟩) j = ⟨setN (fun s => DerN n of false j s) (t + 1), setN (fun s => DerN n of true j s) t⟩ := by rw [getI_setI iq iq, if_pos rfl]
        refine ⟨.inl (q.set j.toNat (rlab n of (t + 1) j), j + 1), ?_, ⟨by simp only; omega, by simp only; omega, by simp only [List.length_set]; exact hq, fun d hd => ?_⟩, by simp only; omega⟩
        · simp only [palingref42_All_L2]
          rw [if_pos (by simpa using c), hJ, Option.bind_some]
          rw [if_pos (linT il), getI_get? il, Option.bind_some, wr64 (n := j + 1) (by omega) (by omega)]
          by_cases c2 : getI l j = true
          · rw [if_pos c2, if_pos (linT iq2), getI_get? iq2, Option.bind_some, palingref42_powers, Option.bind_some]
            rw [if_pos (linT iP), getI_get? iP, Option.bind_some, Option.bind_some, gP, gq2, List.set_set]
            simp only
            rw [wr64 (by omega) (by omega), rlab]
            have : setN (fun s => DerN n of true j s) (t + 1) = setN (fun s => DerN n of true j s) t + ((2 ^ t : Nat) : Int) := by rw [setN, if_pos ((h2 j hj).1 c2)]
            rw [this]
          · rw [if_neg c2, rlab]
            have : setN (fun s => DerN n of true j s) (t + 1) = setN (fun s => DerN n of true j s) t := by rw [setN, if_neg (fun h => c2 ((h2 j hj).2 h))]; simp
            rw [this]
        · have hdq : inL q d := ⟨hd.1, by have := hd.2; omega⟩
          simp only
          rw [getI_setI iq hdq, hK d hd]
          by_cases e : d = j
          · rw [if_pos e, if_pos (by omega), e]
          · rw [if_neg e]
            by_cases e2 : d < j
            · rw [if_pos e2, if_pos (by omega)]
            · rw [if_neg e2, if_neg (by omega)]
      · have : j = n.domains.length := by omega
        subst this
        refine ⟨.inr q, by simp only [palingref42_All_L2]; rw [if_neg (by simp)], list_eqI.2 ⟨by rw [mkG_len]; exact hq, fun d hd => ?_⟩⟩
        have hdd : inL n.domains d := ⟨hd.1, by have := hd.2; omega⟩
        show getI q d = getI (mkG n.domains.length (rlab n of (t + 1))) d
        rw [hK d hdd, if_pos hdd.2, mkG_get ⟨hdd.1, hdd.2⟩]) ⟨by simp, by simp, mkG_len, fun d hd => by rw [if_neg (by have := hd.1; simp only; omega)]; exact mkG_get ⟨hd.1, hd.2⟩⟩ (by simp only; omega)
  rw [e, hq]
theorem rAll42_no (hs : SmN n) (hf : Few of) (h : ¬ OwnP n of) : palingref42_All n of = some ([], 0, false) := by
  simp only [palingref42_All, rOwners_Right_spec hs hf, Option.bind_some, decide_eq_false h, Bool.not_false, if_true]
theorem rAll42_spec (hn : n.Ok) (hg : BndN n 200 100) (hf : Few of) (ho : OwnP n of) : palingref42_All n of = some (mkG n.domains.length (rlab n of 10), n.domains.length, true) := by
  have hs := hg.sm
  have hdl := hg.domains
  have hmk : mkok 16 (n.domains.length : Int) (n.domains.length : Int) = true := by unfold mkok; simp; omega
  have hz : List.replicate n.domains.length (⟨0, 0⟩ : Palingref42_Label) = mkG n.domains.length (rlab n of 0) := by
    refine list_eqI.2 ⟨by simp [mkG_len], fun d hd => ?_⟩
    have hd' : 0 ≤ d ∧ d < (n.domains.length : Int) := ⟨hd.1, by simpa using hd.2⟩
    show getI _ d = getI _ d
    rw [List.eq_of_mem_replicate (getI_mem hd), mkG_get hd']; rfl
  have e := loopM_trace (f := fun s : (List Palingref42_Label) × Int => match s with | (l7, v8) => palingref42_All_L1 n of l7 v8) (r := mkG n.domains.length (rlab n of 10)) (fun t => (mkG n.domains.length (rlab n of t), (t : Int))) 10 (by decide) (fun t ht => by
    simp only [palingref42_All_L1]
    rw [if_pos (by simp; omega), rOf_spec hf, Option.bind_some, wr64 (by omega) (by omega)]
    by_cases c : ofL of (t : Int) = []
    · rw [if_pos (by rw [c]; rfl)]
      have hno : ∀ k d, ¬ DerN n of k d t := fun k d h => by
        obtain ⟨x, p, hp, hpt⟩ := der_seed h
        have hi := (owner_ok ho (membersL_in hp)).1
        have : p ∈ ofL of (t : Int) := mem_gatherI.2 ⟨p, hi, hpt, rfl⟩
        rw [c] at this; cases this
      have : rlab n of (t + 1) = rlab n of t := by
        funext d
        unfold rlab
        rw [setN, setN, if_neg (hno _ _), if_neg (hno _ _)]; simp
      rw [this]; rfl
    · rw [if_neg (by
        have : (ofL of (t : Int)).length ≠ 0 := fun h => c (List.eq_nil_of_length_eq_zero h)
        simp; exact c)]
      obtain ⟨p, l, e, h1, h2, h3, h4⟩ := reached_spec hn hg ho (t := t)
      rw [e, Option.bind_some]
      simp only
      rw [r42All_L2 hdl ht h1 h2 h3 h4, Option.bind_some]
      rfl) (by simp only [palingref42_All_L1]; rw [if_neg (by simp)])
  have e' : loopM (fun s : (List Palingref42_Label) × Int => match s with | (l7, v8) => palingref42_All_L1 n of l7 v8) (mkG n.domains.length (rlab n of 0), 0) = some (mkG n.domains.length (rlab n of 10)) := e
  simp only [palingref42_All, rOwners_Right_spec hs hf, Option.bind_some, decide_eq_true ho, Bool.not_true, Bool.false_eq_true, if_false, hmk, if_true, Int.toNat_natCast]
  rw [hz, e']; rfl
theorem lab_same {b : List Labels_Label} (hb : AllF n of b) (ho : OwnP n of) {d : Int} (hd : inL n.domains d) : (getI b d).plain = (rlab n of 10 d).plain ∧ (getI b d).led = (rlab n of 10 d).led := by
  have hlb := hb.ok.2 d ⟨hd.1, by have := hd.2; have := hb.ok.1; omega⟩
  have hhi : ∀ k t, DerN n of k d t → t < 10 := fun k t h => by
    obtain ⟨x, p, hp, hpt⟩ := der_seed h
    have := (owner_ok ho (membersL_in hp)).2
    omega
  constructor
  · obtain ⟨s0, s1, s2⟩ := setN_b (fun s => DerN n of false d s)
    refine tb_eq hlb.p0 s0 (fun t => ?_)
    rw [Bool.eq_iff_iff, hb.plain d hd t]
    show _ ↔ tb (setN (fun s => DerN n of false d s) 10) t = true
    rw [s2 t, decide_eq_true_eq]
    exact ⟨fun h => ⟨hhi _ _ h, h⟩, fun h => h.2⟩
  · obtain ⟨s0, s1, s2⟩ := setN_b (fun s => DerN n of true d s)
    refine tb_eq hlb.l0 s0 (fun t => ?_)
    rw [Bool.eq_iff_iff, hb.led d hd t]
    show _ ↔ tb (setN (fun s => DerN n of true d s) 10) t = true
    rw [s2 t, decide_eq_true_eq]
    exact ⟨fun h => ⟨hhi _ _ h, h⟩, fun h => h.2⟩
def hasP (x t : Int) : Prop := 0 ≤ t ∧ t < 10 ∧ tb x t.toNat = true
theorem has_spec {x t : Int} (x0 : 0 ≤ x) (x1 : x < 1000000000000) : labels_has x t = some (decide (hasP x t)) := by
  unfold labels_has hasP
  by_cases c1 : t ≥ 0
  · by_cases c2 : t < 10
    · rw [if_pos (by simpa using c1), if_pos (by simpa using c2), if_pos (by simpa using c1)]
      have h := shift_bit x0 x1 (t := t.toNat) (by omega)
      rw [show ((t.toNat : Nat) : Int) = t by omega] at h
      rw [h]
      cases c3 : tb x t.toNat <;> simp [c1, c2]
    · rw [if_pos (by simpa using c1), if_neg (by simpa using c2)]; simp [c2]
  · rw [if_neg (by simpa using c1)]; simp; omega
theorem rHas_spec {x t : Int} (x0 : 0 ≤ x) (x1 : x < 1000000000000) : palingref42_Has x t = some (decide (hasP x t)) := by
  unfold palingref42_Has hasP
  by_cases c1 : t < 0
  · rw [if_pos (by simpa using c1)]; simp; omega
  · by_cases c2 : t > 9
    · rw [if_neg (by simpa using c1), if_pos (by simpa using c2)]; simp; omega
    · obtain ⟨k, rfl⟩ : ∃ k : Nat, t = (k : Int) := ⟨t.toNat, by omega⟩
      obtain ⟨iP, gP⟩ := powL (t := k) (by omega)
      have hp := Nat.two_pow_pos k
      rw [if_neg (by simp), if_neg (by simpa using c2), if_neg (by simp; omega), palingref42_powers, Option.bind_some]
      have e1 : Int.tdiv x ((2 ^ k : Nat) : Int) = ((x.toNat / 2 ^ k : Nat) : Int) := by
        rw [Int.tdiv_eq_ediv_of_nonneg x0]
        conv => lhs; rw [show x = ((x.toNat : Nat) : Int) by omega]
        simp
      have hle : x.toNat / 2 ^ k ≤ x.toNat := Nat.div_le_self _ _
      have hne : (((2 ^ k : Nat) : Int) != 0) = true := by
        simp only [bne_iff_ne, ne_eq]
        intro h
        have : (2 ^ k : Nat) = 0 := Int.ofNat.inj h
        omega
      rw [if_pos (linT iP), getI_get? iP, Option.bind_some, gP, if_pos hne, e1]
      unfold tb
      rw [Int.toNat_natCast, Nat.testBit_eq_decide_div_mod_eq]
      generalize x.toNat / 2 ^ k = y at *
      rw [wr64 (by omega) (by omega)]
      have e2 : Int.tmod ((y : Nat) : Int) 2 = ((y % 2 : Nat) : Int) := by
        rw [Int.tmod_eq_emod_of_nonneg (by omega)]; simp
      rw [e2]
      by_cases c3 : y % 2 = 1
      · rw [c3]; simp; omega
      · rw [show y % 2 = 0 by omega]; simp
end
end Go.Eng

set_option linter.unusedVariables false
set_option linter.unusedSectionVars false
set_option linter.unusedSimpArgs false
namespace Go.Eng
open Go Classical
attribute [local congr] ite_cg
section
theorem rInts_spec {l r : List Int} (hb : Few l) : palingref03_Ints l r = some (decide (l = r)) := by
  by_cases hl : l.length = r.length
  · have hli : ¬ ((l.length : Int) ≠ (r.length : Int)) := by omega
    simp only [palingref03_Ints, ibne, decide_eq_true_eq, if_neg hli]
    rw [loop_eq l r hl hb (fun i h0 h1 h2 h3 => by
      simp (disch := omega) only [palingref03_Ints_L1, h1, nth_getI h2, nth_getI h3, wr64, bind_ite, Option.bind_some, dif1, dif2, dif3, dif4, dif5, dif6, dif7, dnot, ibeq, ibne, decide_eq_true_eq, if_not2, ge_iff_le, gt_iff_lt, fst_ret, Bool.false_eq_true, decide_false, mrg1, mrg2, mrg3, mrg4, mrg5, mrg6, mrg7, decide_true, if_true]; exact fpos Iff.rfl) (by simp [palingref03_Ints_L1])]
    simp only [bind_ite, Option.bind_some, dif1, dif2, dif3, dif4, dif5, dif6, dif7, dnot, ibeq, ibne, decide_eq_true_eq, if_not2, ge_iff_le, gt_iff_lt, fst_ret, Bool.false_eq_true, decide_false]
  · have hli : ((l.length : Int) ≠ (r.length : Int)) := by omega
    have : ¬ l = r := fun e => hl (by rw [e])
    simp [palingref03_Ints, hli, this]
end
end Go.Eng

set_option linter.unusedVariables false
set_option linter.unusedSectionVars false
set_option linter.unusedSimpArgs false
namespace Go.Eng
open Go Classical
attribute [local congr] ite_cg

theorem okU32v {x : Int} (h : okI .u32 x) : 0 ≤ x ∧ x < 4294967296 := ⟨h.1, by have : x ≤ 4294967295 := h.2; omega⟩
section
variable {n : Api_Net} {of : List Int}
noncomputable def picks (k : Nat) (P : Int → Prop) : List Int := ((List.range k).map fun (i : Nat) => (i : Int)).filter fun i => decide (P i)
theorem picks_succ {k : Nat} {P : Int → Prop} : picks (k + 1) P = if P (k : Int) then picks k P ++ [(k : Int)] else picks k P := by
  unfold picks
  rw [List.range_succ, List.map_append, List.filter_append]
  by_cases c : P (k : Int)
  · rw [if_pos c]; simp [c]
  · rw [if_neg c]; simp [c]
theorem picks_len {k : Nat} {P : Int → Prop} : (picks k P).length ≤ k := by
  unfold picks
  refine Nat.le_trans (List.length_filter_le _ _) (by simp)
theorem picks_congr {k : Nat} {P Q : Int → Prop} (h : ∀ i : Int, 0 ≤ i → i < (k : Int) → (P i ↔ Q i)) : picks k P = picks k Q := by
  induction k with
  | zero => rfl
  | succ k ih =>
    rw [picks_succ, picks_succ, ih (fun i i0 i1 => h i i0 (by omega))]
    have := h k (by omega) (by omega)
    by_cases c : P (k : Int)
    · rw [if_pos c, if_pos (this.1 c)]
    · rw [if_neg c, if_neg (fun q => c (this.2 q))]
theorem names_spec42 {x : Int} (x0 : 0 ≤ x) (x1 : x < 1000000000000) : labels_Names x = some (picks 10 (hasP x)) := by
  have e := loopM_trace (f := fun s : (List Int) × Int => match s with | (l2, v3) => labels_Names_L1 x l2 v3) (r := picks 10 (hasP x)) (fun k => (picks k (hasP x), (k : Int))) 10 (by decide) (fun k hk => by
    have hl := picks_len (k := k) (P := hasP x)
    simp only [labels_Names_L1]
    rw [if_pos (by simp; omega), has_spec x0 x1, Option.bind_some, wr64 (by omega) (by omega), picks_succ]
    by_cases c : hasP x (k : Int)
    · rw [if_pos (decide_eq_true c), if_pos (roomy_few (by simp; omega)), if_pos c]; rfl
    · rw [if_neg (by simpa using c), if_neg c]; rfl) (by simp only [labels_Names_L1]; rw [if_neg (by simp)])
  unfold labels_Names
  have e' : loopM (fun s : (List Int) × Int => match s with | (l2, v3) => labels_Names_L1 x l2 v3) ([], 0) = some (picks 10 (hasP x)) := e
  rw [e']; rfl
theorem rNames_spec42 {x : Int} (x0 : 0 ≤ x) (x1 : x < 1000000000000) : palingref42_Names x = some (picks 10 (hasP x)) := by
  have e := loopM_trace (f := fun s : (List Int) × Int => match s with | (l2, v3) => palingref42_Names_L1 x l2 v3) (r := picks 10 (hasP x)) (fun k => (picks k (hasP x), (k : Int))) 10 (by decide) (fun k hk => by
    have hl := picks_len (k := k) (P := hasP x)
    simp only [palingref42_Names_L1]
    rw [if_pos (by simp; omega), rHas_spec x0 x1, Option.bind_some, wr64 (by omega) (by omega), picks_succ]
    by_cases c : hasP x (k : Int)
    · rw [if_pos (decide_eq_true c), if_pos (roomy_few (by simp; omega)), if_pos c]; rfl
    · rw [if_neg (by simpa using c), if_neg c]; rfl) (by simp only [palingref42_Names_L1]; rw [if_neg (by simp)])
  unfold palingref42_Names
  have e' : loopM (fun s : (List Int) × Int => match s with | (l2, v3) => palingref42_Names_L1 x l2 v3) ([], 0) = some (picks 10 (hasP x)) := e
  rw [e']; rfl
theorem doms_loop {b : List Labels_Label} {t : Int} (hl : b.length ≤ 200) (hb : ∀ d, inL b d → (0 ≤ (getI b d).plain ∧ (getI b d).plain < 1024) ∧ 0 ≤ (getI b d).led ∧ (getI b d).led < 1024) :
    loopM (fun s : (List Int) × (List Int) × Int => match s with | (l9, l10, v11) => labels_Domains_L1 t b b.length l9 l10 v11) ([], [], 0) = some (picks b.length (fun d => hasP (getI b d).plain t), picks b.length (fun d => hasP (getI b d).led t)) := by
  have e := loopM_trace (f := fun s : (List Int) × (List Int) × Int => match s with | (l9, l10, v11) => labels_Domains_L1 t b b.length l9 l10 v11) (r := (picks b.length (fun d => hasP (getI b d).plain t), picks b.length (fun d => hasP (getI b d).led t)))
    (fun k => (picks k (fun d => hasP (getI b d).plain t), picks k (fun d => hasP (getI b d).led t), (k : Int))) b.length (by omega) (fun k hk => by
    have hk2 : inL b (k : Int) := ⟨by omega, by omega⟩
    obtain ⟨⟨p0, p1⟩, q0, q1⟩ := hb _ hk2
    have hl1 := picks_len (k := k) (P := fun d => hasP (getI b d).plain t)
    have hl2 := picks_len (k := k) (P := fun d => hasP (getI b d).led t)
    simp only [labels_Domains_L1]
    rw [if_pos (by simpa using hk), if_pos (linT hk2), getI_get? hk2, Option.bind_some, has_spec p0 (by omega), Option.bind_some, has_spec q0 (by omega), wr64 (by omega) (by omega), picks_succ, picks_succ]
    by_cases c : hasP (getI b (k : Int)).plain t
    · rw [if_pos (decide_eq_true c), if_pos (roomy_few (by simp; omega)), Option.bind_some, if_pos c]
      by_cases c2 : hasP (getI b (k : Int)).led t
      · rw [if_pos (decide_eq_true c2), if_pos (roomy_few (by simp; omega)), if_pos c2]; rfl
      · rw [if_neg (by simpa using c2), if_neg c2]; rfl
    · rw [if_neg (by simpa using c), Option.bind_some, if_neg c]
      by_cases c2 : hasP (getI b (k : Int)).led t
      · rw [if_pos (decide_eq_true c2), if_pos (roomy_few (by simp; omega)), if_pos c2]; rfl
      · rw [if_neg (by simpa using c2), if_neg c2]; rfl) (by simp only [labels_Domains_L1]; rw [if_neg (by simp)])
  exact e
theorem rdoms_loop {b : List Palingref42_Label} {t : Int} (hl : b.length ≤ 200) (hb : ∀ d, inL b d → (0 ≤ (getI b d).plain ∧ (getI b d).plain < 1024) ∧ 0 ≤ (getI b d).led ∧ (getI b d).led < 1024) :
    loopM (fun s : (List Int) × (List Int) × Int => match s with | (l9, l10, v11) => palingref42_Domains_L1 t b b.length l9 l10 v11) ([], [], 0) = some (picks b.length (fun d => hasP (getI b d).plain t), picks b.length (fun d => hasP (getI b d).led t)) := by
  have e := loopM_trace (f := fun s : (List Int) × (List Int) × Int => match s with | (l9, l10, v11) => palingref42_Domains_L1 t b b.length l9 l10 v11) (r := (picks b.length (fun d => hasP (getI b d).plain t), picks b.length (fun d => hasP (getI b d).led t)))
    (fun k => (picks k (fun d => hasP (getI b d).plain t), picks k (fun d => hasP (getI b d).led t), (k : Int))) b.length (by omega) (fun k hk => by
    have hk2 : inL b (k : Int) := ⟨by omega, by omega⟩
    obtain ⟨⟨p0, p1⟩, q0, q1⟩ := hb _ hk2
    have hl1 := picks_len (k := k) (P := fun d => hasP (getI b d).plain t)
    have hl2 := picks_len (k := k) (P := fun d => hasP (getI b d).led t)
    have hJ : palingref42_Domains_J2 t b b.length (picks k (fun d => hasP (getI b d).plain t)) (picks k (fun d => hasP (getI b d).led t)) (k : Int) = some (picks (k + 1) (fun d => hasP (getI b d).plain t)) := by
      unfold palingref42_Domains_J2
      rw [if_pos (linT hk2), getI_get? hk2, Option.bind_some, rHas_spec p0 (by omega), Option.bind_some, picks_succ]
      by_cases c : hasP (getI b (k : Int)).plain t
      · rw [if_pos (decide_eq_true c), if_pos (roomy_few (by simp; omega)), if_pos c]
      · rw [if_neg (by simpa using c), if_neg c]
    simp only [palingref42_Domains_L1]
    rw [if_pos (by simpa using hk), hJ, Option.bind_some]
    rw [if_pos (linT hk2), getI_get? hk2, Option.bind_some, rHas_spec q0 (by omega), Option.bind_some, wr64 (by omega) (by omega), picks_succ (P := fun d => hasP (getI b d).led t)]
    by_cases c2 : hasP (getI b (k : Int)).led t
    · rw [if_pos (decide_eq_true c2), if_pos (roomy_few (by simp; omega)), if_pos c2]; rfl
    · rw [if_neg (by simpa using c2), if_neg c2]; rfl) (by simp only [palingref42_Domains_L1]; rw [if_neg (by simp)])
  exact e
theorem labelsLists (n : Api_Net) (of : List Int) (t x : Int) (hn : n.Ok) (_ : okL (okI .i64) of) (_ : okI .i64 t) (hx : okI .u32 x) : palinglaw42_LabelsLists n of t x = some true := by
  simp only [palinglaw42_LabelsLists, Great_spec, Option.bind_some, works42]
  by_cases hg : BndN n 200 100
  case neg => simp [hg]
  have hs := hg.sm
  have hdl := hg.domains
  simp only [hg, not_true_eq_false, decide_false, Bool.false_eq_true, if_false]
  by_cases hof : (of.length : Int) > 300
  · simp [hof]
  rw [if_neg (by simpa using hof)]
  have hf : Few of := by unfold Few; omega
  obtain ⟨x0, x1⟩ := okU32v hx
  have hw : wr_i64 x = x := wr64 (by omega) (by omega)
  have key : ∃ a b, labels_Domains n of t = some (a, b) ∧ palingref42_Domains n of t = some (a, b) ∧ a.length ≤ 200 ∧ b.length ≤ 200 := by
    unfold labels_Domains palingref42_Domains
    by_cases ho : OwnP n of
    case neg =>
      rw [labels_All_no hs hf ho, rAll42_no hs hf ho]
      have e1 := doms_loop (b := []) (t := t) (by simp) (fun d hd => by have := hd.1; have := hd.2; simp at this; omega)
      have e2 := rdoms_loop (b := []) (t := t) (by simp) (fun d hd => by have := hd.1; have := hd.2; simp at this; omega)
      refine ⟨[], [], ?_, ?_, by simp, by simp⟩
      · simp only [Option.bind_some]
        simp only [List.length_nil] at e1
        rw [e1]; rfl
      · simp only [Option.bind_some]
        simp only [List.length_nil] at e2
        rw [e2]; rfl
    obtain ⟨b, e, hb⟩ := labels_All_spec hn hg hf ho
    have hbl := hb.ok.1
    have hlab : ∀ d, inL b d → (0 ≤ (getI b d).plain ∧ (getI b d).plain < 1024) ∧ 0 ≤ (getI b d).led ∧ (getI b d).led < 1024 := fun d hd => by
      have := hb.ok.2 d hd
      exact ⟨⟨this.p0, this.p1⟩, this.l0, this.l1⟩
    have hgl : (mkG n.domains.length (rlab n of 10)).length = n.domains.length := mkG_len
    have hgg : ∀ d, inL n.domains d → getI (mkG n.domains.length (rlab n of 10)) d = rlab n of 10 d := fun d hd => mkG_get ⟨hd.1, hd.2⟩
    have hsame : ∀ d, inL n.domains d → (getI b d).plain = (getI (mkG n.domains.length (rlab n of 10)) d).plain ∧ (getI b d).led = (getI (mkG n.domains.length (rlab n of 10)) d).led := fun d hd => by
      rw [hgg d hd]; exact lab_same hb ho hd
    have e1 := doms_loop (t := t) (by omega) hlab
    have e2 := rdoms_loop (b := mkG n.domains.length (rlab n of 10)) (t := t) (by omega) (fun d hd => by
      have hdd : inL n.domains d := ⟨hd.1, by have := hd.2; omega⟩
      have := hsame d hdd
      rw [← this.1, ← this.2]
      exact hlab d ⟨hd.1, by have := hd.2; omega⟩)
    rw [hbl] at e1
    rw [hgl] at e2
    rw [e, rAll42_spec hn hg hf ho]
    refine ⟨picks n.domains.length (fun d => hasP (getI b d).plain t), picks n.domains.length (fun d => hasP (getI b d).led t), ?_, ?_, Nat.le_trans picks_len hdl, Nat.le_trans picks_len hdl⟩
    · simp only [Option.bind_some]
      rw [e1]; rfl
    · simp only [Option.bind_some]
      rw [e2]
      have q1 : picks n.domains.length (fun d => hasP (getI (mkG n.domains.length (rlab n of 10)) d).plain t) = picks n.domains.length (fun d => hasP (getI b d).plain t) := picks_congr fun d d0 d1 => by rw [(hsame d ⟨d0, d1⟩).1]
      have q2 : picks n.domains.length (fun d => hasP (getI (mkG n.domains.length (rlab n of 10)) d).led t) = picks n.domains.length (fun d => hasP (getI b d).led t) := picks_congr fun d d0 d1 => by rw [(hsame d ⟨d0, d1⟩).2]
      rw [q1, q2]; rfl
  obtain ⟨a, b, e1, e2, l1, l2⟩ := key
  rw [e1, e2, hw, names_spec42 x0 (by omega), rNames_spec42 x0 (by omega)]
  have hl := picks_len (k := 10) (P := hasP x)
  simp only [Option.bind_some]
  rw [rInts_spec (by unfold Few; omega), Option.bind_some, rInts_spec (by unfold Few; omega), Option.bind_some, rInts_spec (by unfold Few; omega), Option.bind_some]
  simp
end
end Go.Eng
