/- Part of the proof of LabelsTells: plain laws of the printed mirrors. No conditions. -/
import Derived.Test.YtlinloabahbioaaGreatEngGP1
set_option linter.unusedVariables false
set_option linter.unusedSectionVars false
set_option linter.unusedSimpArgs false
namespace Go.Eng
open Go Classical
attribute [local congr] ite_cg

/-! ### Rounds over true and false -/
noncomputable def stepB (i h : Int) (l : List Bool) : List Bool := l.set h.toNat (getI l h || getI l i)
def oneB (b : Bool) : Int := if b then 1 else 0
def numT (l : List Bool) : Int := (l.map oneB).sum
theorem cnt_set {l : List Bool} {d : Int} {x : Bool} (hd : inL l d) : numT (l.set d.toNat x) = numT l - oneB (getI l d) + oneB x := by
  unfold numT
  rw [List.map_set]
  exact sum_set _ _ _ _ (by rw [List.getElem?_map, getI_get? hd]; rfl)
theorem cnt_le {l : List Bool} : numT l ≤ l.length := by
  have := sum_le (M := 1) (l.map oneB) (fun x hx => by
    obtain ⟨y, _, rfl⟩ := List.mem_map.1 hx
    unfold oneB; split <;> omega)
  rw [List.length_map] at this
  unfold numT; omega
theorem cnt_full {l : List Bool} (h : (l.length : Int) ≤ numT l) {d : Int} (hd : inL l d) : getI l d = true := by
  cases c : getI l d
  · have h1 := cnt_set (x := true) hd
    have h2 := cnt_le (l := l.set d.toNat true)
    rw [c] at h1
    rw [List.length_set] at h2
    simp [oneB] at h1
    omega
  · rfl
theorem set_same {α : Type} [Inhabited α] {l : List α} {d : Int} (hd : inL l d) : l.set d.toNat (getI l d) = l := by
  refine list_eqI.2 ⟨by simp, fun i hi => ?_⟩
  have hi := inL_setI.1 hi
  show getI _ i = getI l i
  rw [getI_setI hd hi]
  split
  · rename_i e; rw [e]
  · rfl
section
variable {i h : Int} {l : List Bool}
theorem stepB_len : (stepB i h l).length = l.length := by simp [stepB]
theorem stepB_get (hh : inL l h) {d : Int} (hd : inL l d) : getI (stepB i h l) d = if d = h then (getI l h || getI l i) else getI l d := getI_setI hh hd
theorem stepB_mono (hh : inL l h) {d : Int} (hd : inL l d) (ht : getI l d = true) : getI (stepB i h l) d = true := by
  rw [stepB_get hh hd]; split
  · rename_i e; rw [← e, ht]; rfl
  · exact ht
theorem stepB_cnt (hh : inL l h) : numT l ≤ numT (stepB i h l) ∧ (numT (stepB i h l) = numT l → stepB i h l = l ∧ (getI l i = true → getI l h = true)) := by
  unfold stepB
  rw [cnt_set hh]
  cases c : getI l h <;> cases c2 : getI l i <;> simp [oneB]
  · have := set_same hh; rw [c] at this; exact this
  · omega
  · have := set_same hh; rw [c] at this; exact this
  · have := set_same hh; rw [c] at this; exact this
theorem stepB_closed (hh : inL l h) (hc : getI l i = true → getI l h = true) : stepB i h l = l := by
  have e : (getI l h || getI l i) = getI l h := by
    cases c : getI l h <;> cases c2 : getI l i <;> simp
    rw [c] at hc; exact absurd (hc c2) (by simp)
  unfold stepB
  rw [e]; exact set_same hh
end
noncomputable def passI (i : Int) (hs : List Int) (l : List Bool) : List Bool := hs.foldl (fun l h => stepB i h l) l
section
variable {i : Int}
theorem passI_len : ∀ (hs : List Int) (l : List Bool), (passI i hs l).length = l.length
  | [], l => rfl
  | h :: hs, l => by
    show (passI i hs (stepB i h l)).length = _
    rw [passI_len hs, stepB_len]
theorem passI_all {P : List Bool → Prop} (N : Nat) : ∀ (hs : List Int) (l : List Bool), (∀ h ∈ hs, 0 ≤ h ∧ h < (N : Int)) → l.length = N → P l → (∀ l h, h ∈ hs → l.length = N → inL l h → P l → P (stepB i h l)) → P (passI i hs l)
  | [], l, _, _, h, _ => h
  | h :: hs, l, hb, hl, hp, hs' => by
    have h1 := hb h (by simp)
    have hi : inL l h := ⟨h1.1, by omega⟩
    exact passI_all N hs (stepB i h l) (fun x hx => hb x (by simp [hx])) (by rw [stepB_len]; exact hl) (hs' l h (by simp) hl hi hp) (fun l x hx => hs' l x (by simp [hx]))
theorem passI_cnt (N : Nat) : ∀ (hs : List Int) (l : List Bool), (∀ h ∈ hs, 0 ≤ h ∧ h < (N : Int)) → l.length = N → numT l ≤ numT (passI i hs l) ∧ (numT (passI i hs l) = numT l → passI i hs l = l ∧ ∀ h ∈ hs, getI l i = true → getI l h = true)
  | [], l, _, _ => ⟨Int.le_refl _, fun _ => ⟨rfl, by simp⟩⟩
  | h :: hs, l, hb, hl => by
    have h1 := hb h (by simp)
    have hi : inL l h := ⟨h1.1, by omega⟩
    have hs1 := stepB_cnt (i := i) hi
    have hs2 := passI_cnt N hs (stepB i h l) (fun x hx => hb x (by simp [hx])) (by rw [stepB_len]; exact hl)
    have e : passI i (h :: hs) l = passI i hs (stepB i h l) := rfl
    rw [e]
    refine ⟨by omega, fun hc => ?_⟩
    obtain ⟨k1, k2⟩ := hs1.2 (by omega)
    obtain ⟨k3, k4⟩ := hs2.2 (by omega)
    rw [k1] at k3 k4
    rw [k1]
    refine ⟨k3, fun x hx => ?_⟩
    rcases List.mem_cons.1 hx with rfl | hx
    · exact k2
    · exact k4 x hx
end
noncomputable def passK (H : Int → List Int) : Nat → List Bool → List Bool
  | 0, l => l
  | k + 1, l => passI (k : Int) (H k) (passK H k l)
section
variable {H : Int → List Int} {N : Nat} (hH : ∀ d, 0 ≤ d → d < (N : Int) → ∀ h ∈ H d, 0 ≤ h ∧ h < (N : Int))
theorem passK_len : ∀ (k : Nat) (l : List Bool), (passK H k l).length = l.length
  | 0, l => rfl
  | k + 1, l => by rw [passK, passI_len, passK_len k]
include hH
theorem passK_all {P : List Bool → Prop} : ∀ (k : Nat) (l : List Bool), k ≤ N → l.length = N → P l → (∀ l i h, 0 ≤ i → i < (N : Int) → h ∈ H i → l.length = N → inL l h → P l → P (stepB i h l)) → P (passK H k l)
  | 0, l, _, _, h, _ => h
  | k + 1, l, hk, hl, hp, hs => by
    rw [passK]
    exact passI_all N _ _ (hH k (by omega) (by omega)) (by rw [passK_len]; exact hl) (passK_all k l (by omega) hl hp hs) (fun l h hh => hs l k h (by omega) (by omega) hh)
theorem passK_cnt : ∀ (k : Nat) (l : List Bool), k ≤ N → l.length = N → numT l ≤ numT (passK H k l) ∧ (numT (passK H k l) = numT l → passK H k l = l ∧ ∀ i : Int, 0 ≤ i → i < (k : Int) → ∀ h ∈ H i, getI l i = true → getI l h = true)
  | 0, l, _, _ => ⟨Int.le_refl _, fun _ => ⟨rfl, fun i h0 h1 => by omega⟩⟩
  | k + 1, l, hk, hl => by
    have h1 := passK_cnt k l (by omega) hl
    have h2 := passI_cnt (i := (k : Int)) N (H k) (passK H k l) (hH k (by omega) (by omega)) (by rw [passK_len]; exact hl)
    rw [passK]
    refine ⟨by omega, fun hc => ?_⟩
    obtain ⟨k1, k2⟩ := h1.2 (by omega)
    obtain ⟨k3, k4⟩ := h2.2 (by omega)
    rw [k1] at k3 k4 ⊢
    refine ⟨k3, fun i i0 i1 => ?_⟩
    by_cases e : i = (k : Int)
    · subst e; exact k4
    · exact k2 i i0 (by omega)
def ClB (H : Int → List Int) (N : Nat) (l : List Bool) : Prop := ∀ i : Int, 0 ≤ i → i < (N : Int) → ∀ h ∈ H i, getI l i = true → getI l h = true
omit hH in
theorem passI_same {i : Int} : ∀ (hs : List Int) (l : List Bool), (∀ h ∈ hs, inL l h ∧ (getI l i = true → getI l h = true)) → passI i hs l = l
  | [], l, _ => rfl
  | h :: hs, l, hb => by
    have h1 := hb h (by simp)
    have e : passI i (h :: hs) l = passI i hs (stepB i h l) := rfl
    rw [e, stepB_closed h1.1 h1.2]
    exact passI_same hs l (fun x hx => hb x (by simp [hx]))
theorem passK_same {l : List Bool} (hl : l.length = N) (hc : ClB H N l) : ∀ k : Nat, k ≤ N → passK H k l = l
  | 0, _ => rfl
  | k + 1, hk => by
    rw [passK, passK_same hl hc k (by omega)]
    exact passI_same _ _ (fun h hh => ⟨by have := hH k (by omega) (by omega) h hh; exact ⟨this.1, by omega⟩, hc k (by omega) (by omega) h hh⟩)
theorem rounds_closed {c : Int} {l : List Bool} (hl : l.length = N) (hc : ClB H N l ∨ c ≤ numT l) : ClB H N (passK H N l) ∨ c + 1 ≤ numT (passK H N l) := by
  rcases hc with h | h
  · rw [passK_same hH hl h N (Nat.le_refl _)]; exact .inl h
  · have h1 := passK_cnt hH N l (Nat.le_refl _) hl
    by_cases e : numT (passK H N l) = numT l
    · obtain ⟨k1, k2⟩ := h1.2 e
      rw [k1]; exact .inl k2
    · exact .inr (by omega)
omit hH in
theorem full_closed (hH : ∀ d, 0 ≤ d → d < (N : Int) → ∀ h ∈ H d, 0 ≤ h ∧ h < (N : Int)) {l : List Bool} (hl : l.length = N) (hc : ClB H N l ∨ (N : Int) ≤ numT l) : ClB H N l := by
  rcases hc with h | h
  · exact h
  · intro i i0 i1 x hx _
    have := hH i i0 i1 x hx
    exact cnt_full (by omega) ⟨this.1, by omega⟩
end
end Go.Eng

set_option linter.unusedVariables false
set_option linter.unusedSectionVars false
set_option linter.unusedSimpArgs false
namespace Go.Eng
open Go Classical
attribute [local congr] ite_cg

theorem take_foldl1 {α β : Type} {f : β → α → β} {l : List α} {b : β} {k : Nat} {x : α} (h : l[k]? = some x) : (l.take (k + 1)).foldl f b = f ((l.take k).foldl f b) x := by
  rw [List.take_add_one, h]; simp
section
variable {n : Api_Net} {of : List Int}
theorem r42J6 {v48 i k h : Int} {l56 : List Palingref35_Hop} {l57 l58 : List Bool} (hk : inL l56 k) (hh : (getI l56 k).domain = h) (h1 : inL l57 h) (h2 : inL l57 i) : palingref42_reached_J6 n v48 i l56 l57 l58 k = some (stepB i h l57) := by
  unfold palingref42_reached_J6 stepB
  rw [if_pos (linT hk), getI_get? hk, Option.bind_some, Option.bind_some, hh, if_pos (linT h1), getI_get? h1, Option.bind_some]
  cases c : getI l57 h
  · rw [if_neg (by simp), if_pos (linT h2), getI_get? h2, Option.bind_some, if_pos (linT h1), Option.bind_some]; simp
  · rw [if_pos rfl, if_pos (linT h1), Option.bind_some]; simp
theorem hopD_len (hg : BndN n 200 100) {d : Int} (hd : inL n.domains d) : (hopD n d).length ≤ 300 := by unfold hopD; rw [List.length_map]; exact hopsI_len hg hd
theorem r42_L5 (hg : BndN n 200 100) (hr : RightP n) {i v48 : Int} (hi : inL n.domains i) {p l : List Bool} (hp : p.length = n.domains.length) (hl : l.length = n.domains.length) :
    loopM (fun s : (List Bool) × (List Bool) × Int => match s with | (l57, l58, v59) => palingref42_reached_L5 n v48 i ((hopsI n i).map toldH) l57 l58 v59) (p, l, 0) = some (passI i (hopD n i) p, passI i (hopD n i) l) := by
  have hhl := hopD_len hg hi
  have hHl : (hopsI n i).length = (hopD n i).length := by unfold hopD; simp
  have hHin := hopD_in hr i hi.1 hi.2
  have := loopM_trace (f := fun s : (List Bool) × (List Bool) × Int => match s with | (l57, l58, v59) => palingref42_reached_L5 n v48 i ((hopsI n i).map toldH) l57 l58 v59) (r := (passI i (hopD n i) p, passI i (hopD n i) l))
    (fun k => (passI i ((hopD n i).take k) p, passI i ((hopD n i).take k) l, (k : Int))) (hopD n i).length (by omega) (fun k hk => by
      have hx : (hopD n i)[k]? = some (hopD n i)[k] := List.getElem?_eq_getElem hk
      have t1 : ∀ q, passI i ((hopD n i).take (k + 1)) q = stepB i (hopD n i)[k] (passI i ((hopD n i).take k) q) := fun q => take_foldl1 hx
      have hb := hHin _ (List.getElem_mem hk)
      have ik : inL ((hopsI n i).map toldH) (k : Int) := ⟨by omega, by simp; omega⟩
      have ik2 : inL (hopsI n i) (k : Int) := ⟨by omega, by omega⟩
      have gd : (getI ((hopsI n i).map toldH) (k : Int)).domain = (hopD n i)[k] := by
        have h1 := getI_get? ik2
        rw [Int.toNat_natCast] at h1
        have h2 : ((hopsI n i).map toldH)[k]? = some (toldH (getI (hopsI n i) (k : Int))) := by rw [List.getElem?_map, h1]; rfl
        have h3 : (hopD n i)[k]? = some (getI (hopsI n i) (k : Int)).domain := by unfold hopD; rw [List.getElem?_map, h1]; rfl
        rw [h3] at hx
        rw [getI_nat h2]
        exact Option.some.inj hx
      rw [t1, t1]
      have q1 : (passI i ((hopD n i).take k) p).length = n.domains.length := by rw [passI_len]; exact hp
      have q2 : (passI i ((hopD n i).take k) l).length = n.domains.length := by rw [passI_len]; exact hl
      generalize passI i ((hopD n i).take k) p = P at *
      generalize passI i ((hopD n i).take k) l = L at *
      generalize (hopD n i)[k] = h at *
      have i1 : inL P h := ⟨hb.1, by omega⟩
      have i2 : inL P i := ⟨hi.1, by have := hi.2; omega⟩
      have i3 : inL L h := ⟨hb.1, by omega⟩
      have i4 : inL L i := ⟨hi.1, by have := hi.2; omega⟩
      have hlt : (k : Int) < (((hopsI n i).map toldH).length : Int) := ik.2
      simp only [palingref42_reached_L5]
      rw [if_pos (decide_eq_true hlt), r42J6 ik gd i1 i2, Option.bind_some]
      rw [if_pos (linT ik), getI_get? ik, Option.bind_some, Option.bind_some, gd, if_pos (linT i3), getI_get? i3, Option.bind_some, wr64 (by omega) (by omega)]
      cases c : getI L h
      · rw [if_neg (by simp), if_pos (linT i4), getI_get? i4, Option.bind_some, if_pos (linT i3), Option.bind_some]; simp [stepB, c]
      · rw [if_pos rfl, if_pos (linT i3), Option.bind_some]; simp [stepB, c]) (by
      simp only [palingref42_reached_L5]
      rw [if_neg (by simp [hHl]), List.take_length])
  simpa [passI] using this
theorem r42_L4 (hg : BndN n 200 100) (hr : RightP n) {v48 : Int} {p l : List Bool} (hp : p.length = n.domains.length) (hl : l.length = n.domains.length) :
    loopM (fun s : (List Bool) × (List Bool) × Int => match s with | (l50, l51, v52) => palingref42_reached_L4 n v48 l50 l51 v52) (p, l, 0) = some (passK (hopD n) n.domains.length p, passK (hopD n) n.domains.length l) := by
  have hdl := hg.domains
  exact loopM_trace (f := fun s : (List Bool) × (List Bool) × Int => match s with | (l50, l51, v52) => palingref42_reached_L4 n v48 l50 l51 v52) (r := (passK (hopD n) n.domains.length p, passK (hopD n) n.domains.length l))
    (fun k => (passK (hopD n) k p, passK (hopD n) k l, (k : Int))) n.domains.length (by omega) (fun k hk => by
      have hd : inL n.domains (k : Int) := ⟨by omega, by omega⟩
      simp only [palingref42_reached_L4]
      rw [if_pos (by simpa using hk), rHops_spec hg hr hd, Option.bind_some]
      rw [r42_L5 hg hr hd (by rw [passK_len]; exact hp) (by rw [passK_len]; exact hl), Option.bind_some, wr64 (by omega) (by omega)]
      rfl) (by
      simp only [palingref42_reached_L4]
      rw [if_neg (by simp)])
theorem rleads (hn : n.Ok) (hg : BndN n 200 100) (hr : RightP n) {i : Int} (hi : inL n.domains i) : ∃ ls : List Palingref36_Lead, palingref36_Routes n i = some ls ∧ ls.length ≤ 200 ∧ ∀ d, d ∈ leadD n i ↔ ∃ x ∈ ls, x.domain = d := by
  have hs := hg.sm
  have hb := (hr.bare i hi).2.2.2.2.2.1
  by_cases c : (getI n.domains i).irb = -1
  · refine ⟨[], refRoutes_none (fun h => h.2 c), by simp, fun d => ?_⟩
    unfold leadD; rw [if_pos (by omega)]; simp
  · have h0 : ¬ (getI n.domains i).irb < 0 := by
      rcases hb with h | h
      · exact absurd h c
      · have := h.1.1; omega
    refine ⟨_, refRoutes_some hn hs hg.irbs hr hi c, by rw [List.length_map]; exact Nat.le_trans leads36_len hg.irbs, fun d => ?_⟩
    unfold leadD; rw [if_neg h0, List.mem_map]
    constructor
    · rintro ⟨x, hx, rfl⟩; exact ⟨conv36 x, List.mem_map.2 ⟨x, hx, rfl⟩, rfl⟩
    · rintro ⟨y, hy, rfl⟩
      obtain ⟨x, hx, rfl⟩ := List.mem_map.1 hy
      exact ⟨x, hx, rfl⟩
theorem r42_L8 {v48 i : Int} {p l : List Bool} {N : Nat} (hp : p.length = N) (hl : l.length = N) (hi : 0 ≤ i ∧ i < (N : Int)) {ls : List Palingref36_Lead} (hls : ls.length ≤ 200) (hb : ∀ x ∈ ls, 0 ≤ x.domain ∧ x.domain < (N : Int)) :
    ∃ l', loopM (fun s : (List Bool) × Int => match s with | (l150, v151) => palingref42_reached_L8 n v48 p i ls l150 v151) (l, 0) = some l' ∧ l'.length = N ∧ ∀ d, inL l d → (getI l' d = true ↔ getI l d = true ∨ getI p i = true ∧ ∃ x ∈ ls, x.domain = d) := by
  obtain ⟨l', e, h1, h2⟩ := loopM_rule (f := fun s : (List Bool) × Int => match s with | (l150, v151) => palingref42_reached_L8 n v48 p i ls l150 v151)
    (fun s => 0 ≤ s.2 ∧ s.2 ≤ ls.length ∧ s.1.length = N ∧ ∀ d, inL l d → (getI s.1 d = true ↔ getI l d = true ∨ getI p i = true ∧ ∃ j, inL ls j ∧ j < s.2 ∧ (getI ls j).domain = d))
    (fun l' => l'.length = N ∧ ∀ d, inL l d → (getI l' d = true ↔ getI l d = true ∨ getI p i = true ∧ ∃ x ∈ ls, x.domain = d)) (fun s => (ls.length - s.2).toNat) (s := (l, 0)) (fun s hI => by
      obtain ⟨q, j⟩ := s
      obtain ⟨j0, j1, hq, hK⟩ := hI
      simp only at j0 j1 hq hK ⊢
      by_cases c : j < (ls.length : Int)
      · have hj : inL ls j := ⟨j0, c⟩
        have hbx := hb _ (getI_mem hj)
        have ih : inL q (getI ls j).domain := ⟨hbx.1, by omega⟩
        have ip : inL p i := ⟨hi.1, by omega⟩
        refine ⟨.inl (q.set (getI ls j).domain.toNat (getI q (getI ls j).domain || getI p i), j + 1), ?_, ⟨by simp only; omega, by simp only; omega, by simp only [List.length_set]; exact hq, fun d hd => ?_⟩, by simp only; omega⟩
        · simp only [palingref42_reached_L8]
          rw [if_pos (by simpa using c), if_pos (linT hj), getI_get? hj, Option.bind_some, Option.bind_some, if_pos (linT ih), getI_get? ih, Option.bind_some, wr64 (by omega) (by omega)]
          cases c2 : getI q (getI ls j).domain
          · rw [if_neg (by simp), if_pos (linT ip), getI_get? ip, Option.bind_some, if_pos (linT ih), Option.bind_some]; simp
          · rw [if_pos rfl, if_pos (linT ih), Option.bind_some]; simp
        · have hdq : inL q d := ⟨hd.1, by have := hd.2; omega⟩
          simp only
          rw [getI_setI ih hdq]
          have hk := hK d hd
          by_cases e : d = (getI ls j).domain
          · rw [if_pos e, Bool.or_eq_true, ← e, hk]
            constructor
            · rintro ((h | ⟨h1, k, k1, k2, k3⟩) | h)
              · exact .inl h
              · exact .inr ⟨h1, k, k1, by omega, k3⟩
              · exact .inr ⟨h, j, hj, by omega, e.symm⟩
            · rintro (h | ⟨h1, k, k1, k2, k3⟩)
              · exact .inl (.inl h)
              · exact .inr h1
          · rw [if_neg e, hk]
            constructor
            · rintro (h | ⟨h1, k, k1, k2, k3⟩)
              · exact .inl h
              · exact .inr ⟨h1, k, k1, by omega, k3⟩
            · rintro (h | ⟨h1, k, k1, k2, k3⟩)
              · exact .inl h
              · refine .inr ⟨h1, k, k1, ?_, k3⟩
                by_cases e2 : k = j
                · subst e2; exact absurd k3.symm e
                · omega
      · have : j = ls.length := by omega
        subst this
        refine ⟨.inr q, by simp only [palingref42_reached_L8]; rw [if_neg (by simp)], hq, fun d hd => ?_⟩
        rw [hK d hd]
        constructor
        · rintro (h | ⟨h1, k, k1, k2, k3⟩)
          · exact .inl h
          · exact .inr ⟨h1, _, getI_mem k1, k3⟩
        · rintro (h | ⟨h1, x, hx, k3⟩)
          · exact .inl h
          · obtain ⟨k, k1, rfl⟩ := mem_getI hx
            exact .inr ⟨h1, k, k1, k1.2, k3⟩) ⟨by simp, by simp, hl, fun d hd => ⟨.inl, fun h => h.elim id (fun ⟨_, k, k1, k2, _⟩ => by have := k1.1; simp only at k2; omega)⟩⟩ (by simp only; omega)
  exact ⟨l', e, h1, h2⟩
theorem r42_L7 (hn : n.Ok) (hg : BndN n 200 100) (hr : RightP n) {p l : List Bool} (hp : p.length = n.domains.length) (hl : l.length = n.domains.length) :
    ∃ l', loopM (fun s : (List Bool) × Int => match s with | (l143, v144) => palingref42_reached_L7 n (n.domains.length : Int) p l143 v144) (l, 0) = some l' ∧ l'.length = n.domains.length ∧ ∀ d, inL l d → (getI l' d = true ↔ getI l d = true ∨ ∃ i, inL n.domains i ∧ getI p i = true ∧ d ∈ leadD n i) := by
  have hdl := hg.domains
  obtain ⟨l', e, h1, h2⟩ := loopM_rule (f := fun s : (List Bool) × Int => match s with | (l143, v144) => palingref42_reached_L7 n (n.domains.length : Int) p l143 v144)
    (fun s => 0 ≤ s.2 ∧ s.2 ≤ n.domains.length ∧ s.1.length = n.domains.length ∧ ∀ d, inL l d → (getI s.1 d = true ↔ getI l d = true ∨ ∃ i, inL n.domains i ∧ i < s.2 ∧ getI p i = true ∧ d ∈ leadD n i))
    (fun l' => l'.length = n.domains.length ∧ ∀ d, inL l d → (getI l' d = true ↔ getI l d = true ∨ ∃ i, inL n.domains i ∧ getI p i = true ∧ d ∈ leadD n i)) (fun s => (n.domains.length - s.2).toNat) (s := (l, 0)) (fun s hI => by
      obtain ⟨q, j⟩ := s
      obtain ⟨j0, j1, hq, hK⟩ := hI
      simp only at j0 j1 hq hK ⊢
      by_cases c : j < (n.domains.length : Int)
      · have hj : inL n.domains j := ⟨j0, c⟩
        obtain ⟨ls, e1, e2, e3⟩ := rleads hn hg hr hj
        obtain ⟨q', k1, k2, k3⟩ := r42_L8 (n := n) (v48 := (n.domains.length : Int)) hp hq ⟨j0, c⟩ e2 (fun x hx => leadD_in hr j j0 c x.domain ((e3 _).2 ⟨x, hx, rfl⟩))
        refine ⟨.inl (q', j + 1), ?_, ⟨by simp only; omega, by simp only; omega, k2, fun d hd => ?_⟩, by simp only; omega⟩
        · simp only [palingref42_reached_L7]
          rw [if_pos (by simpa using c), if_pos (by simp), e1, Option.bind_some]
          rw [k1, Option.bind_some, wr64 (by omega) (by omega)]
        · simp only
          rw [k3 d ⟨hd.1, by have := hd.2; omega⟩, hK d hd, ← e3 d]
          constructor
          · rintro ((h | ⟨i, i1, i2, i3, i4⟩) | ⟨h1, h2⟩)
            · exact .inl h
            · exact .inr ⟨i, i1, by omega, i3, i4⟩
            · exact .inr ⟨j, hj, by omega, h1, h2⟩
          · rintro (h | ⟨i, i1, i2, i3, i4⟩)
            · exact .inl (.inl h)
            · by_cases e : i = j
              · subst e; exact .inr ⟨i3, i4⟩
              · exact .inl (.inr ⟨i, i1, by omega, i3, i4⟩)
      · have : j = n.domains.length := by omega
        subst this
        refine ⟨.inr q, by simp only [palingref42_reached_L7]; rw [if_neg (by simp)], hq, fun d hd => ?_⟩
        rw [hK d hd]
        constructor
        · rintro (h | ⟨i, i1, i2, i3, i4⟩)
          · exact .inl h
          · exact .inr ⟨i, i1, i3, i4⟩
        · rintro (h | ⟨i, i1, i3, i4⟩)
          · exact .inl h
          · exact .inr ⟨i, i1, i1.2, i3, i4⟩) ⟨by simp, by simp, hl, fun d hd => ⟨.inl, fun h => h.elim id (fun ⟨k, k1, k2, _⟩ => by have := k1.1; simp only at k2; omega)⟩⟩ (by simp only; omega)
  exact ⟨l', e, h1, h2⟩
theorem r42_L7no {p l : List Bool} {r : Int} (h : r ≠ n.domains.length) : loopM (fun s : (List Bool) × Int => match s with | (l143, v144) => palingref42_reached_L7 n r p l143 v144) (l, 0) = some l :=
  loopM_trace (f := fun s : (List Bool) × Int => match s with | (l143, v144) => palingref42_reached_L7 n r p l143 v144) (r := l) (fun _ => (l, 0)) 0 (by decide) (fun i hi => by omega) (by
    simp only [palingref42_reached_L7]
    by_cases c : (0 : Int) < (n.domains.length : Int)
    · rw [if_pos (by simpa using c), if_neg (by simpa using h)]
    · rw [if_neg (by simpa using c)])
theorem r42_seeds (hg : BndN n 200 100) (ho : OwnP n of) {t : Nat} : ∃ p, loopM (fun s : (List Bool) × Int => match s with | (l5, v6) => palingref42_reached_L1 n of (t : Int) l5 v6) (List.replicate n.domains.length false, 0) = some p ∧ p.length = n.domains.length ∧ ∀ d, inL n.domains d → (getI p d = true ↔ seedP n of d t) := by
  have hs := hg.sm
  have hdl := hg.domains
  have hrep : ∀ d, inL n.domains d → getI (List.replicate n.domains.length false) d = false := fun d hd => List.eq_of_mem_replicate (getI_mem ⟨hd.1, by simpa using hd.2⟩)
  obtain ⟨p, e, h1, h2⟩ := loopM_rule (f := fun s : (List Bool) × Int => match s with | (l5, v6) => palingref42_reached_L1 n of (t : Int) l5 v6)
    (fun s => 0 ≤ s.2 ∧ s.2 ≤ n.domains.length ∧ s.1.length = n.domains.length ∧ ∀ d, inL n.domains d → (getI s.1 d = true ↔ d < s.2 ∧ seedP n of d t))
    (fun p => p.length = n.domains.length ∧ ∀ d, inL n.domains d → (getI p d = true ↔ seedP n of d t)) (fun s => (n.domains.length - s.2).toNat) (s := (List.replicate n.domains.length false, 0)) (fun s hI => by
      obtain ⟨q, i⟩ := s
      obtain ⟨i0, i1, hq, hK⟩ := hI
      simp only at i0 i1 hq hK ⊢
      by_cases c : i < (n.domains.length : Int)
      · have hi : inL n.domains i := ⟨i0, c⟩
        have hiq : inL q i := ⟨i0, by omega⟩
        have hml : (membersL n i).length ≤ 200 := Nat.le_trans membersL_len hg.ports
        obtain ⟨q', e1, k1, k2, k3⟩ := loopM_rule (f := fun s : (List Bool) × Int => match s with | (l11, v12) => palingref42_reached_L2 n of (t : Int) i (membersL n i) l11 v12)
          (fun s => 0 ≤ s.2 ∧ s.2 ≤ (membersL n i).length ∧ s.1.length = n.domains.length ∧ (∀ d, inL n.domains d → d ≠ i → getI s.1 d = getI q d) ∧ (getI s.1 i = true ↔ ∃ j, inL (membersL n i) j ∧ j < s.2 ∧ getI of (getI (membersL n i) j) = (t : Int)))
          (fun q' => q'.length = n.domains.length ∧ (∀ d, inL n.domains d → d ≠ i → getI q' d = getI q d) ∧ (getI q' i = true ↔ ∃ p ∈ membersL n i, getI of p = (t : Int))) (fun s => ((membersL n i).length - s.2).toNat) (s := (q, 0)) (fun s hI => by
            obtain ⟨u, j⟩ := s
            obtain ⟨j0, j1, hu, hM, hN⟩ := hI
            simp only at j0 j1 hu hM hN ⊢
            by_cases c : j < ((membersL n i).length : Int)
            · have hj : inL (membersL n i) j := ⟨j0, c⟩
              obtain ⟨hio, _⟩ := owner_ok ho (membersL_in (getI_mem hj))
              have hiu : inL u i := ⟨i0, by omega⟩
              refine ⟨.inl (u.set i.toNat (getI u i || (getI of (getI (membersL n i) j) == (t : Int))), j + 1), ?_, ⟨by simp only; omega, by simp only; omega, by simp only [List.length_set]; exact hu, fun d hd hdi => ?_, ?_⟩, by simp only; omega⟩
              · simp only [palingref42_reached_L2]
                rw [if_pos (by simpa using c), if_pos (linT hiu), getI_get? hiu, Option.bind_some, wr64 (by omega) (by omega)]
                cases c2 : getI u i
                · rw [if_neg (by simp), if_pos (linT hj), getI_get? hj, Option.bind_some, nth_getI hio, Option.bind_some, Option.bind_some]; simp
                · rw [if_pos rfl, Option.bind_some]; simp
              · simp only
                rw [getI_setI hiu ⟨hd.1, by have := hd.2; omega⟩, if_neg hdi]; exact hM d hd hdi
              · simp only
                rw [getI_setI hiu hiu, if_pos rfl, Bool.or_eq_true, hN, beq_iff_eq]
                constructor
                · rintro (⟨k, k1, k2, k3⟩ | h)
                  · exact ⟨k, k1, by omega, k3⟩
                  · exact ⟨j, hj, by omega, h⟩
                · rintro ⟨k, k1, k2, k3⟩
                  by_cases e : k = j
                  · subst e; exact .inr k3
                  · exact .inl ⟨k, k1, by omega, k3⟩
            · have : j = (membersL n i).length := by omega
              subst this
              refine ⟨.inr u, by simp only [palingref42_reached_L2]; rw [if_neg (by simp)], hu, hM, hN.trans ⟨fun ⟨k, k1, _, k3⟩ => ⟨_, getI_mem k1, k3⟩, fun ⟨p, hp, hpt⟩ => by
                obtain ⟨k, k1, rfl⟩ := mem_getI hp
                exact ⟨k, k1, k1.2, hpt⟩⟩⟩) ⟨by simp, by simp, hq, fun d _ _ => rfl, ⟨fun h => absurd ((hK i hi).1 h).1 (by omega), fun ⟨k, k1, k2, _⟩ => by have := k1.1; simp only at k2; omega⟩⟩ (by simp only; omega)
        refine ⟨.inl (q', i + 1), ?_, ⟨by simp only; omega, by simp only; omega, k1, fun d hd => ?_⟩, by simp only; omega⟩
        · simp only [palingref42_reached_L1]
          rw [if_pos (by simpa using c), rMembers_spec hs, if_pos hi, Option.bind_some]
          rw [e1, Option.bind_some, wr64 (by omega) (by omega)]
        · simp only
          by_cases e : d = i
          · subst e
            rw [k3]
            exact ⟨fun h => ⟨by omega, hd, h⟩, fun h => h.2.2⟩
          · rw [k2 d hd e, hK d hd]
            exact ⟨fun h => ⟨by omega, h.2⟩, fun h => ⟨by omega, h.2⟩⟩
      · have : i = n.domains.length := by omega
        subst this
        exact ⟨.inr q, by simp only [palingref42_reached_L1]; rw [if_neg (by simp)], hq, fun d hd => (hK d hd).trans ⟨fun h => h.2, fun h => ⟨hd.2, h⟩⟩⟩) ⟨by simp, by simp, by simp, fun d hd => by rw [hrep d hd]; exact ⟨fun h => by simp at h, fun h => absurd h.1 (by have := hd.1; simp only; omega)⟩⟩ (by simp only; omega)
  exact ⟨p, e, h1, h2⟩
end
end Go.Eng

set_option linter.unusedVariables false
set_option linter.unusedSectionVars false
set_option linter.unusedSimpArgs false
namespace Go.Eng
open Go Classical
attribute [local congr] ite_cg

section
variable {n : Api_Net} {of : List Int}
theorem pass_sound {Q : Int → Prop} (hr : RightP n) (hQ : ∀ i x, 0 ≤ i → i < (n.domains.length : Int) → Q i → x ∈ hopD n i → Q x) {l : List Bool} (hl : l.length = n.domains.length) (h : ∀ d, inL n.domains d → getI l d = true → Q d) :
    ∀ d, inL n.domains d → getI (passK (hopD n) n.domains.length l) d = true → Q d := by
  refine passK_all (N := n.domains.length) (hopD_in hr) (P := fun l => ∀ d, inL n.domains d → getI l d = true → Q d) n.domains.length l (Nat.le_refl _) hl h (fun l i x i0 i1 hx hl hi hp d hd ht => ?_)
  rw [stepB_get hi ⟨hd.1, by have := hd.2; omega⟩] at ht
  by_cases e : d = x
  · rw [if_pos e, Bool.or_eq_true] at ht
    rcases ht with ht | ht
    · subst e; exact hp d hd ht
    · rw [e]; exact hQ i x i0 i1 (hp i ⟨i0, i1⟩ ht) hx
  · rw [if_neg e] at ht; exact hp d hd ht
theorem pass_keep (hr : RightP n) {l : List Bool} (hl : l.length = n.domains.length) {d : Int} (hd : inL n.domains d) (h : getI l d = true) : getI (passK (hopD n) n.domains.length l) d = true :=
  passK_all (N := n.domains.length) (hopD_in hr) (P := fun l => getI l d = true) n.domains.length l (Nat.le_refl _) hl h (fun l i x i0 i1 hx hl hi hp => stepB_mono hi ⟨hd.1, by have := hd.2; omega⟩ hp)
theorem num_pos {l : List Bool} {d : Int} (hd : inL l d) (h : getI l d = true) : 1 ≤ numT l := by
  have h1 := cnt_set (x := false) hd
  have h2 : 0 ≤ numT (l.set d.toNat false) := by
    unfold numT
    generalize l.set d.toNat false = q
    induction q with
    | nil => simp
    | cons a q ih =>
      rw [List.map_cons, List.sum_cons]
      have : 0 ≤ oneB a := by unfold oneB; split <;> omega
      omega
  rw [h] at h1
  simp [oneB] at h1
  omega
theorem reached_spec (hn : n.Ok) (hg : BndN n 200 100) (ho : OwnP n of) {t : Nat} : ∃ p l, palingref42_reached n of (t : Int) = some (p, l) ∧ p.length = n.domains.length ∧ l.length = n.domains.length ∧ (∀ d, inL n.domains d → (getI p d = true ↔ DerN n of false d t)) ∧ ∀ d, inL n.domains d → (getI l d = true ↔ DerN n of true d t) := by
  have hr := ho.2.1
  have hdl := hg.domains
  have hmk : mkok 1 (n.domains.length : Int) (n.domains.length : Int) = true := by unfold mkok; simp; omega
  obtain ⟨p0, e0, hp0, hs0⟩ := r42_seeds hg ho (t := t)
  have hlrep : ∀ d, inL n.domains d → getI (List.replicate n.domains.length false) d = false := fun d hd => List.eq_of_mem_replicate (getI_mem ⟨hd.1, by simpa using hd.2⟩)
  have hQp : ∀ i x, 0 ≤ i → i < (n.domains.length : Int) → DerN n of false i t → x ∈ hopD n i → DerN n of false x t := fun i x _ _ h hx => .hop h hx
  have hQl : ∀ i x, 0 ≤ i → i < (n.domains.length : Int) → DerN n of true i t → x ∈ hopD n i → DerN n of true x t := fun i x _ _ h hx => .hop h hx
  -- what is closed, and has its seeds
  have full : ∀ p : List Bool, ClB (hopD n) n.domains.length p → (∀ d, inL n.domains d → seedP n of d t → getI p d = true) → ∀ k d t', Der (hopD n) (leadD n) (seedP n of) k d t' → t' = t → k = false → inL n.domains d ∧ getI p d = true := by
    intro p hc hs k d t' h
    induction h with
    | seed h => intro e _; subst e; exact ⟨h.1, hs _ h.1 h⟩
    | @hop k d x t' h hx ih =>
      intro e ek
      obtain ⟨i1, i2⟩ := ih e ek
      exact ⟨hopD_in hr d i1.1 i1.2 x hx, hc d i1.1 i1.2 x hx i2⟩
    | route h hx ih => intro _ ek; cases ek
  have fullL : ∀ l : List Bool, ClB (hopD n) n.domains.length l → (∀ i, inL n.domains i → DerN n of false i t → ∀ m ∈ leadD n i, getI l m = true) → ∀ k d t', Der (hopD n) (leadD n) (seedP n of) k d t' → t' = t → inL n.domains d ∧ (k = true → getI l d = true) := by
    intro l hc hs k d t' h
    induction h with
    | seed h => intro _; exact ⟨h.1, fun e => by cases e⟩
    | @hop k d x t' h hx ih =>
      intro e
      obtain ⟨i1, i2⟩ := ih e
      exact ⟨hopD_in hr d i1.1 i1.2 x hx, fun ek => hc d i1.1 i1.2 x hx (i2 ek)⟩
    | @route d x t' h hx ih =>
      intro e
      obtain ⟨i1, _⟩ := ih e
      subst e
      exact ⟨leadD_in hr d i1.1 i1.2 x hx, fun _ => hs d i1 h x hx⟩
  have h2N := wr64 (n := 2 * (n.domains.length : Int)) (by omega) (by omega)
  obtain ⟨⟨p, l⟩, e, k1, k2, k3, k4⟩ := loopM_rule (f := fun s : (List Bool) × (List Bool) × Int => match s with | (l46, l47, v48) => palingref42_reached_L3 n l46 l47 v48)
    (fun s => 0 ≤ s.2.2 ∧ s.2.2 ≤ 2 * n.domains.length ∧ s.1.length = n.domains.length ∧ s.2.1.length = n.domains.length ∧
      (∀ d, inL n.domains d → getI s.1 d = true → DerN n of false d t) ∧ (∀ d, inL n.domains d → seedP n of d t → getI s.1 d = true) ∧ (ClB (hopD n) n.domains.length s.1 ∨ s.2.2 ≤ numT s.1) ∧
      (s.2.2 ≤ n.domains.length → ∀ d, inL n.domains d → getI s.2.1 d = false) ∧
      (n.domains.length < s.2.2 → (∀ d, inL n.domains d → getI s.2.1 d = true → DerN n of true d t) ∧ (∀ i, inL n.domains i → DerN n of false i t → ∀ m ∈ leadD n i, getI s.2.1 m = true) ∧ (ClB (hopD n) n.domains.length s.2.1 ∨ s.2.2 - n.domains.length ≤ numT s.2.1)))
    (fun r => r.1.length = n.domains.length ∧ r.2.length = n.domains.length ∧ (∀ d, inL n.domains d → (getI r.1 d = true ↔ DerN n of false d t)) ∧ ∀ d, inL n.domains d → (getI r.2 d = true ↔ DerN n of true d t))
    (fun s => (2 * n.domains.length - s.2.2).toNat) (s := (p0, List.replicate n.domains.length false, 0)) (fun s hI => by
      obtain ⟨p, l, r⟩ := s
      obtain ⟨r0, r1, hp, hl, a1, a2, a3, b1, b2⟩ := hI
      simp only at r0 r1 hp hl a1 a2 a3 b1 b2 ⊢
      by_cases c : r < 2 * (n.domains.length : Int)
      · have hw := wr64 (n := r + 1) (by omega) (by omega)
        have p1 : (passK (hopD n) n.domains.length p).length = n.domains.length := by rw [passK_len]; exact hp
        have l1 : (passK (hopD n) n.domains.length l).length = n.domains.length := by rw [passK_len]; exact hl
        have a1' := pass_sound hr hQp hp a1
        have a2' : ∀ d, inL n.domains d → seedP n of d t → getI (passK (hopD n) n.domains.length p) d = true := fun d hd hs => pass_keep hr hp hd (a2 d hd hs)
        have a3' := rounds_closed (hopD_in hr) hp a3
        by_cases cN : r = n.domains.length
        · -- the round of the routes
          have pc : ClB (hopD n) n.domains.length (passK (hopD n) n.domains.length p) := full_closed (hopD_in hr) p1 (a3'.imp id (fun h => by omega))
          have hpf : ∀ i, inL n.domains i → (getI (passK (hopD n) n.domains.length p) i = true ↔ DerN n of false i t) := fun i hi => ⟨a1' i hi, fun h => (full _ pc a2' false i t h rfl rfl).2⟩
          have lf : ∀ d, inL n.domains d → getI (passK (hopD n) n.domains.length l) d = false := fun d hd => by
            have hcl : ClB (hopD n) n.domains.length l := fun i i0 i1 h hh ht => by rw [b1 (by omega) i ⟨i0, i1⟩] at ht; cases ht
            rw [passK_same (hopD_in hr) hl hcl _ (Nat.le_refl _)]
            exact b1 (by omega) d hd
          obtain ⟨l', e1, e2, e3⟩ := r42_L7 hn hg hr p1 l1
          have e4 : ∀ d, inL n.domains d → (getI l' d = true ↔ ∃ i, inL n.domains i ∧ DerN n of false i t ∧ d ∈ leadD n i) := fun d hd => by
            rw [e3 d ⟨hd.1, by have := hd.2; omega⟩, lf d hd]
            constructor
            · rintro (h | ⟨i, i1, i2, i3⟩)
              · cases h
              · exact ⟨i, i1, (hpf i i1).1 i2, i3⟩
            · rintro ⟨i, i1, i2, i3⟩
              exact .inr ⟨i, i1, (hpf i i1).2 i2, i3⟩
          refine ⟨.inl (passK (hopD n) n.domains.length p, l', r + 1), ?_, ⟨by simp only; omega, by simp only; omega, p1, e2, a1', a2', a3', fun h => by simp only at h; omega, fun _ => ⟨fun d hd h => ?_, fun i hi h m hm => ?_, ?_⟩⟩, by simp only; omega⟩
          · simp only [palingref42_reached_L3]
            rw [h2N, if_pos (by simpa using c), r42_L4 hg hr hp hl, Option.bind_some]
            simp only
            rw [cN, e1, Option.bind_some, ← cN, hw]
          · obtain ⟨i, i1, i2, i3⟩ := (e4 d hd).1 h
            exact .route i2 i3
          · have := leadD_in hr i hi.1 hi.2 m hm
            exact (e4 m ⟨this.1, this.2⟩).2 ⟨i, hi, h, hm⟩
          · by_cases ex : ∃ d, inL n.domains d ∧ getI l' d = true
            · obtain ⟨d, hd, h⟩ := ex
              have := num_pos (l := l') (d := d) ⟨hd.1, by have := hd.2; omega⟩ h
              exact .inr (by simp only; omega)
            · exact .inl (fun i i0 i1 h hh ht => absurd ⟨i, ⟨i0, i1⟩, ht⟩ ex)
        · refine ⟨.inl (passK (hopD n) n.domains.length p, passK (hopD n) n.domains.length l, r + 1), ?_, ⟨by simp only; omega, by simp only; omega, p1, l1, a1', a2', a3', fun h d hd => ?_, fun h => ?_⟩, by simp only; omega⟩
          · simp only [palingref42_reached_L3]
            rw [h2N, if_pos (by simpa using c), r42_L4 hg hr hp hl, Option.bind_some]
            simp only
            rw [r42_L7no cN, Option.bind_some, hw]
          · simp only at h ⊢
            have hcl : ClB (hopD n) n.domains.length l := fun i i0 i1 h' hh ht => by rw [b1 (by omega) i ⟨i0, i1⟩] at ht; cases ht
            rw [passK_same (hopD_in hr) hl hcl _ (Nat.le_refl _)]
            exact b1 (by omega) d hd
          · simp only at h ⊢
            obtain ⟨c1, c2, c3⟩ := b2 (by omega)
            refine ⟨pass_sound hr hQl hl c1, fun i hi hd m hm => ?_, ?_⟩
            · have := leadD_in hr i hi.1 hi.2 m hm
              exact pass_keep hr hl ⟨this.1, this.2⟩ (c2 i hi hd m hm)
            · have := rounds_closed (hopD_in hr) hl c3
              exact this.imp id (fun h => by omega)
      · have hr2 : r = 2 * n.domains.length := by omega
        refine ⟨.inr (p, l), ?_, hp, hl, fun d hd => ⟨a1 d hd, fun h => ?_⟩, fun d hd => ?_⟩
        · simp only [palingref42_reached_L3]
          rw [h2N, if_neg (by simpa using c)]
        · have pc : ClB (hopD n) n.domains.length p := full_closed (hopD_in hr) hp (a3.imp id (fun h => by omega))
          exact (full _ pc a2 false d t h rfl rfl).2
        · have hd1 := hd.1; have hd2 := hd.2
          obtain ⟨c1, c2, c3⟩ := b2 (by omega)
          have lc : ClB (hopD n) n.domains.length l := full_closed (hopD_in hr) hl (c3.imp id (fun h => by omega))
          exact ⟨c1 d hd, fun h => (fullL _ lc c2 true d t h rfl).2 rfl⟩) ⟨by simp, by simp only; omega, hp0, by simp, fun d hd h => .seed ((hs0 d hd).1 h), fun d hd h => (hs0 d hd).2 h, .inr (by
        have : 0 ≤ numT p0 := by
          unfold numT
          generalize p0 = q
          induction q with
          | nil => simp
          | cons a q ih =>
            rw [List.map_cons, List.sum_cons]
            have : 0 ≤ oneB a := by unfold oneB; split <;> omega
            omega
        exact this), fun _ d hd => hlrep d hd, fun h => by simp only at h; omega⟩ (by simp only; omega)
  refine ⟨p, l, ?_, k1, k2, k3, k4⟩
  simp only [palingref42_reached, hmk, if_true, Int.toNat_natCast]
  rw [e0, Option.bind_some]
  rw [e]; rfl

/-! ### All labels -/
noncomputable def setN (P : Nat → Prop) : Nat → Int
  | 0 => 0
  | k + 1 => setN P k + if P k then ((2 ^ k : Nat) : Int) else 0
theorem setN_nat (P : Nat → Prop) : ∀ k, ∃ m : Nat, setN P k = (m : Int) ∧ m < 2 ^ k ∧ ∀ t, m.testBit t = decide (t < k ∧ P t)
  | 0 => ⟨0, rfl, by simp, fun t => by simp⟩
  | k + 1 => by
    obtain ⟨m, e, h1, h2⟩ := setN_nat P k
    by_cases c : P k
    · refine ⟨2 ^ k + m, by rw [setN, e, if_pos c]; omega, by rw [Nat.pow_succ]; omega, fun t => ?_⟩
      by_cases e1 : t = k
      · subst e1
        rw [Nat.testBit_two_pow_add_eq, h2]
        simp [c]
      · by_cases e2 : t < k
        · rw [Nat.testBit_two_pow_add_gt (by omega), h2]
          simp [e2, show t < k + 1 by omega]
        · have : 2 ^ k + m < 2 ^ t := by
            have h3 : 2 ^ (k + 1) ≤ 2 ^ t := Nat.pow_le_pow_right (by decide) (by omega)
            rw [Nat.pow_succ] at h3
            omega
          rw [Nat.testBit_lt_two_pow this]
          simp [show ¬ t < k + 1 by omega]
    · refine ⟨m, by rw [setN, e, if_neg c]; omega, by rw [Nat.pow_succ]; omega, fun t => ?_⟩
      rw [h2]
      by_cases e1 : t = k
      · subst e1; simp [c]
      · have : t < k + 1 ↔ t < k := by omega
        simp [this]
theorem setN_b (P : Nat → Prop) : 0 ≤ setN P 10 ∧ setN P 10 < 1024 ∧ ∀ t, tb (setN P 10) t = decide (t < 10 ∧ P t) := by
  obtain ⟨m, e, h1, h2⟩ := setN_nat P 10
  rw [e]
  exact ⟨by omega, by omega, fun t => by unfold tb; rw [Int.toNat_natCast]; exact h2 t⟩
theorem setN_le (P : Nat → Prop) {k : Nat} (hk : k ≤ 10) : 0 ≤ setN P k ∧ setN P k < 1024 := by
  obtain ⟨m, e, h1, h2⟩ := setN_nat P k
  have : 2 ^ k ≤ 2 ^ 10 := Nat.pow_le_pow_right (by decide) hk
  omega
theorem powL {t : Nat} (h : t < 10) : inL [(1 : Int), 2, 4, 8, 16, 32, 64, 128, 256, 512] (t : Int) ∧ getI [(1 : Int), 2, 4, 8, 16, 32, 64, 128, 256, 512] (t : Int) = ((2 ^ t : Nat) : Int) := by
  have key : ∀ t : Fin 10, getI [(1 : Int), 2, 4, 8, 16, 32, 64, 128, 256, 512] ((t.val : Nat) : Int) = ((2 ^ t.val : Nat) : Int) := by decide
  exact ⟨⟨by omega, by simp; omega⟩, key ⟨t, h⟩⟩
end
end Go.Eng

set_option linter.unusedVariables false
set_option linter.unusedSectionVars false
set_option linter.unusedSimpArgs false
namespace Go.Eng
open Go Classical
attribute [local congr] ite_cg

theorem works42 : palinglaw42_works = some true := by kernel_rfl
end Go.Eng

set_option linter.unusedVariables false
set_option linter.unusedSectionVars false
set_option linter.unusedSimpArgs false
namespace Go.Eng
open Go Classical
attribute [local congr] ite_cg

section
variable {n : Api_Net} {of : List Int}
theorem der_seed {k : Bool} {d : Int} {t : Nat} (h : DerN n of k d t) : ∃ x p, p ∈ membersL n x ∧ getI of p = (t : Int) := by
  induction h with
  | @seed d t h => exact ⟨d, h.2.choose, h.2.choose_spec⟩
  | hop _ _ ih => exact ih
  | route _ _ ih => exact ih
noncomputable def rlab (n : Api_Net) (of : List Int) (t : Nat) (d : Int) : Palingref42_Label := ⟨setN (fun s => DerN n of false d s) t, setN (fun s => DerN n of true d s) t⟩
theorem r42All_L2 (hN : n.domains.length ≤ 200) {t : Nat} (ht : t < 10) {p l : List Bool} (hp : p.length = n.domains.length) (hl : l.length = n.domains.length) (h1 : ∀ d, inL n.domains d → (getI p d = true ↔ DerN n of false d t)) (h2 : ∀ d, inL n.domains d → (getI l d = true ↔ DerN n of true d t)) :
    loopM (fun s : (List Palingref42_Label) × Int => match s with | (l18, v19) => palingref42_All_L2 n of (t : Int) p l l18 v19) (mkG n.domains.length (rlab n of t), 0) = some (mkG n.domains.length (rlab n of (t + 1))) := by
  obtain ⟨iP, gP⟩ := powL ht
  have hpw := pow_1024 ht
  have hpw0 : (0 : Int) ≤ ((2 ^ t : Nat) : Int) := Int.natCast_nonneg _
  obtain ⟨q, e, hq⟩ := loopM_rule (f := fun s : (List Palingref42_Label) × Int => match s with | (l18, v19) => palingref42_All_L2 n of (t : Int) p l l18 v19)
    (fun s => 0 ≤ s.2 ∧ s.2 ≤ n.domains.length ∧ s.1.length = n.domains.length ∧ ∀ d, inL n.domains d → getI s.1 d = if d < s.2 then rlab n of (t + 1) d else rlab n of t d)
    (fun q => q = mkG n.domains.length (rlab n of (t + 1))) (fun s => (n.domains.length - s.2).toNat) (s := (mkG n.domains.length (rlab n of t), 0)) (fun s hI => by
      obtain ⟨q, j⟩ := s
      obtain ⟨j0, j1, hq, hK⟩ := hI
      simp only at j0 j1 hq hK ⊢
      by_cases c : j < (n.domains.length : Int)
      · have hj : inL n.domains j := ⟨j0, c⟩
        have ip : inL p j := ⟨j0, by omega⟩
        have il : inL l j := ⟨j0, by omega⟩
        have iq : inL q j := ⟨j0, by omega⟩
        have hv := hK j hj
        rw [if_neg (by omega)] at hv
        have b1 := setN_le (fun s => DerN n of false j s) (k := t) (by omega)
        have b2 := setN_le (fun s => DerN n of true j s) (k := t) (by omega)
        have hJ : palingref42_All_J3 n of (t : Int) p l q j = some (q.set j.toNat ⟨setN (fun s => DerN n of false j s) (t + 1), setN (fun s => DerN n of true j s) t⟩) := by
          unfold palingref42_All_J3
          rw [if_pos (linT ip), getI_get? ip, Option.bind_some]
          by_cases c1 : getI p j = true
          · rw [if_pos c1, if_pos (linT iq), getI_get? iq, Option.bind_some, palingref42_powers, Option.bind_some]
            rw [if_pos (linT iP), getI_get? iP, Option.bind_some, Option.bind_some, gP, hv, rlab, setN, if_pos ((h1 j hj).1 c1)]
            simp only
            rw [wr64 (by omega) (by omega)]
          · rw [if_neg c1]
            have : (⟨setN (fun s => DerN n of false j s) (t + 1), setN (fun s => DerN n of true j s) t⟩ : Palingref42_Label) = getI q j := by
              rw [hv, rlab, setN, if_neg (fun h => c1 ((h1 j hj).2 h))]; simp
            rw [this, set_same iq]
        have iq2 : inL (q.set j.toNat ⟨setN (fun s => DerN n of false j s) (t + 1), setN (fun s => DerN n of true j s) t⟩) j := inL_setI.2 iq
        have gq2 : getI (q.set j.toNat ⟨setN (fun s => DerN n of false j s) (t + 1), setN (fun s => DerN n of true j s) t⟩) j = ⟨setN (fun s => DerN n of false j s) (t + 1), setN (fun s => DerN n of true j s) t⟩ := by rw [getI_setI iq iq, if_pos rfl]
        refine ⟨.inl (q.set j.toNat (rlab n of (t + 1) j), j + 1), ?_, ⟨by simp only; omega, by simp only; omega, by simp only [List.length_set]; exact hq, fun d hd => ?_⟩, by simp only; omega⟩
        · simp only [palingref42_All_L2]
          rw [if_pos (by simpa using c), hJ, Option.bind_some]
          rw [if_pos (linT il), getI_get? il, Option.bind_some, wr64 (n := j + 1) (by omega) (by omega)]
          by_cases c2 : getI l j = true
          · rw [if_pos c2, if_pos (linT iq2), getI_get? iq2, Option.bind_some, palingref42_powers, Option.bind_some]
            rw [if_pos (linT iP), getI_get? iP, Option.bind_some, Option.bind_some, gP, gq2, List.set_set]
            simp only
            rw [wr64 (by omega) (by omega), rlab]
            have : setN (fun s => DerN n of true j s) (t + 1) = setN (fun s => DerN n of true j s) t + ((2 ^ t : Nat) : Int) := by rw [setN, if_pos ((h2 j hj).1 c2)]
            rw [this]
          · rw [if_neg c2, rlab]
            have : setN (fun s => DerN n of true j s) (t + 1) = setN (fun s => DerN n of true j s) t := by rw [setN, if_neg (fun h => c2 ((h2 j hj).2 h))]; simp
            rw [this]
        · have hdq : inL q d := ⟨hd.1, by have := hd.2; omega⟩
          simp only
          rw [getI_setI iq hdq, hK d hd]
          by_cases e : d = j
          · rw [if_pos e, if_pos (by omega), e]
          · rw [if_neg e]
            by_cases e2 : d < j
            · rw [if_pos e2, if_pos (by omega)]
            · rw [if_neg e2, if_neg (by omega)]
      · have : j = n.domains.length := by omega
        subst this
        refine ⟨.inr q, by simp only [palingref42_All_L2]; rw [if_neg (by simp)], list_eqI.2 ⟨by rw [mkG_len]; exact hq, fun d hd => ?_⟩⟩
        have hdd : inL n.domains d := ⟨hd.1, by have := hd.2; omega⟩
        show getI q d = getI (mkG n.domains.length (rlab n of (t + 1))) d
        rw [hK d hdd, if_pos hdd.2, mkG_get ⟨hdd.1, hdd.2⟩]) ⟨by simp, by simp, mkG_len, fun d hd => by rw [if_neg (by have := hd.1; simp only; omega)]; exact mkG_get ⟨hd.1, hd.2⟩⟩ (by simp only; omega)
  rw [e, hq]
theorem rAll42_no (hs : SmN n) (hf : Few of) (h : ¬ OwnP n of) : palingref42_All n of = some ([], 0, false) := by
  simp only [palingref42_All, rOwners_Right_spec hs hf, Option.bind_some, decide_eq_false h, Bool.not_false, if_true]
theorem rAll42_spec (hn : n.Ok) (hg : BndN n 200 100) (hf : Few of) (ho : OwnP n of) : palingref42_All n of = some (mkG n.domains.length (rlab n of 10), n.domains.length, true) := by
  have hs := hg.sm
  have hdl := hg.domains
  have hmk : mkok 16 (n.domains.length : Int) (n.domains.length : Int) = true := by unfold mkok; simp; omega
  have hz : List.replicate n.domains.length (⟨0, 0⟩ : Palingref42_Label) = mkG n.domains.length (rlab n of 0) := by
    refine list_eqI.2 ⟨by simp [mkG_len], fun d hd => ?_⟩
    have hd' : 0 ≤ d ∧ d < (n.domains.length : Int) := ⟨hd.1, by simpa using hd.2⟩
    show getI _ d = getI _ d
    rw [List.eq_of_mem_replicate (getI_mem hd), mkG_get hd']; rfl
  have e := loopM_trace (f := fun s : (List Palingref42_Label) × Int => match s with | (l7, v8) => palingref42_All_L1 n of l7 v8) (r := mkG n.domains.length (rlab n of 10)) (fun t => (mkG n.domains.length (rlab n of t), (t : Int))) 10 (by decide) (fun t ht => by
    simp only [palingref42_All_L1]
    rw [if_pos (by simp; omega), rOf_spec hf, Option.bind_some, wr64 (by omega) (by omega)]
    by_cases c : ofL of (t : Int) = []
    · rw [if_pos (by rw [c]; rfl)]
      have hno : ∀ k d, ¬ DerN n of k d t := fun k d h => by
        obtain ⟨x, p, hp, hpt⟩ := der_seed h
        have hi := (owner_ok ho (membersL_in hp)).1
        have : p ∈ ofL of (t : Int) := mem_gatherI.2 ⟨p, hi, hpt, rfl⟩
        rw [c] at this; cases this
      have : rlab n of (t + 1) = rlab n of t := by
        funext d
        unfold rlab
        rw [setN, setN, if_neg (hno _ _), if_neg (hno _ _)]; simp
      rw [this]; rfl
    · rw [if_neg (by
        have : (ofL of (t : Int)).length ≠ 0 := fun h => c (List.eq_nil_of_length_eq_zero h)
        simp; exact c)]
      obtain ⟨p, l, e, h1, h2, h3, h4⟩ := reached_spec hn hg ho (t := t)
      rw [e, Option.bind_some]
      simp only
      rw [r42All_L2 hdl ht h1 h2 h3 h4, Option.bind_some]
      rfl) (by simp only [palingref42_All_L1]; rw [if_neg (by simp)])
  have e' : loopM (fun s : (List Palingref42_Label) × Int => match s with | (l7, v8) => palingref42_All_L1 n of l7 v8) (mkG n.domains.length (rlab n of 0), 0) = some (mkG n.domains.length (rlab n of 10)) := e
  simp only [palingref42_All, rOwners_Right_spec hs hf, Option.bind_some, decide_eq_true ho, Bool.not_true, Bool.false_eq_true, if_false, hmk, if_true, Int.toNat_natCast]
  rw [hz, e']; rfl
theorem lab_same {b : List Labels_Label} (hb : AllF n of b) (ho : OwnP n of) {d : Int} (hd : inL n.domains d) : (getI b d).plain = (rlab n of 10 d).plain ∧ (getI b d).led = (rlab n of 10 d).led := by
  have hlb := hb.ok.2 d ⟨hd.1, by have := hd.2; have := hb.ok.1; omega⟩
  have hhi : ∀ k t, DerN n of k d t → t < 10 := fun k t h => by
    obtain ⟨x, p, hp, hpt⟩ := der_seed h
    have := (owner_ok ho (membersL_in hp)).2
    omega
  constructor
  · obtain ⟨s0, s1, s2⟩ := setN_b (fun s => DerN n of false d s)
    refine tb_eq hlb.p0 s0 (fun t => ?_)
    rw [Bool.eq_iff_iff, hb.plain d hd t]
    show _ ↔ tb (setN (fun s => DerN n of false d s) 10) t = true
    rw [s2 t, decide_eq_true_eq]
    exact ⟨fun h => ⟨hhi _ _ h, h⟩, fun h => h.2⟩
  · obtain ⟨s0, s1, s2⟩ := setN_b (fun s => DerN n of true d s)
    refine tb_eq hlb.l0 s0 (fun t => ?_)
    rw [Bool.eq_iff_iff, hb.led d hd t]
    show _ ↔ tb (setN (fun s => DerN n of true d s) 10) t = true
    rw [s2 t, decide_eq_true_eq]
    exact ⟨fun h => ⟨hhi _ _ h, h⟩, fun h => h.2⟩
def hasP (x t : Int) : Prop := 0 ≤ t ∧ t < 10 ∧ tb x t.toNat = true
theorem rHas_spec {x t : Int} (x0 : 0 ≤ x) (x1 : x < 1000000000000) : palingref42_Has x t = some (decide (hasP x t)) := by
  unfold palingref42_Has hasP
  by_cases c1 : t < 0
  · rw [if_pos (by simpa using c1)]; simp; omega
  · by_cases c2 : t > 9
    · rw [if_neg (by simpa using c1), if_pos (by simpa using c2)]; simp; omega
    · obtain ⟨k, rfl⟩ : ∃ k : Nat, t = (k : Int) := ⟨t.toNat, by omega⟩
      obtain ⟨iP, gP⟩ := powL (t := k) (by omega)
      have hp := Nat.two_pow_pos k
      rw [if_neg (by simp), if_neg (by simpa using c2), if_neg (by simp; omega), palingref42_powers, Option.bind_some]
      have e1 : Int.tdiv x ((2 ^ k : Nat) : Int) = ((x.toNat / 2 ^ k : Nat) : Int) := by
        rw [Int.tdiv_eq_ediv_of_nonneg x0]
        conv => lhs; rw [show x = ((x.toNat : Nat) : Int) by omega]
        simp
      have hle : x.toNat / 2 ^ k ≤ x.toNat := Nat.div_le_self _ _
      have hne : (((2 ^ k : Nat) : Int) != 0) = true := by
        simp only [bne_iff_ne, ne_eq]
        intro h
        have : (2 ^ k : Nat) = 0 := Int.ofNat.inj h
        omega
      rw [if_pos (linT iP), getI_get? iP, Option.bind_some, gP, if_pos hne, e1]
      unfold tb
      rw [Int.toNat_natCast, Nat.testBit_eq_decide_div_mod_eq]
      generalize x.toNat / 2 ^ k = y at *
      rw [wr64 (by omega) (by omega)]
      have e2 : Int.tmod ((y : Nat) : Int) 2 = ((y % 2 : Nat) : Int) := by
        rw [Int.tmod_eq_emod_of_nonneg (by omega)]; simp
      rw [e2]
      by_cases c3 : y % 2 = 1
      · rw [c3]; simp; omega
      · rw [show y % 2 = 0 by omega]; simp
end
end Go.Eng

set_option linter.unusedVariables false
set_option linter.unusedSectionVars false
set_option linter.unusedSimpArgs false
namespace Go.Eng
open Go Classical
attribute [local congr] ite_cg
section
theorem rInts_spec {l r : List Int} (hb : Few l) : palingref03_Ints l r = some (decide (l = r)) := by
  by_cases hl : l.length = r.length
  · have hli : ¬ ((l.length : Int) ≠ (r.length : Int)) := by omega
    simp only [palingref03_Ints, ibne, decide_eq_true_eq, if_neg hli]
    rw [loop_eq l r hl hb (fun i h0 h1 h2 h3 => by
      simp (disch := omega) only [palingref03_Ints_L1, h1, nth_getI h2, nth_getI h3, wr64, bind_ite, Option.bind_some, dif1, dif2, dif3, dif4, dif5, dif6, dif7, dnot, ibeq, ibne, decide_eq_true_eq, if_not2, ge_iff_le, gt_iff_lt, fst_ret, Bool.false_eq_true, decide_false, mrg1, mrg2, mrg3, mrg4, mrg5, mrg6, mrg7, decide_true, if_true]; exact fpos Iff.rfl) (by simp [palingref03_Ints_L1])]
    simp only [bind_ite, Option.bind_some, dif1, dif2, dif3, dif4, dif5, dif6, dif7, dnot, ibeq, ibne, decide_eq_true_eq, if_not2, ge_iff_le, gt_iff_lt, fst_ret, Bool.false_eq_true, decide_false]
  · have hli : ((l.length : Int) ≠ (r.length : Int)) := by omega
    have : ¬ l = r := fun e => hl (by rw [e])
    simp [palingref03_Ints, hli, this]
end
end Go.Eng

set_option linter.unusedVariables false
set_option linter.unusedSectionVars false
set_option linter.unusedSimpArgs false
namespace Go.Eng
open Go Classical
attribute [local congr] ite_cg

section
variable {n : Api_Net} {of : List Int}
def inPort (n : Api_Net) (of : List Int) (p : Int) (t : Nat) : Prop := ∃ d, inL n.domains d ∧ p ∈ membersL n d ∧ (DerN n of false d t ∨ DerN n of true d t)
theorem ports_in (hg : BndN n 200 100) (ho : OwnP n of) {b : List Labels_Label} (hb : AllF n of b) {d : Int} (hd : inL n.domains d) {n6 : Nat} {q : List Int} (hq : q.length = n.ports.length) (hqb : ∀ p, inL n.ports p → 0 ≤ getI q p ∧ getI q p < 1024) :
    ∃ r, loopM (fun s : (List Int) × Int => match s with | (l19, v20) => labels_Ports_L2 n of b n6 d (getI b d) (membersL n d) l19 v20) (q, 0) = some r ∧ r.length = n.ports.length ∧
      ∀ p, inL n.ports p → (0 ≤ getI r p ∧ getI r p < 1024) ∧ ∀ t, tb (getI r p) t = true ↔ tb (getI q p) t = true ∨ 0 ≤ getI of p ∧ p ∈ membersL n d ∧ (DerN n of false d t ∨ DerN n of true d t) := by
  have hml : (membersL n d).length ≤ 200 := Nat.le_trans membersL_len hg.ports
  have hlb := hb.ok.2 d ⟨hd.1, by have := hd.2; have := hb.ok.1; omega⟩
  obtain ⟨_, u0, u1, u2⟩ := or64_b hlb.p0 hlb.p1 hlb.l0 hlb.l1
  have u3 : ∀ t, tb (bits_or .i64 (getI b d).plain (getI b d).led) t = true ↔ DerN n of false d t ∨ DerN n of true d t := fun t => by
    rw [u2 t, Bool.or_eq_true, hb.plain d hd t, hb.led d hd t]
  obtain ⟨r, e, h1, h2⟩ := loopM_rule (f := fun s : (List Int) × Int => match s with | (l19, v20) => labels_Ports_L2 n of b n6 d (getI b d) (membersL n d) l19 v20)
    (fun s => 0 ≤ s.2 ∧ s.2 ≤ (membersL n d).length ∧ s.1.length = n.ports.length ∧ ∀ p, inL n.ports p → (0 ≤ getI s.1 p ∧ getI s.1 p < 1024) ∧ ∀ t, tb (getI s.1 p) t = true ↔ tb (getI q p) t = true ∨ 0 ≤ getI of p ∧ (∃ k, inL (membersL n d) k ∧ k < s.2 ∧ getI (membersL n d) k = p) ∧ (DerN n of false d t ∨ DerN n of true d t))
    (fun r => r.length = n.ports.length ∧ ∀ p, inL n.ports p → (0 ≤ getI r p ∧ getI r p < 1024) ∧ ∀ t, tb (getI r p) t = true ↔ tb (getI q p) t = true ∨ 0 ≤ getI of p ∧ p ∈ membersL n d ∧ (DerN n of false d t ∨ DerN n of true d t))
    (fun s => ((membersL n d).length - s.2).toNat) (s := (q, 0)) (fun s hI => by
      obtain ⟨r, j⟩ := s
      obtain ⟨j0, j1, hr, hK⟩ := hI
      simp only at j0 j1 hr hK ⊢
      by_cases c : j < ((membersL n d).length : Int)
      · have hj : inL (membersL n d) j := ⟨j0, c⟩
        have hpp := membersL_in (getI_mem hj)
        obtain ⟨hio, _⟩ := owner_ok ho hpp
        have hw := wr64 (n := j + 1) (by omega) (by omega)
        have hpr : inL r (getI (membersL n d) j) := ⟨hpp.1, by have := hpp.2; omega⟩
        by_cases hv : 0 ≤ getI of (getI (membersL n d) j)
        · obtain ⟨⟨k0, k1⟩, k2⟩ := hK _ hpp
          obtain ⟨_, w0, w1, w2⟩ := or64_b k0 k1 u0 u1
          refine ⟨.inl (r.set (getI (membersL n d) j).toNat (bits_or .i64 (getI r (getI (membersL n d) j)) (bits_or .i64 (getI b d).plain (getI b d).led)), j + 1), ?_, ⟨by simp only; omega, by simp only; omega, by simp only [List.length_set]; exact hr, fun p hp => ?_⟩, by simp only; omega⟩
          · simp only [labels_Ports_L2]
            rw [if_pos (by simpa using c), if_pos (linT hj), getI_get? hj, Option.bind_some, nth_getI hio, Option.bind_some, if_pos (by simpa using hv), if_pos (linT hpr), getI_get? hpr, Option.bind_some, Option.bind_some, hw]
          · simp only
            rw [getI_setI hpr ⟨hp.1, by have := hp.2; omega⟩]
            by_cases e : p = getI (membersL n d) j
            · rw [if_pos e]
              refine ⟨⟨w0, w1⟩, fun t => ?_⟩
              rw [w2 t, Bool.or_eq_true, u3 t, k2 t, ← e]
              constructor
              · rintro ((h | ⟨h1, ⟨k, q1, q2, q3⟩, h2⟩) | h)
                · exact .inl h
                · exact .inr ⟨h1, ⟨k, q1, by omega, q3⟩, h2⟩
                · exact .inr ⟨by rw [e]; exact hv, ⟨j, hj, by omega, e.symm⟩, h⟩
              · rintro (h | ⟨h1, ⟨k, q1, q2, q3⟩, h2⟩)
                · exact .inl (.inl h)
                · exact .inr h2
            · rw [if_neg e]
              obtain ⟨m1, m2⟩ := hK p hp
              refine ⟨m1, fun t => (m2 t).trans ⟨?_, ?_⟩⟩
              · rintro (h | ⟨h1, ⟨k, q1, q2, q3⟩, h2⟩)
                · exact .inl h
                · exact .inr ⟨h1, ⟨k, q1, by omega, q3⟩, h2⟩
              · rintro (h | ⟨h1, ⟨k, q1, q2, q3⟩, h2⟩)
                · exact .inl h
                · refine .inr ⟨h1, ⟨k, q1, ?_, q3⟩, h2⟩
                  by_cases e2 : k = j
                  · subst e2; exact absurd q3.symm e
                  · omega
        · refine ⟨.inl (r, j + 1), ?_, ⟨by simp only; omega, by simp only; omega, hr, fun p hp => ?_⟩, by simp only; omega⟩
          · simp only [labels_Ports_L2]
            rw [if_pos (by simpa using c), if_pos (linT hj), getI_get? hj, Option.bind_some, nth_getI hio, Option.bind_some, if_neg (by simpa using hv), hw]
          · obtain ⟨m1, m2⟩ := hK p hp
            refine ⟨m1, fun t => (m2 t).trans ⟨?_, ?_⟩⟩
            · rintro (h | ⟨h1, ⟨k, q1, q2, q3⟩, h2⟩)
              · exact .inl h
              · exact .inr ⟨h1, ⟨k, q1, by simp only; omega, q3⟩, h2⟩
            · rintro (h | ⟨h1, ⟨k, q1, q2, q3⟩, h2⟩)
              · exact .inl h
              · refine .inr ⟨h1, ⟨k, q1, ?_, q3⟩, h2⟩
                simp only at q2
                by_cases e2 : k = j
                · subst e2; rw [q3] at hv; exact absurd h1 hv
                · omega
      · have : j = (membersL n d).length := by omega
        subst this
        refine ⟨.inr r, by simp only [labels_Ports_L2]; rw [if_neg (by simp)], hr, fun p hp => ?_⟩
        obtain ⟨m1, m2⟩ := hK p hp
        refine ⟨m1, fun t => (m2 t).trans ⟨?_, ?_⟩⟩
        · rintro (h | ⟨h1, ⟨k, q1, q2, q3⟩, h2⟩)
          · exact .inl h
          · exact .inr ⟨h1, by rw [← q3]; exact getI_mem q1, h2⟩
        · rintro (h | ⟨h1, hm, h2⟩)
          · exact .inl h
          · obtain ⟨k, q1, q3⟩ := mem_getI hm
            exact .inr ⟨h1, ⟨k, q1, q1.2, q3⟩, h2⟩) ⟨by simp, by simp, hq, fun p hp => ⟨hqb p hp, fun t => ⟨.inl, fun h => h.elim id (fun ⟨_, ⟨k, k1, k2, _⟩, _⟩ => by have := k1.1; simp only at k2; omega)⟩⟩⟩ (by simp only; omega)
  exact ⟨r, e, h1, h2⟩
theorem labels_Ports_no (hs : SmN n) (hf : Few of) (h : ¬ OwnP n of) : labels_Ports n of = some ([], 0, false) := by
  simp only [labels_Ports, labels_All_no hs hf h, Option.bind_some, Bool.not_false, if_true]
theorem labels_Ports_spec (hn : n.Ok) (hg : BndN n 200 100) (hf : Few of) (ho : OwnP n of) :
    ∃ r, labels_Ports n of = some (r, n.ports.length, true) ∧ r.length = n.ports.length ∧ ∀ p, inL n.ports p → 0 ≤ getI r p ∧ ∀ t, tb (getI r p) t = true ↔ 0 ≤ getI of p ∧ inPort n of p t := by
  have hs := hg.sm
  have hr := ho.2.1
  have hdl := hg.domains
  have hpl := hg.ports
  have hmk : mkok 8 (n.ports.length : Int) (n.ports.length : Int) = true := by unfold mkok; simp; omega
  obtain ⟨b, e, hb⟩ := labels_All_spec hn hg hf ho
  have hbl := hb.ok.1
  have hrep : ∀ p, inL n.ports p → getI (List.replicate n.ports.length (0 : Int)) p = 0 := fun p hp => List.eq_of_mem_replicate (getI_mem ⟨hp.1, by simpa using hp.2⟩)
  obtain ⟨r, e2, h1, h2⟩ := loopM_rule (f := fun s : (List Int) × Int => match s with | (l10, v11) => labels_Ports_L1 n of b n.domains.length l10 v11)
    (fun s => 0 ≤ s.2 ∧ s.2 ≤ n.domains.length ∧ s.1.length = n.ports.length ∧ ∀ p, inL n.ports p → (0 ≤ getI s.1 p ∧ getI s.1 p < 1024) ∧ ∀ t, tb (getI s.1 p) t = true ↔ 0 ≤ getI of p ∧ ∃ d, inL n.domains d ∧ d < s.2 ∧ p ∈ membersL n d ∧ (DerN n of false d t ∨ DerN n of true d t))
    (fun r => r.length = n.ports.length ∧ ∀ p, inL n.ports p → 0 ≤ getI r p ∧ ∀ t, tb (getI r p) t = true ↔ 0 ≤ getI of p ∧ inPort n of p t)
    (fun s => (n.domains.length - s.2).toNat) (s := (List.replicate n.ports.length (0 : Int), 0)) (fun s hI => by
      obtain ⟨q, j⟩ := s
      obtain ⟨j0, j1, hq, hK⟩ := hI
      simp only at j0 j1 hq hK ⊢
      by_cases c : j < (n.domains.length : Int)
      · have hj : inL n.domains j := ⟨j0, c⟩
        have hjb : inL b j := ⟨j0, by omega⟩
        obtain ⟨q', k1, k2, k3⟩ := ports_in hg ho hb hj (n6 := n.domains.length) hq (fun p hp => (hK p hp).1)
        refine ⟨.inl (q', j + 1), ?_, ⟨by simp only; omega, by simp only; omega, k2, fun p hp => ?_⟩, by simp only; omega⟩
        · simp only [labels_Ports_L1]
          rw [if_pos (by simpa using c), if_pos (linT hjb), getI_get? hjb, Option.bind_some, names_Members_spec hs, if_pos ⟨hr, hj⟩, Option.bind_some]
          rw [k1, Option.bind_some, wr64 (by omega) (by omega)]
        · obtain ⟨m1, m2⟩ := k3 p hp
          refine ⟨m1, fun t => ?_⟩
          simp only
          rw [m2 t, (hK p hp).2 t]
          constructor
          · rintro (⟨h1, d, d1, d2, d3, d4⟩ | ⟨h1, h2, h3⟩)
            · exact ⟨h1, d, d1, by omega, d3, d4⟩
            · exact ⟨h1, j, hj, by omega, h2, h3⟩
          · rintro ⟨h1, d, d1, d2, d3, d4⟩
            by_cases e : d = j
            · subst e; exact .inr ⟨h1, d3, d4⟩
            · exact .inl ⟨h1, d, d1, by omega, d3, d4⟩
      · have : j = n.domains.length := by omega
        subst this
        refine ⟨.inr q, by simp only [labels_Ports_L1]; rw [if_neg (by simp)], hq, fun p hp => ⟨(hK p hp).1.1, fun t => ((hK p hp).2 t).trans ⟨?_, ?_⟩⟩⟩
        · rintro ⟨h1, d, d1, _, d3, d4⟩; exact ⟨h1, d, d1, d3, d4⟩
        · rintro ⟨h1, d, d1, d3, d4⟩; exact ⟨h1, d, d1, d1.2, d3, d4⟩) ⟨by simp, by simp, by simp, fun p hp => by
        rw [hrep p hp]
        exact ⟨by simp, fun t => ⟨fun h => (by rw [tb_zero] at h; cases h), fun ⟨_, d, d1, d2, _⟩ => by have := d1.1; simp only at d2; omega⟩⟩⟩ (by simp only; omega)
  refine ⟨r, ?_, h1, h2⟩
  simp only [labels_Ports, e, Option.bind_some, Bool.not_true, Bool.false_eq_true, if_false, hmk, if_true, Int.toNat_natCast]
  rw [e2]; rfl
/-! ### The reference's sets -/
theorem rPorts_found (hg : BndN n 200 100) (ho : OwnP n of) {p : Int} {t : Nat} (ht : t < 10) {l13 : List Int} :
    loopM (fun s : Bool × Int => match s with | (v19, v20) => palingref42_Ports_L3 n (mkG n.domains.length (rlab n of 10)) n.domains.length p l13 (t : Int) v19 v20) (false, 0) = some (decide (inPort n of p t)) := by
  have hs := hg.sm
  have hdl := hg.domains
  have e := loop_any (f := fun s : Bool × Int => match s with | (v19, v20) => palingref42_Ports_L3 n (mkG n.domains.length (rlab n of 10)) n.domains.length p l13 (t : Int) v19 v20) n.domains (fun d _ => p ∈ membersL n d ∧ (DerN n of false d t ∨ DerN n of true d t)) (out := fun b => b) (by unfold Few; omega) (fun d b d0 d1 hd => by
    have hml : (membersL n d).length ≤ 200 := Nat.le_trans membersL_len hg.ports
    have ig : inL (mkG n.domains.length (rlab n of 10)) d := mkG_inL.2 ⟨d0, d1⟩
    have gg : getI (mkG n.domains.length (rlab n of 10)) d = rlab n of 10 d := mkG_get ⟨d0, d1⟩
    obtain ⟨s0, s1, s2⟩ := setN_b (fun s => DerN n of false d s)
    obtain ⟨r0, r1, r2⟩ := setN_b (fun s => DerN n of true d s)
    have h1 : hasP (rlab n of 10 d).plain (t : Int) ↔ DerN n of false d t := by
      unfold hasP rlab
      simp only [Int.toNat_natCast]
      rw [s2 t, decide_eq_true_eq]
      exact ⟨fun h => h.2.2.2, fun h => ⟨by omega, by omega, ht, h⟩⟩
    have h2 : hasP (rlab n of 10 d).led (t : Int) ↔ DerN n of true d t := by
      unfold hasP rlab
      simp only [Int.toNat_natCast]
      rw [r2 t, decide_eq_true_eq]
      exact ⟨fun h => h.2.2.2, fun h => ⟨by omega, by omega, ht, h⟩⟩
    have b1 : 0 ≤ (rlab n of 10 d).plain ∧ (rlab n of 10 d).plain < 1024 := ⟨s0, s1⟩
    have b2 : 0 ≤ (rlab n of 10 d).led ∧ (rlab n of 10 d).led < 1024 := ⟨r0, r1⟩
    simp only [palingref42_Ports_L3]
    rw [if_pos (by simpa using d1), rMembers_spec hs, if_pos hd, Option.bind_some]
    rw [rIn_spec (by unfold Few; omega), Option.bind_some, wr64 (by omega) (by omega)]
    cases b
    · rw [if_neg (by simp)]
      by_cases c : p ∈ membersL n d
      · rw [if_pos (decide_eq_true c), if_pos (linT ig), getI_get? ig, Option.bind_some, gg, rHas_spec b1.1 (by omega), Option.bind_some]
        by_cases c1 : DerN n of false d t
        · rw [if_pos (decide_eq_true (h1.2 c1))]; simp [c, c1]
        · rw [if_neg (by simpa using fun h => c1 (h1.1 h)), Option.bind_some, rHas_spec b2.1 (by omega), Option.bind_some]
          by_cases c2 : DerN n of true d t
          · simp [c, c2, h2.2 c2]
          · have hno := mt h2.1 c2
            simp [c, c1, c2, hno]
      · rw [if_neg (by simpa using c)]; simp [c]
    · rw [if_pos rfl]; simp) (fun b => by simp [palingref42_Ports_L3])
  rw [e]
  exact sdec ⟨fun ⟨d, h1, h2, h3⟩ => ⟨d, h1, h2, h3⟩, fun ⟨d, h1, h2, h3⟩ => ⟨d, h1, h2, h3⟩⟩
theorem rPorts42_no (hs : SmN n) (hf : Few of) (h : ¬ OwnP n of) : palingref42_Ports n of = some ([], 0, false) := by
  simp only [palingref42_Ports, rAll42_no hs hf h, Option.bind_some, Bool.not_false, if_true]
theorem rPorts42_spec (hn : n.Ok) (hg : BndN n 200 100) (hf : Few of) (ho : OwnP n of) :
    palingref42_Ports n of = some (mkG n.ports.length (fun p => if (getI n.ports p).link = -1 then setN (inPort n of p) 10 else 0), n.ports.length, true) := by
  have hs := hg.sm
  have hdl := hg.domains
  have hpl := hg.ports
  have hmk : mkok 8 (n.ports.length : Int) (n.ports.length : Int) = true := by unfold mkok; simp; omega
  have inner : ∀ (p : Int) (q : List Int), inL n.ports p → q.length = n.ports.length → getI q p = 0 → loopM (fun s : (List Int) × Int => match s with | (l13, v14) => palingref42_Ports_L2 n (mkG n.domains.length (rlab n of 10)) n.domains.length p l13 v14) (q, 0) = some (q.set p.toNat (if (getI n.ports p).link = -1 then setN (inPort n of p) 10 else 0)) := by
    intro p q hp hq h0
    have ip : inL q p := ⟨hp.1, by have := hp.2; omega⟩
    by_cases c : (getI n.ports p).link = -1
    · rw [if_pos c]
      have e := loopM_trace (f := fun s : (List Int) × Int => match s with | (l13, v14) => palingref42_Ports_L2 n (mkG n.domains.length (rlab n of 10)) n.domains.length p l13 v14) (r := q.set p.toNat (setN (inPort n of p) 10)) (fun t => (q.set p.toNat (setN (inPort n of p) t), (t : Int))) 10 (by decide) (fun t ht => by
        obtain ⟨iP, gP⟩ := powL ht
        have hpw := pow_1024 ht
        have hpw0 : (0 : Int) ≤ ((2 ^ t : Nat) : Int) := Int.natCast_nonneg _
        have bt := setN_le (inPort n of p) (k := t) (by omega)
        have iq2 : inL (q.set p.toNat (setN (inPort n of p) t)) p := inL_setI.2 ip
        have gq2 : getI (q.set p.toNat (setN (inPort n of p) t)) p = setN (inPort n of p) t := by rw [getI_setI ip ip, if_pos rfl]
        simp only [palingref42_Ports_L2]
        rw [if_pos (by simp; omega), nth_getI hp, Option.bind_some, if_pos (by simpa using c), rPorts_found hg ho ht, Option.bind_some, wr64 (n := (t : Int) + 1) (by omega) (by omega)]
        by_cases c2 : inPort n of p t
        · rw [if_pos (decide_eq_true c2), if_pos (linT iq2), getI_get? iq2, Option.bind_some, palingref42_powers, Option.bind_some]
          rw [if_pos (linT iP), getI_get? iP, Option.bind_some, Option.bind_some, gP, gq2, List.set_set, wr64 (by omega) (by omega)]
          have : setN (inPort n of p) (t + 1) = setN (inPort n of p) t + ((2 ^ t : Nat) : Int) := by rw [setN, if_pos c2]
          rw [this]; rfl
        · rw [if_neg (by simpa using c2)]
          have : setN (inPort n of p) (t + 1) = setN (inPort n of p) t := by rw [setN, if_neg c2]; simp
          rw [this]; rfl) (by simp only [palingref42_Ports_L2]; rw [if_neg (by simp)])
      have h1 : q.set p.toNat (setN (inPort n of p) 0) = q := by
        have := set_same ip; rw [h0] at this; exact this
      have e' : loopM (fun s : (List Int) × Int => match s with | (l13, v14) => palingref42_Ports_L2 n (mkG n.domains.length (rlab n of 10)) n.domains.length p l13 v14) (q.set p.toNat (setN (inPort n of p) 0), 0) = some (q.set p.toNat (setN (inPort n of p) 10)) := e
      rw [h1] at e'
      exact e'
    · rw [if_neg c]
      have h1 : q.set p.toNat 0 = q := by
        have := set_same ip; rw [h0] at this; exact this
      rw [h1]
      exact loopM_trace (f := fun s : (List Int) × Int => match s with | (l13, v14) => palingref42_Ports_L2 n (mkG n.domains.length (rlab n of 10)) n.domains.length p l13 v14) (r := q) (fun _ => (q, 0)) 0 (by decide) (fun i hi => by omega) (by
        simp only [palingref42_Ports_L2]
        rw [if_pos (by simp), nth_getI hp, Option.bind_some, if_neg (by simpa using c)])
  obtain ⟨r, e, hr⟩ := loopM_rule (f := fun s : (List Int) × Int => match s with | (l10, v11) => palingref42_Ports_L1 n (mkG n.domains.length (rlab n of 10)) n.domains.length l10 v11)
    (fun s => 0 ≤ s.2 ∧ s.2 ≤ n.ports.length ∧ s.1.length = n.ports.length ∧ ∀ p, inL n.ports p → getI s.1 p = if p < s.2 then (if (getI n.ports p).link = -1 then setN (inPort n of p) 10 else 0) else 0)
    (fun r => r = mkG n.ports.length (fun p => if (getI n.ports p).link = -1 then setN (inPort n of p) 10 else 0)) (fun s => (n.ports.length - s.2).toNat) (s := (List.replicate n.ports.length (0 : Int), 0)) (fun s hI => by
      obtain ⟨q, j⟩ := s
      obtain ⟨j0, j1, hq, hK⟩ := hI
      simp only at j0 j1 hq hK ⊢
      by_cases c : j < (n.ports.length : Int)
      · have hj : inL n.ports j := ⟨j0, c⟩
        have hv := hK j hj
        rw [if_neg (by omega)] at hv
        have iq : inL q j := ⟨j0, by omega⟩
        refine ⟨.inl (q.set j.toNat (if (getI n.ports j).link = -1 then setN (inPort n of j) 10 else 0), j + 1), ?_, ⟨by simp only; omega, by simp only; omega, by simp only [List.length_set]; exact hq, fun p hp => ?_⟩, by simp only; omega⟩
        · simp only [palingref42_Ports_L1]
          rw [if_pos (by simpa using c), inner j q hj hq hv, Option.bind_some, wr64 (by omega) (by omega)]
        · simp only
          rw [getI_setI iq ⟨hp.1, by have := hp.2; omega⟩, hK p hp]
          by_cases e : p = j
          · rw [if_pos e, if_pos (show p < j + 1 by omega), e]
          · rw [if_neg e]
            by_cases e2 : p < j
            · rw [if_pos e2, if_pos (show p < j + 1 by omega)]
            · rw [if_neg e2, if_neg (show ¬ p < j + 1 by omega)]
      · have : j = n.ports.length := by omega
        subst this
        refine ⟨.inr q, by simp only [palingref42_Ports_L1]; rw [if_neg (by simp)], list_eqI.2 ⟨by rw [mkG_len]; exact hq, fun p hp => ?_⟩⟩
        have hpp : inL n.ports p := ⟨hp.1, by have := hp.2; omega⟩
        show getI q p = getI (mkG _ _) p
        rw [hK p hpp, if_pos hpp.2, mkG_get ⟨hpp.1, hpp.2⟩]) ⟨by simp, by simp, by simp, fun p hp => by
        rw [if_neg (by have := hp.1; simp only; omega)]
        exact List.eq_of_mem_replicate (getI_mem ⟨hp.1, by simpa using hp.2⟩)⟩ (by simp only; omega)
  simp only [palingref42_Ports, rAll42_spec hn hg hf ho, Option.bind_some, Bool.not_true, Bool.false_eq_true, if_false, hmk, if_true, Int.toNat_natCast]
  rw [e, hr]; rfl
theorem eqRLab_dec {x y : Palingref42_Label} : eq_Palingref42_Label x y = decide (x = y) := by
  cases x; cases y
  rw [Bool.eq_iff_iff]
  simp [eq_Palingref42_Label]
theorem labelsTells (n : Api_Net) (of : List Int) (hn : n.Ok) (_ : okL (okI .i64) of) : palinglaw42_LabelsTells n of = some true := by
  simp only [palinglaw42_LabelsTells, Great_spec, Option.bind_some, works42]
  by_cases hg : BndN n 200 100
  case neg => simp [hg]
  have hs := hg.sm
  have hdl := hg.domains
  simp only [hg, not_true_eq_false, decide_false, Bool.false_eq_true, if_false]
  by_cases hof : (of.length : Int) > 300
  · simp [hof]
  rw [if_neg (by simpa using hof)]
  have hf : Few of := by unfold Few; omega
  by_cases ho : OwnP n of
  case neg =>
    rw [labels_All_no hs hf ho, rAll42_no hs hf ho, labels_Ports_no hs hf ho, rPorts42_no hs hf ho]
    simp only [Option.bind_some]
    rw [if_neg (by simp), if_neg (by simp)]
    have e : loopM (palinglaw42_LabelsTells_L1 n of [] 0 false [] 0 false) 0 = some (.inr ()) :=
      loop_pass (f := palinglaw42_LabelsTells_L1 n of [] 0 false [] 0 false) ([] : List Int) (Sum.inr ()) few_nil (fun i i0 i1 hi => by simp at i1; omega) (by simp [palinglaw42_LabelsTells_L1])
    rw [e]
    simp only [Option.bind_some]
    rw [rInts_spec few_nil]
    simp
  obtain ⟨b, e, hb⟩ := labels_All_spec hn hg hf ho
  obtain ⟨r, er, hr1, hr2⟩ := labels_Ports_spec hn hg hf ho
  have hbl := hb.ok.1
  rw [e, rAll42_spec hn hg hf ho, er, rPorts42_spec hn hg hf ho]
  have hloop : loopM (palinglaw42_LabelsTells_L1 n of b n.domains.length true (mkG n.domains.length (rlab n of 10)) n.domains.length true) 0 = some (.inr ()) :=
    loop_pass b (Sum.inr ()) (by unfold Few; omega) (fun d d0 d1 hd => by
      have hdn : inL n.domains d := ⟨d0, by omega⟩
      have ig : inL (mkG n.domains.length (rlab n of 10)) d := mkG_inL.2 ⟨d0, by omega⟩
      obtain ⟨s1, s2⟩ := lab_same hb ho hdn
      simp only [palinglaw42_LabelsTells_L1]
      rw [if_pos (by simp; omega), if_pos (linT hd), getI_get? hd, Option.bind_some, if_pos (linT ig), getI_get? ig, Option.bind_some, mkG_get ⟨d0, by omega⟩, eqRLab_dec, s1, s2, if_neg (by simp), wr64 (by omega) (by omega)]) (by simp [palinglaw42_LabelsTells_L1, hbl])
  have hpl := hg.ports
  have hlist : r = mkG n.ports.length (fun p => if (getI n.ports p).link = -1 then setN (inPort n of p) 10 else 0) := by
    refine list_eqI.2 ⟨by rw [mkG_len]; exact hr1, fun p hp => ?_⟩
    have hpp : inL n.ports p := ⟨hp.1, by have := hp.2; omega⟩
    show getI r p = getI (mkG _ _) p
    rw [mkG_get ⟨hpp.1, hpp.2⟩]
    obtain ⟨q0, q1⟩ := hr2 p hpp
    have hown := ho.2.2 p (owner_ok ho hpp).1
    have hlk := port_link ho.2.1 hpp
    have hhi : ∀ t, inPort n of p t → t < 10 := fun t ⟨d, _, _, h⟩ => by
      have : ∃ k, DerN n of k d t := h.elim (fun h => ⟨_, h⟩) (fun h => ⟨_, h⟩)
      obtain ⟨k, h⟩ := this
      obtain ⟨x, p', hp', hpt⟩ := der_seed h
      have := (owner_ok ho (membersL_in hp')).2
      omega
    by_cases c : (getI n.ports p).link = -1
    · rw [if_pos c]
      have h0 := (hown.2 (by omega)).1
      obtain ⟨s0, s1, s2⟩ := setN_b (inPort n of p)
      refine tb_eq q0 s0 (fun t => ?_)
      rw [Bool.eq_iff_iff, q1 t, s2 t, decide_eq_true_eq]
      exact ⟨fun h => ⟨hhi t h.2, h.2⟩, fun h => ⟨h0, h.2⟩⟩
    · rw [if_neg c]
      have h0 : getI of p = -1 := hown.1 (by omega)
      refine tb_eq q0 (by omega) (fun t => ?_)
      rw [Bool.eq_iff_iff, q1 t, tb_zero]
      exact ⟨fun h => by omega, fun h => by cases h⟩
  simp only [Option.bind_some]
  rw [if_neg (by simp), if_neg (by simp), hloop]
  simp only [Option.bind_some]
  rw [rInts_spec (by unfold Few; omega), decide_eq_true hlist]
  simp
end
end Go.Eng
