/- Plain laws of a search by rounds: ways found in a list that grows. -/
import Derived.Test.YtlinloabahbioaaEngPR
import Derived.Test.YtlinloabahbioaaEngF2
set_option linter.unusedVariables false
set_option linter.unusedSectionVars false
set_option linter.unusedSimpArgs false
namespace Go.Eng
open Go Classical

section
variable {α : Type} [Inhabited α] (dom : α → Int) (H : Int → List α) (N : Nat) (root : α)
/-- Where a way ends. -/
def endD (w : List α) : Int := dom (w.getLast?.getD default)
theorem endD_app {w : List α} {h : α} : endD dom (w ++ [h]) = dom h := by simp [endD]
theorem endD_one {h : α} : endD dom [h] = dom h := by simp [endD]
/-- The ways, with a hop behind one of them, if it comes to where none came. -/
noncomputable def addW (w : List α) (ws : List (List α)) (h : α) : List (List α) := if dom h ∈ ws.map (endD dom) then ws else ws ++ [w ++ [h]]
structure Good (ws : List (List α)) (i : Int) : Prop where
  pos : 0 < ws.length
  i0 : 0 ≤ i
  il : i ≤ ws.length
  root : getI ws 0 = [root]
  nd : ∀ j k, inL ws j → inL ws k → endD dom (getI ws j) = endD dom (getI ws k) → j = k
  rng : ∀ j, inL ws j → 0 ≤ endD dom (getI ws j) ∧ endD dom (getI ws j) < N
  par : ∀ j, inL ws j → 0 < j → ∃ k h, 0 ≤ k ∧ k < j ∧ h ∈ H (endD dom (getI ws k)) ∧ getI ws j = getI ws k ++ [h]
  closed : ∀ k, inL ws k → k < i → ∀ h ∈ H (endD dom (getI ws k)), ∃ m, inL ws m ∧ endD dom (getI ws m) = dom h ∧ (getI ws m).length ≤ (getI ws k).length + 1
  mono : ∀ j k, inL ws j → inL ws k → j ≤ k → (getI ws j).length ≤ (getI ws k).length
  top : ∀ j k, inL ws j → inL ws k → i ≤ k → (getI ws j).length ≤ (getI ws k).length + 1
variable {dom H N root}
theorem mem_ends {ws : List (List α)} {d : Int} : d ∈ ws.map (endD dom) ↔ ∃ j, inL ws j ∧ endD dom (getI ws j) = d := by
  rw [List.mem_map]
  constructor
  · rintro ⟨w, hw, e⟩
    obtain ⟨j, hj, ej⟩ := mem_getI hw
    exact ⟨j, hj, by rw [ej]; exact e⟩
  · rintro ⟨j, hj, e⟩
    exact ⟨_, getI_mem hj, e⟩
theorem addW_pre {w : List α} {ws : List (List α)} {h : α} : ws <+: addW dom w ws h := by
  unfold addW; split
  · exact List.prefix_refl _
  · exact List.prefix_append _ _
theorem pre_in {ws vs : List (List α)} (hp : ws <+: vs) {j : Int} (hj : inL ws j) : inL vs j := ⟨hj.1, by have := hj.2; have := hp.length_le; omega⟩
theorem pre_get {ws vs : List (List α)} (hp : ws <+: vs) {j : Int} (hj : inL ws j) : getI vs j = getI ws j := by
  obtain ⟨t, rfl⟩ := hp; exact getI_app hj
theorem good_add {ws : List (List α)} {i : Int} (g : Good dom H N root ws i) (hi : i < ws.length) {h : α} (hh : h ∈ H (endD dom (getI ws i))) (hN : 0 ≤ dom h ∧ dom h < N) :
    Good dom H N root (addW dom (getI ws i) ws h) i ∧ ∃ m, inL (addW dom (getI ws i) ws h) m ∧ endD dom (getI (addW dom (getI ws i) ws h) m) = dom h ∧ (getI (addW dom (getI ws i) ws h) m).length ≤ (getI ws i).length + 1 := by
  have ii : inL ws i := ⟨g.i0, hi⟩
  unfold addW
  by_cases hm : dom h ∈ ws.map (endD dom)
  · rw [if_pos hm]
    obtain ⟨m, hm1, hm2⟩ := mem_ends.1 hm
    exact ⟨g, m, hm1, hm2, g.top m i hm1 ii (by omega)⟩
  rw [if_neg hm]
  have hno : ∀ j, inL ws j → endD dom (getI ws j) ≠ dom h := fun j hj e => hm (mem_ends.2 ⟨j, hj, e⟩)
  have gL : getI (ws ++ [getI ws i ++ [h]]) (ws.length : Int) = getI ws i ++ [h] := getI_last
  have gA : ∀ j, inL ws j → getI (ws ++ [getI ws i ++ [h]]) j = getI ws j := fun j hj => getI_app hj
  have iL : inL (ws ++ [getI ws i ++ [h]]) (ws.length : Int) := inL_app1.2 (.inr rfl)
  have hp := g.pos
  have hi0 := g.i0
  have hmx : ∀ j, inL ws j → (getI ws j).length ≤ (getI ws i).length + 1 := fun j hj => g.top j i hj ii (by omega)
  refine ⟨⟨by simp, g.i0, by simp; omega, ?_, ?_, ?_, ?_, ?_, ?_, ?_⟩, ws.length, iL, by rw [gL, endD_app], by rw [gL]; simp⟩
  · rw [gA 0 ⟨by omega, by omega⟩]; exact g.root
  · intro j k hj hk
    rcases inL_app1.1 hj with hj | rfl <;> rcases inL_app1.1 hk with hk | rfl
    · rw [gA j hj, gA k hk]; exact g.nd j k hj hk
    · rw [gA j hj, gL, endD_app]; intro e; exact absurd e (hno j hj)
    · rw [gA k hk, gL, endD_app]; intro e; exact absurd e.symm (hno k hk)
    · intro _; rfl
  · intro j hj
    rcases inL_app1.1 hj with hj | rfl
    · rw [gA j hj]; exact g.rng j hj
    · rw [gL, endD_app]; exact hN
  · intro j hj h0
    rcases inL_app1.1 hj with hj | rfl
    · obtain ⟨k, h', k0, kj, e1, e2⟩ := g.par j hj h0
      have hk : inL ws k := ⟨k0, by have := hj.2; omega⟩
      exact ⟨k, h', k0, kj, by rw [gA k hk]; exact e1, by rw [gA j hj, gA k hk]; exact e2⟩
    · exact ⟨i, h, hi0, hi, by rw [gA i ii]; exact hh, by rw [gL, gA i ii]⟩
  · intro k hk hki h' hh'
    have hk' : inL ws k := ⟨hk.1, by omega⟩
    rw [gA k hk'] at hh' ⊢
    obtain ⟨m, m1, m2, m3⟩ := g.closed k hk' hki h' hh'
    exact ⟨m, inL_app m1, by rw [gA m m1]; exact m2, by rw [gA m m1]; exact m3⟩
  · intro j k hj hk hjk
    rcases inL_app1.1 hj with hj | rfl <;> rcases inL_app1.1 hk with hk | rfl
    · rw [gA j hj, gA k hk]; exact g.mono j k hj hk hjk
    · rw [gA j hj, gL]; simpa using hmx j hj
    · exact absurd hk.2 (by omega)
    · exact Nat.le_refl _
  · intro j k hj hk hik
    rcases inL_app1.1 hj with hj | rfl <;> rcases inL_app1.1 hk with hk | rfl
    · rw [gA j hj, gA k hk]; exact g.top j k hj hk hik
    · rw [gA j hj, gL]; have := hmx j hj; simp; omega
    · rw [gA k hk, gL]; have := g.mono i k ii hk hik; simp; omega
    · exact Nat.le_succ _
theorem fold_pre {w : List α} : ∀ (hs : List α) (ws : List (List α)), ws <+: hs.foldl (addW dom w) ws
  | [], ws => List.prefix_refl _
  | h :: hs, ws => List.IsPrefix.trans addW_pre (fold_pre hs _)
theorem good_fold {i : Int} {w : List α} : ∀ (hs : List α) (ws : List (List α)), Good dom H N root ws i → i < ws.length → getI ws i = w → (∀ h ∈ hs, h ∈ H (endD dom w) ∧ 0 ≤ dom h ∧ dom h < N) →
    Good dom H N root (hs.foldl (addW dom w) ws) i ∧ ∀ h ∈ hs, ∃ m, inL (hs.foldl (addW dom w) ws) m ∧ endD dom (getI (hs.foldl (addW dom w) ws) m) = dom h ∧ (getI (hs.foldl (addW dom w) ws) m).length ≤ w.length + 1
  | [], ws, g, _, _, _ => ⟨g, fun h hh => absurd hh (by simp)⟩
  | h :: hs, ws, g, hi, hw, hH => by
    have hh := hH h (by simp)
    subst hw
    obtain ⟨g1, m, m1, m2, m3⟩ := good_add g hi hh.1 hh.2
    have hpre : ws <+: addW dom (getI ws i) ws h := addW_pre
    have hi' : i < (addW dom (getI ws i) ws h).length := by have := hpre.length_le; omega
    have ge : getI (addW dom (getI ws i) ws h) i = getI ws i := pre_get hpre ⟨g.i0, hi⟩
    obtain ⟨g2, h2⟩ := good_fold hs _ g1 hi' ge (fun x hx => hH x (by simp [hx]))
    refine ⟨g2, fun x hx => ?_⟩
    rcases List.mem_cons.1 hx with rfl | hx
    · have hp2 := fold_pre (dom := dom) (w := getI ws i) hs (addW dom (getI ws i) ws x)
      exact ⟨m, pre_in hp2 m1, by rw [List.foldl_cons, pre_get hp2 m1]; exact m2, by rw [List.foldl_cons, pre_get hp2 m1]; exact m3⟩
    · exact h2 x hx

variable (dom H root) in
/-- The ways, k of them gone through. -/
noncomputable def runW : Nat → List (List α)
  | 0 => [[root]]
  | k + 1 => if k < (runW k).length then (H (endD dom (getI (runW k) (k : Int)))).foldl (addW dom (getI (runW k) (k : Int))) (runW k) else runW k
theorem runW_pre {k : Nat} : runW dom H root k <+: runW dom H root (k + 1) := by
  rw [runW]; split
  · exact fold_pre _ _
  · exact List.prefix_refl _
theorem runW_pre2 {k m : Nat} (h : k ≤ m) : runW dom H root k <+: runW dom H root m := by
  obtain ⟨t, rfl⟩ : ∃ t, m = k + t := ⟨m - k, by omega⟩
  clear h
  induction t with
  | zero => exact List.prefix_refl _
  | succ t ih => exact List.IsPrefix.trans ih runW_pre
/-- The hops of a place in its bounds are in their bounds. -/
def HIn (dom : α → Int) (H : Int → List α) (N : Nat) : Prop := ∀ d, 0 ≤ d → d < (N : Int) → ∀ h ∈ H d, 0 ≤ dom h ∧ dom h < (N : Int)
section
variable (hH : HIn dom H N) (hr : 0 ≤ dom root ∧ dom root < (N : Int))
include hH hr
theorem good_run : ∀ k : Nat, Good dom H N root (runW dom H root k) (min (k : Int) (runW dom H root k).length)
  | 0 => by
    have e : ∀ j, inL [[root]] j → j = 0 := fun j hj => by have := hj.1; have := hj.2; simp at this; omega
    have g0 : getI [[root]] 0 = [root] := rfl
    refine ⟨by simp [runW], by simp only [runW, List.length_singleton]; omega, by simp only [runW, List.length_singleton]; omega, g0, ?_, ?_, ?_, ?_, ?_, ?_⟩
    · intro j k hj hk _; rw [e j hj, e k hk]
    · intro j hj; rw [runW, e j hj, g0, endD_one]; exact hr
    · intro j hj h0; have := e j hj; omega
    · intro k hk hk2; have := e k hk; simp [runW] at hk2; omega
    · intro j k hj hk _; rw [e j hj, e k hk]; exact Nat.le_refl _
    · intro j k hj hk _; rw [e j hj, e k hk]; exact Nat.le_succ _
  | k + 1 => by
    have g := good_run k
    rw [runW]
    by_cases hk : k < (runW dom H root k).length
    · rw [if_pos hk]
      have ik : inL (runW dom H root k) (k : Int) := ⟨by omega, by omega⟩
      rw [Int.min_eq_left (by omega)] at g
      have hpre : runW dom H root k <+: _ := fold_pre (dom := dom) (w := getI (runW dom H root k) (k : Int)) (H (endD dom (getI (runW dom H root k) (k : Int)))) (runW dom H root k)
      have hle := hpre.length_le
      obtain ⟨g2, h2⟩ := good_fold (dom := dom) (H := H) (N := N) (root := root) (H (endD dom (getI (runW dom H root k) (k : Int)))) (runW dom H root k) g (by omega) rfl (fun h hh => ⟨hh, hH _ (g.rng _ ik).1 (g.rng _ ik).2 h hh⟩)
      generalize List.foldl (addW dom (getI (runW dom H root k) (k : Int))) (runW dom H root k) (H (endD dom (getI (runW dom H root k) (k : Int)))) = vs at *
      rw [Int.min_eq_left (by omega)]
      refine ⟨g2.pos, by omega, by omega, g2.root, g2.nd, g2.rng, g2.par, ?_, g2.mono, ?_⟩
      · intro j hj hjk h hh
        by_cases e : j < (k : Int)
        · exact g2.closed j hj e h hh
        · have e : j = (k : Int) := by omega
          subst e
          rw [pre_get hpre ik] at hh ⊢
          exact h2 h hh
      · intro j m hj hm hkm
        exact g2.top j m hj hm (by omega)
    · rw [if_neg hk]
      rw [Int.min_eq_right (by omega)] at g ⊢
      exact g
end
/-- So many unlike numbers below N: not more than N. -/
theorem few_below : ∀ (N : Nat) (l : List Int), l.Nodup → (∀ x ∈ l, 0 ≤ x ∧ x < (N : Int)) → l.length ≤ N
  | 0, l, _, h => by
    cases l with
    | nil => simp
    | cons a l => have := h a (by simp); omega
  | N + 1, l, hn, h => by
    by_cases hm : (N : Int) ∈ l
    · have h1 := few_below N (l.erase (N : Int)) (hn.erase _) (fun x hx => by
        rw [hn.mem_erase_iff] at hx
        have := h x hx.2
        have := hx.1
        omega)
      rw [List.length_erase_of_mem hm] at h1
      omega
    · have h1 := few_below N l hn (fun x hx => by
        have := h x hx
        have : x ≠ (N : Int) := fun e => hm (e ▸ hx)
        omega)
      omega
theorem Good.len {ws : List (List α)} {i : Int} (g : Good dom H N root ws i) : ws.length ≤ N := by
  have hn : (ws.map (endD dom)).Nodup := by
    rw [List.nodup_iff_pairwise_ne, List.pairwise_iff_getElem]
    intro a b ha hb hab e
    rw [List.length_map] at ha hb
    rw [List.getElem_map, List.getElem_map] at e
    have ea : getI ws (a : Int) = ws[a] := getI_nat (List.getElem?_eq_getElem ha)
    have eb : getI ws (b : Int) = ws[b] := getI_nat (List.getElem?_eq_getElem hb)
    have := g.nd a b ⟨by omega, by omega⟩ ⟨by omega, by omega⟩ (by rw [ea, eb]; exact e)
    omega
  have := few_below N _ hn (fun x hx => by
    obtain ⟨j, hj, rfl⟩ := mem_ends.1 hx
    exact g.rng j hj)
  simpa using this
/-- Where the run is over it is over for good. -/
theorem runW_end {k : Nat} (h : (runW dom H root k).length ≤ k) : ∀ m, k ≤ m → runW dom H root m = runW dom H root k := by
  intro m hm
  obtain ⟨t, rfl⟩ : ∃ t, m = k + t := ⟨m - k, by omega⟩
  clear hm
  induction t with
  | zero => rfl
  | succ t ih =>
    rw [show k + (t + 1) = (k + t) + 1 from rfl, runW, if_neg (by rw [ih]; omega)]
    exact ih
theorem Good.len1 {ws : List (List α)} {i : Int} (g : Good dom H N root ws i) : ∀ (m : Nat) (j : Int), j < m → inL ws j → 1 ≤ (getI ws j).length ∧ ((getI ws j).length : Int) ≤ j + 1
  | 0, j, h, hj => by have := hj.1; omega
  | m + 1, j, h, hj => by
    have := hj.1
    by_cases h0 : j = 0
    · rw [h0, g.root]; simp
    · obtain ⟨k, h', k0, kj, _, e⟩ := g.par j hj (by omega)
      have := g.len1 m k (by omega) ⟨k0, by have := hj.2; omega⟩
      rw [e]; simp; omega
theorem Good.lens {ws : List (List α)} {i : Int} (g : Good dom H N root ws i) {j : Int} (hj : inL ws j) : 1 ≤ (getI ws j).length ∧ ((getI ws j).length : Int) ≤ j + 1 := g.len1 ws.length j hj.2 hj
variable (dom) in
/-- How many hops lead there; -1. -/
noncomputable def DW (ws : List (List α)) (d : Int) : Int := if 0 ≤ fstI ws (fun w => endD dom w = d) then ((getI ws (fstI ws fun w => endD dom w = d)).length : Int) - 1 else -1
theorem Good.fst {ws : List (List α)} {i : Int} (g : Good dom H N root ws i) {j : Int} (hj : inL ws j) : fstI ws (fun w => endD dom w = endD dom (getI ws j)) = j := by
  rw [fstI_eq hj]
  refine ⟨rfl, fun k hk hkj e => ?_⟩
  have := g.nd k j hk hj e
  omega
theorem Good.DW_at {ws : List (List α)} {i : Int} (g : Good dom H N root ws i) {j : Int} (hj : inL ws j) : DW dom ws (endD dom (getI ws j)) = ((getI ws j).length : Int) - 1 := by
  unfold DW; rw [g.fst hj, if_pos hj.1]
theorem DW_no {ws : List (List α)} {d : Int} (h : d ∉ ws.map (endD dom)) : DW dom ws d = -1 := by
  unfold DW; rw [if_neg]
  intro h0
  exact h (mem_ends.2 ⟨_, fstI_inL.1 h0, fstI_is h0⟩)
theorem Good.DW_pos {ws : List (List α)} {i : Int} (g : Good dom H N root ws i) {d : Int} : 0 ≤ DW dom ws d ↔ d ∈ ws.map (endD dom) := by
  constructor
  · intro h
    apply Classical.byContradiction
    intro hn
    rw [DW_no hn] at h; omega
  · intro h
    obtain ⟨j, hj, rfl⟩ := mem_ends.1 h
    rw [g.DW_at hj]; have := g.lens hj; omega
/-- How far all is. -/
structure Dist (dom : α → Int) (H : Int → List α) (N : Nat) (a : Int) (D : Int → Int) : Prop where
  zero : D a = 0
  only : ∀ d, D d = 0 → d = a
  ge : ∀ d, -1 ≤ D d
  lt : ∀ d, D d < N
  rng : ∀ d, 0 ≤ D d → 0 ≤ d ∧ d < N
  edge : ∀ i, 0 ≤ D i → ∀ h ∈ H i, 0 ≤ D (dom h) ∧ D (dom h) ≤ D i + 1
  pre : ∀ d, 0 < D d → ∃ i h, D i = D d - 1 ∧ h ∈ H i ∧ dom h = d
theorem Good.dist {ws : List (List α)} {i : Int} (g : Good dom H N root ws i) (hi : i = ws.length) : Dist dom H N (dom root) (DW dom ws) := by
  have i0 : inL ws 0 := ⟨by omega, by have := g.pos; omega⟩
  have e0 : endD dom (getI ws 0) = dom root := by rw [g.root, endD_one]
  have at' : ∀ d, 0 ≤ DW dom ws d → ∃ j, inL ws j ∧ endD dom (getI ws j) = d := fun d h => mem_ends.1 (g.DW_pos.1 h)
  refine ⟨?_, ?_, ?_, ?_, ?_, ?_, ?_⟩
  · rw [← e0, g.DW_at i0, g.root]; rfl
  · intro d h
    obtain ⟨j, hj, rfl⟩ := at' d (by omega)
    rw [g.DW_at hj] at h
    by_cases j0 : j = 0
    · rw [j0, e0]
    · obtain ⟨k, h', k0, kj, _, e⟩ := g.par j hj (by have := hj.1; omega)
      have := g.lens (j := k) ⟨k0, by have := hj.2; omega⟩
      rw [e, List.length_append, List.length_singleton] at h; omega
  · intro d
    by_cases h : d ∈ ws.map (endD dom)
    · have := g.DW_pos.2 h; omega
    · rw [DW_no h]; omega
  · intro d
    by_cases h : d ∈ ws.map (endD dom)
    · obtain ⟨j, hj, rfl⟩ := mem_ends.1 h
      rw [g.DW_at hj]
      have := g.lens hj; have := hj.2; have := g.len; omega
    · rw [DW_no h]; omega
  · intro d h
    obtain ⟨j, hj, rfl⟩ := at' d h
    exact g.rng j hj
  · intro d h x hx
    obtain ⟨j, hj, rfl⟩ := at' d h
    obtain ⟨m, m1, m2, m3⟩ := g.closed j hj (by have := hj.2; omega) x hx
    rw [← m2, g.DW_at m1, g.DW_at hj]
    have := g.lens m1
    omega
  · intro d h
    obtain ⟨j, hj, rfl⟩ := at' d (by omega)
    rw [g.DW_at hj] at h ⊢
    by_cases j0 : j = 0
    · rw [j0, g.root] at h; simp at h
    · obtain ⟨k, h', k0, kj, e1, e⟩ := g.par j hj (by have := hj.1; omega)
      refine ⟨endD dom (getI ws k), h', ?_, e1, ?_⟩
      · rw [g.DW_at ⟨k0, by have := hj.2; omega⟩, e]; simp
      · rw [e, endD_app]
/-- From there and back. -/
theorem Dist.back {a b : Int} {D E : Int → Int} (hD : Dist dom H N a D) (hE : Dist dom H N b E) (hs : ∀ i h, 0 ≤ i → i < (N : Int) → h ∈ H i → ∃ h' ∈ H (dom h), dom h' = i) :
    ∀ (n : Nat) (d : Int), D d = n → 0 ≤ E d → 0 ≤ E a ∧ E a ≤ E d + n
  | 0, d, h, h2 => by
    have := hD.only d h
    subst this; exact ⟨h2, by omega⟩
  | n + 1, d, h, h2 => by
    obtain ⟨i, x, e1, e2, e3⟩ := hD.pre d (by omega)
    have hi := hD.rng i (by omega)
    obtain ⟨y, y1, y2⟩ := hs i x hi.1 hi.2 e2
    rw [e3] at y1
    have h3 := hE.edge d h2 y y1
    rw [y2] at h3
    have := Dist.back hD hE hs n i (by omega) h3.1
    exact ⟨this.1, by omega⟩
theorem Dist.both {a b : Int} {D E : Int → Int} (hD : Dist dom H N a D) (hE : Dist dom H N b E) (hs : ∀ i h, 0 ≤ i → i < (N : Int) → h ∈ H i → ∃ h' ∈ H (dom h), dom h' = i) : D b = E a := by
  have k1 : 0 ≤ D b → 0 ≤ E a ∧ E a ≤ D b := fun h => by
    have := Dist.back hD hE hs (D b).toNat b (by omega) (by rw [hE.zero]; omega)
    rw [hE.zero] at this; omega
  have k2 : 0 ≤ E a → 0 ≤ D b ∧ D b ≤ E a := fun h => by
    have := Dist.back hE hD hs (E a).toNat a (by omega) (by rw [hD.zero]; omega)
    rw [hD.zero] at this; omega
  have := hD.ge b
  have := hE.ge a
  by_cases h : 0 ≤ D b
  · have := k1 h; have := k2 this.1; omega
  · by_cases h' : 0 ≤ E a
    · have := k2 h'; omega
    · omega
theorem Dist.conn {E : Int → Int → Prop} {a : Int} {D : Int → Int} (hD : Dist dom H N a D) (hE : ∀ i j, (∃ h ∈ H i, dom h = j) → 0 ≤ i → i < (N : Int) → E i j) : ∀ (n : Nat) (d : Int), D d = n → Conn E a d
  | 0, d, h => by have := hD.only d h; subst this; exact .refl _
  | n + 1, d, h => by
    obtain ⟨i, x, e1, e2, e3⟩ := hD.pre d (by omega)
    have hi := hD.rng i (by omega)
    exact .trans (Dist.conn hD hE n i (by omega)) (.edge (hE i d ⟨x, e2, e3⟩ hi.1 hi.2))
end
end Go.Eng
