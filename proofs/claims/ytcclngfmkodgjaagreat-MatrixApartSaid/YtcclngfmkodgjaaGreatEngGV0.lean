/- Part of the proof of MatrixApart: plain laws of the printed mirrors. No conditions. -/
import Derived.Test.YtcclngfmkodgjaaGreatEngGP1
set_option linter.unusedVariables false
set_option linter.unusedSectionVars false
set_option linter.unusedSimpArgs false
namespace Go.Eng
open Go Classical

/-! ### Bits -/
def tb (x : Int) (t : Nat) : Bool := x.toNat.testBit t
theorem or64 {a b : Int} (a0 : 0 ≤ a) (a1 : a < 1024) (b0 : 0 ≤ b) (b1 : b < 1024) : bits_or .i64 a b = ((a.toNat ||| b.toNat : Nat) : Int) := by
  have e : (BitVec.ofInt 64 a ||| BitVec.ofInt 64 b).toNat = a.toNat ||| b.toNat := by
    rw [ofInt_nat _ _ a0, ofInt_nat _ _ b0, BitVec.toNat_or, BitVec.toNat_ofNat, BitVec.toNat_ofNat, Nat.mod_eq_of_lt (by omega), Nat.mod_eq_of_lt (by omega)]
  have hl : a.toNat ||| b.toNat < 2 ^ 10 := Nat.or_lt_two_pow (by omega) (by omega)
  show wr_i64 (((BitVec.ofInt 64 a ||| BitVec.ofInt 64 b).toNat : Nat) : Int) = _
  rw [e, wr64 (by omega) (by omega)]
theorem or64_b {a b : Int} (a0 : 0 ≤ a) (a1 : a < 1024) (b0 : 0 ≤ b) (b1 : b < 1024) : a ≤ bits_or .i64 a b ∧ 0 ≤ bits_or .i64 a b ∧ bits_or .i64 a b < 1024 ∧ ∀ t, tb (bits_or .i64 a b) t = (tb a t || tb b t) := by
  rw [or64 a0 a1 b0 b1]
  have hl : a.toNat ||| b.toNat < 2 ^ 10 := Nat.or_lt_two_pow (by omega) (by omega)
  have hg : a.toNat ≤ a.toNat ||| b.toNat := Nat.left_le_or
  refine ⟨by omega, by omega, by omega, fun t => ?_⟩
  unfold tb
  rw [Int.toNat_natCast, Nat.testBit_or]
theorem tb_eq {a b : Int} (a0 : 0 ≤ a) (b0 : 0 ≤ b) (h : ∀ t, tb a t = tb b t) : a = b := by
  have : a.toNat = b.toNat := Nat.eq_of_testBit_eq h
  omega
theorem tb_pow {k t : Nat} : tb ((2 ^ k : Nat) : Int) t = decide (k = t) := by
  unfold tb
  rw [Int.toNat_natCast, Nat.testBit_two_pow]
theorem tb_zero {t : Nat} : tb 0 t = false := by simp [tb]
theorem pow_1024 {k : Nat} (h : k < 10) : ((2 ^ k : Nat) : Int) < 1024 := by
  have : 2 ^ k < 2 ^ 10 := Nat.pow_lt_pow_right (by decide) h
  omega

/-! ### What spreads -/
inductive Der (E R : Int → List Int) (S : Int → Nat → Prop) : Bool → Int → Nat → Prop
  | seed {d : Int} {t : Nat} (h : S d t) : Der E R S false d t
  | hop {k : Bool} {d x : Int} {t : Nat} (h : Der E R S k d t) (hx : x ∈ E d) : Der E R S k x t
  | route {d x : Int} {t : Nat} (h : Der E R S false d t) (hx : x ∈ R d) : Der E R S true x t

def subL (x y : Labels_Label) : Prop := (∀ t, tb x.plain t = true → tb y.plain t = true) ∧ ∀ t, tb x.led t = true → tb y.led t = true
theorem subL.refl {x : Labels_Label} : subL x x := ⟨fun _ h => h, fun _ h => h⟩
theorem subL.trans {x y z : Labels_Label} (h : subL x y) (g : subL y z) : subL x z := ⟨fun t a => g.1 t (h.1 t a), fun t a => g.2 t (h.2 t a)⟩
section
variable (E R : Int → List Int) (S : Int → Nat → Prop) (N : Nat)
structure LbOk (d : Int) (x : Labels_Label) : Prop where
  p0 : 0 ≤ x.plain
  p1 : x.plain < 1024
  l0 : 0 ≤ x.led
  l1 : x.led < 1024
  sp : ∀ t, tb x.plain t = true → Der E R S false d t
  sl : ∀ t, tb x.led t = true → Der E R S true d t
def AllOk (all : List Labels_Label) : Prop := all.length = N ∧ ∀ d, inL all d → LbOk E R S d (getI all d)
variable {E R S N}
def valL (x : Labels_Label) : Int := x.plain + x.led
def pot (all : List Labels_Label) : Int := (all.map valL).sum
theorem sum_set : ∀ (l : List Int) (k : Nat) (x y : Int), l[k]? = some y → (l.set k x).sum = l.sum - y + x
  | [], k, x, y, h => by simp at h
  | a :: l, 0, x, y, h => by simp at h; subst h; simp; omega
  | a :: l, k + 1, x, y, h => by
    simp at h
    have := sum_set l k x y (by simpa using h)
    simp [this]; omega
theorem pot_set {all : List Labels_Label} {d : Int} {x : Labels_Label} (hd : inL all d) : pot (all.set d.toNat x) = pot all - valL (getI all d) + valL x := by
  unfold pot
  rw [List.map_set]
  exact sum_set _ _ _ _ (by rw [List.getElem?_map, getI_get? hd]; rfl)
theorem sum_le {M : Int} : ∀ (l : List Int), (∀ x ∈ l, x ≤ M) → l.sum ≤ M * l.length
  | [], _ => by simp
  | a :: l, h => by
    have := sum_le l (fun x hx => h x (by simp [hx]))
    have := h a (by simp)
    simp [Int.mul_add]; omega
theorem pot_le {all : List Labels_Label} (h : AllOk E R S N all) : pot all ≤ 2046 * N := by
  have := sum_le (M := 2046) (all.map valL) (fun x hx => by
    obtain ⟨y, hy, rfl⟩ := List.mem_map.1 hx
    obtain ⟨d, hd, rfl⟩ := mem_getI hy
    have := h.2 d hd
    have := this.p1; have := (h.2 d hd).l1
    unfold valL; omega)
  rw [List.length_map, h.1] at this
  exact this
structure Grown (E R : Int → List Int) (S : Int → Nat → Prop) (N : Nat) (a : List Labels_Label) (q : List Labels_queued) (b : List Labels_Label) (r : List Labels_queued) : Prop where
  ok : AllOk E R S N b
  mono : ∀ d, inL a d → subL (getI a d) (getI b d)
  ext : ∃ e, r = q ++ e ∧ (∀ x ∈ e, x.done = false ∧ 0 ≤ x.task.domain ∧ x.task.domain < N) ∧ ∀ d, inL a d → getI b d = getI a d ∨ ∃ x ∈ e, x.task.domain = d
  pot : (r.length : Int) - q.length ≤ pot b - pot a
theorem Grown.refl {a : List Labels_Label} {q : List Labels_queued} (h : AllOk E R S N a) : Grown E R S N a q a q :=
  ⟨h, fun _ _ => subL.refl, ⟨[], by simp, by simp, fun _ _ => .inl rfl⟩, by omega⟩
theorem Grown.trans {a b c : List Labels_Label} {q r s : List Labels_queued} (ha : AllOk E R S N a) (h : Grown E R S N a q b r) (g : Grown E R S N b r c s) : Grown E R S N a q c s := by
  obtain ⟨e, rfl, e1, e2⟩ := h.ext
  obtain ⟨f, rfl, f1, f2⟩ := g.ext
  have hin : ∀ d, inL a d → inL b d := fun d hd => ⟨hd.1, by have := hd.2; have := ha.1; have := h.ok.1; omega⟩
  refine ⟨g.ok, fun d hd => (h.mono d hd).trans (g.mono d (hin d hd)), ⟨e ++ f, by simp, fun x hx => ?_, fun d hd => ?_⟩, by have := h.pot; have := g.pot; omega⟩
  · rcases List.mem_append.1 hx with hx | hx
    · exact e1 x hx
    · exact f1 x hx
  · rcases f2 d (hin d hd) with h1 | ⟨x, hx, h1⟩
    · rcases e2 d hd with h2 | ⟨x, hx, h2⟩
      · exact .inl (h1.trans h2)
      · exact .inr ⟨x, by simp [hx], h2⟩
    · exact .inr ⟨x, by simp [hx], h1⟩
def orL (x y : Labels_Label) : Labels_Label := ⟨bits_or .i64 x.plain y.plain, bits_or .i64 x.led y.led⟩
theorem orL_ok {d : Int} {x y : Labels_Label} (hx : LbOk E R S d x) (hy : LbOk E R S d y) : LbOk E R S d (orL x y) ∧ subL x (orL x y) ∧ subL y (orL x y) ∧ (orL x y ≠ x → valL x + 1 ≤ valL (orL x y)) := by
  obtain ⟨a1, a2, a3, a4⟩ := or64_b hx.p0 hx.p1 hy.p0 hy.p1
  obtain ⟨b1, b2, b3, b4⟩ := or64_b hx.l0 hx.l1 hy.l0 hy.l1
  refine ⟨⟨a2, a3, b2, b3, fun t h => ?_, fun t h => ?_⟩, ⟨fun t h => ?_, fun t h => ?_⟩, ⟨fun t h => ?_, fun t h => ?_⟩, fun h => ?_⟩
  · have h : tb (bits_or .i64 x.plain y.plain) t = true := h
    rw [a4 t, Bool.or_eq_true] at h
    exact h.elim (hx.sp t) (hy.sp t)
  · have h : tb (bits_or .i64 x.led y.led) t = true := h
    rw [b4 t, Bool.or_eq_true] at h
    exact h.elim (hx.sl t) (hy.sl t)
  · show tb (bits_or .i64 x.plain y.plain) t = true
    rw [a4 t, h]; rfl
  · show tb (bits_or .i64 x.led y.led) t = true
    rw [b4 t, h]; rfl
  · show tb (bits_or .i64 x.plain y.plain) t = true
    rw [a4 t, h]; simp
  · show tb (bits_or .i64 x.led y.led) t = true
    rw [b4 t, h]; simp
  · show x.plain + x.led + 1 ≤ bits_or .i64 x.plain y.plain + bits_or .i64 x.led y.led
    by_cases e1 : bits_or .i64 x.plain y.plain = x.plain
    · by_cases e2 : bits_or .i64 x.led y.led = x.led
      · exact absurd (show orL x y = x by unfold orL; rw [e1, e2]) h
      · omega
    · omega
noncomputable def growF (all : List Labels_Label) (q : List Labels_queued) (d : Int) (y : Labels_Label) : List Labels_Label × List Labels_queued :=
  if orL (getI all d) y ≠ getI all d then (all.set d.toNat (orL (getI all d) y), q ++ [⟨⟨d⟩, false⟩]) else (all, q)
theorem growF_ok {all : List Labels_Label} {q : List Labels_queued} {d : Int} {y : Labels_Label} (h : AllOk E R S N all) (hd : inL all d) (hy : LbOk E R S d y) :
    Grown E R S N all q (growF all q d y).1 (growF all q d y).2 ∧ subL y (getI (growF all q d y).1 d) := by
  obtain ⟨o1, o2, o3, o4⟩ := orL_ok (h.2 d hd) hy
  unfold growF
  by_cases c : orL (getI all d) y ≠ getI all d
  · rw [if_pos c]
    have hgs : ∀ x, inL all x → getI (all.set d.toNat (orL (getI all d) y)) x = if x = d then orL (getI all d) y else getI all x := fun x hx => getI_setI hd hx
    refine ⟨⟨⟨by rw [List.length_set]; exact h.1, fun x hx => ?_⟩, fun x hx => ?_, ⟨[⟨⟨d⟩, false⟩], rfl, fun x hx => ?_, fun x hx => ?_⟩, ?_⟩, ?_⟩
    · have hx := inL_setI.1 hx
      rw [hgs x hx]
      by_cases e : x = d
      · rw [if_pos e, e]; exact o1
      · rw [if_neg e]; exact h.2 x hx
    · rw [hgs x hx]
      by_cases e : x = d
      · rw [if_pos e, e]; exact o2
      · rw [if_neg e]; exact subL.refl
    · simp only [List.mem_singleton] at hx
      subst hx
      have := hd.1; have := hd.2; have := h.1
      exact ⟨rfl, by simp only; omega, by simp only; omega⟩
    · rw [hgs x hx]
      by_cases e : x = d
      · exact .inr ⟨_, List.mem_singleton.2 rfl, e.symm⟩
      · rw [if_neg e]; exact .inl rfl
    · simp only
      rw [pot_set hd]
      have := o4 c
      simp; omega
    · rw [hgs d hd, if_pos rfl]; exact o3
  · rw [if_neg c]
    have c : orL (getI all d) y = getI all d := Classical.byContradiction c
    refine ⟨Grown.refl h, ?_⟩
    rw [c] at o3; exact o3
def ClosedAt (E R : Int → List Int) (all : List Labels_Label) (d : Int) : Prop := (∀ h ∈ E d, subL (getI all d) (getI all h)) ∧ ∀ r ∈ R d, ∀ t, tb (getI all d).plain t = true → tb (getI all r).led t = true
theorem closed_all {all : List Labels_Label} (hE : ∀ d, 0 ≤ d → d < (N : Int) → ∀ h ∈ E d, 0 ≤ h ∧ h < (N : Int)) (hR : ∀ d, 0 ≤ d → d < (N : Int) → ∀ h ∈ R d, 0 ≤ h ∧ h < (N : Int)) (hS : ∀ d t, S d t → 0 ≤ d ∧ d < (N : Int))
    (hc : ∀ d, 0 ≤ d → d < (N : Int) → ClosedAt E R all d) (hs : ∀ d t, S d t → tb (getI all d).plain t = true) :
    ∀ k d t, Der E R S k d t → (0 ≤ d ∧ d < (N : Int)) ∧ (if k then tb (getI all d).led t = true else tb (getI all d).plain t = true) := by
  intro k d t h
  induction h with
  | seed h => exact ⟨hS _ _ h, hs _ _ h⟩
  | @hop k d x t h hx ih =>
    obtain ⟨i1, i2⟩ := ih
    have hcd := (hc d i1.1 i1.2).1 x hx
    refine ⟨hE d i1.1 i1.2 x hx, ?_⟩
    cases k
    · exact hcd.1 t i2
    · exact hcd.2 t i2
  | @route d x t h hx ih =>
    obtain ⟨i1, i2⟩ := ih
    exact ⟨hR d i1.1 i1.2 x hx, (hc d i1.1 i1.2).2 x hx t i2⟩
end
end Go.Eng

set_option linter.unusedVariables false
set_option linter.unusedSectionVars false
set_option linter.unusedSimpArgs false
namespace Go.Eng
open Go Classical

section
variable {α : Type} [Inhabited α] (dom : α → Int) (H : Int → List α) (N : Nat) (root : α)
def endD (w : List α) : Int := dom (w.getLast?.getD default)
theorem endD_app {w : List α} {h : α} : endD dom (w ++ [h]) = dom h := by simp [endD]
theorem endD_one {h : α} : endD dom [h] = dom h := by simp [endD]
noncomputable def addW (w : List α) (ws : List (List α)) (h : α) : List (List α) := if dom h ∈ ws.map (endD dom) then ws else ws ++ [w ++ [h]]
structure Good (ws : List (List α)) (i : Int) : Prop where
  pos : 0 < ws.length
  i0 : 0 ≤ i
  il : i ≤ ws.length
  root : getI ws 0 = [root]
  nd : ∀ j k, inL ws j → inL ws k → endD dom (getI ws j) = endD dom (getI ws k) → j = k
  rng : ∀ j, inL ws j → 0 ≤ endD dom (getI ws j) ∧ endD dom (getI ws j) < N
  par : ∀ j, inL ws j → 0 < j → ∃ k h, 0 ≤ k ∧ k < j ∧ h ∈ H (endD dom (getI ws k)) ∧ getI ws j = getI ws k ++ [h]
  closed : ∀ k, inL ws k → k < i → ∀ h ∈ H (endD dom (getI ws k)), ∃ m, inL ws m ∧ endD dom (getI ws m) = dom h ∧ (getI ws m).length ≤ (getI ws k).length + 1
  mono : ∀ j k, inL ws j → inL ws k → j ≤ k → (getI ws j).length ≤ (getI ws k).length
  top : ∀ j k, inL ws j → inL ws k → i ≤ k → (getI ws j).length ≤ (getI ws k).length + 1
variable {dom H N root}
theorem mem_ends {ws : List (List α)} {d : Int} : d ∈ ws.map (endD dom) ↔ ∃ j, inL ws j ∧ endD dom (getI ws j) = d := by
  rw [List.mem_map]
  constructor
  · rintro ⟨w, hw, e⟩
    obtain ⟨j, hj, ej⟩ := mem_getI hw
    exact ⟨j, hj, by rw [ej]; exact e⟩
  · rintro ⟨j, hj, e⟩
    exact ⟨_, getI_mem hj, e⟩
theorem good_add {ws : List (List α)} {i : Int} (g : Good dom H N root ws i) (hi : i < ws.length) {h : α} (hh : h ∈ H (endD dom (getI ws i))) (hN : 0 ≤ dom h ∧ dom h < N) :
    Good dom H N root (addW dom (getI ws i) ws h) i ∧ ∃ m, inL (addW dom (getI ws i) ws h) m ∧ endD dom (getI (addW dom (getI ws i) ws h) m) = dom h ∧ (getI (addW dom (getI ws i) ws h) m).length ≤ (getI ws i).length + 1 := by
  have ii : inL ws i := ⟨g.i0, hi⟩
  unfold addW
  by_cases hm : dom h ∈ ws.map (endD dom)
  · rw [if_pos hm]
    obtain ⟨m, hm1, hm2⟩ := mem_ends.1 hm
    exact ⟨g, m, hm1, hm2, g.top m i hm1 ii (by omega)⟩
  rw [if_neg hm]
  have hno : ∀ j, inL ws j → endD dom (getI ws j) ≠ dom h := fun j hj e => hm (mem_ends.2 ⟨j, hj, e⟩)
  have gL : getI (ws ++ [getI ws i ++ [h]]) (ws.length : Int) = getI ws i ++ [h] := getI_last
  have gA : ∀ j, inL ws j → getI (ws ++ [getI ws i ++ [h]]) j = getI ws j := fun j hj => getI_app hj
  have iL : inL (ws ++ [getI ws i ++ [h]]) (ws.length : Int) := inL_app1.2 (.inr rfl)
  have hp := g.pos
  have hi0 := g.i0
  have hmx : ∀ j, inL ws j → (getI ws j).length ≤ (getI ws i).length + 1 := fun j hj => g.top j i hj ii (by omega)
  refine ⟨⟨by simp, g.i0, by simp; omega, ?_, ?_, ?_, ?_, ?_, ?_, ?_⟩, ws.length, iL, by rw [gL, endD_app], by rw [gL]; simp⟩
  · rw [gA 0 ⟨by omega, by omega⟩]; exact g.root
  · intro j k hj hk
    rcases inL_app1.1 hj with hj | rfl <;> rcases inL_app1.1 hk with hk | rfl
    · rw [gA j hj, gA k hk]; exact g.nd j k hj hk
    · rw [gA j hj, gL, endD_app]; intro e; exact absurd e (hno j hj)
    · rw [gA k hk, gL, endD_app]; intro e; exact absurd e.symm (hno k hk)
    · intro _; rfl
  · intro j hj
    rcases inL_app1.1 hj with hj | rfl
    · rw [gA j hj]; exact g.rng j hj
    · rw [gL, endD_app]; exact hN
  · intro j hj h0
    rcases inL_app1.1 hj with hj | rfl
    · obtain ⟨k, h', k0, kj, e1, e2⟩ := g.par j hj h0
      have hk : inL ws k := ⟨k0, by have := hj.2; omega⟩
      exact ⟨k, h', k0, kj, by rw [gA k hk]; exact e1, by rw [gA j hj, gA k hk]; exact e2⟩
    · exact ⟨i, h, hi0, hi, by rw [gA i ii]; exact hh, by rw [gL, gA i ii]⟩
  · intro k hk hki h' hh'
    have hk' : inL ws k := ⟨hk.1, by omega⟩
    rw [gA k hk'] at hh' ⊢
    obtain ⟨m, m1, m2, m3⟩ := g.closed k hk' hki h' hh'
    exact ⟨m, inL_app m1, by rw [gA m m1]; exact m2, by rw [gA m m1]; exact m3⟩
  · intro j k hj hk hjk
    rcases inL_app1.1 hj with hj | rfl <;> rcases inL_app1.1 hk with hk | rfl
    · rw [gA j hj, gA k hk]; exact g.mono j k hj hk hjk
    · rw [gA j hj, gL]; simpa using hmx j hj
    · exact absurd hk.2 (by omega)
    · exact Nat.le_refl _
  · intro j k hj hk hik
    rcases inL_app1.1 hj with hj | rfl <;> rcases inL_app1.1 hk with hk | rfl
    · rw [gA j hj, gA k hk]; exact g.top j k hj hk hik
    · rw [gA j hj, gL]; have := hmx j hj; simp; omega
    · rw [gA k hk, gL]; have := g.mono i k ii hk hik; simp; omega
    · exact Nat.le_succ _
def HIn (dom : α → Int) (H : Int → List α) (N : Nat) : Prop := ∀ d, 0 ≤ d → d < (N : Int) → ∀ h ∈ H d, 0 ≤ dom h ∧ dom h < (N : Int)
section
variable (hH : HIn dom H N) (hr : 0 ≤ dom root ∧ dom root < (N : Int))
include hH hr
end
theorem few_below : ∀ (N : Nat) (l : List Int), l.Nodup → (∀ x ∈ l, 0 ≤ x ∧ x < (N : Int)) → l.length ≤ N
  | 0, l, _, h => by
    cases l with
    | nil => simp
    | cons a l => have := h a (by simp); omega
  | N + 1, l, hn, h => by
    by_cases hm : (N : Int) ∈ l
    · have h1 := few_below N (l.erase (N : Int)) (hn.erase _) (fun x hx => by
        rw [hn.mem_erase_iff] at hx
        have := h x hx.2
        have := hx.1
        omega)
      rw [List.length_erase_of_mem hm] at h1
      omega
    · have h1 := few_below N l hn (fun x hx => by
        have := h x hx
        have : x ≠ (N : Int) := fun e => hm (e ▸ hx)
        omega)
      omega
theorem Good.len {ws : List (List α)} {i : Int} (g : Good dom H N root ws i) : ws.length ≤ N := by
  have hn : (ws.map (endD dom)).Nodup := by
    rw [List.nodup_iff_pairwise_ne, List.pairwise_iff_getElem]
    intro a b ha hb hab e
    rw [List.length_map] at ha hb
    rw [List.getElem_map, List.getElem_map] at e
    have ea : getI ws (a : Int) = ws[a] := getI_nat (List.getElem?_eq_getElem ha)
    have eb : getI ws (b : Int) = ws[b] := getI_nat (List.getElem?_eq_getElem hb)
    have := g.nd a b ⟨by omega, by omega⟩ ⟨by omega, by omega⟩ (by rw [ea, eb]; exact e)
    omega
  have := few_below N _ hn (fun x hx => by
    obtain ⟨j, hj, rfl⟩ := mem_ends.1 hx
    exact g.rng j hj)
  simpa using this
theorem Good.len1 {ws : List (List α)} {i : Int} (g : Good dom H N root ws i) : ∀ (m : Nat) (j : Int), j < m → inL ws j → 1 ≤ (getI ws j).length ∧ ((getI ws j).length : Int) ≤ j + 1
  | 0, j, h, hj => by have := hj.1; omega
  | m + 1, j, h, hj => by
    have := hj.1
    by_cases h0 : j = 0
    · rw [h0, g.root]; simp
    · obtain ⟨k, h', k0, kj, _, e⟩ := g.par j hj (by omega)
      have := g.len1 m k (by omega) ⟨k0, by have := hj.2; omega⟩
      rw [e]; simp; omega
variable (dom) in
noncomputable def DW (ws : List (List α)) (d : Int) : Int := if 0 ≤ fstI ws (fun w => endD dom w = d) then ((getI ws (fstI ws fun w => endD dom w = d)).length : Int) - 1 else -1
theorem Good.fst {ws : List (List α)} {i : Int} (g : Good dom H N root ws i) {j : Int} (hj : inL ws j) : fstI ws (fun w => endD dom w = endD dom (getI ws j)) = j := by
  rw [fstI_eq hj]
  refine ⟨rfl, fun k hk hkj e => ?_⟩
  have := g.nd k j hk hj e
  omega
theorem Good.DW_at {ws : List (List α)} {i : Int} (g : Good dom H N root ws i) {j : Int} (hj : inL ws j) : DW dom ws (endD dom (getI ws j)) = ((getI ws j).length : Int) - 1 := by
  unfold DW; rw [g.fst hj, if_pos hj.1]
theorem DW_no {ws : List (List α)} {d : Int} (h : d ∉ ws.map (endD dom)) : DW dom ws d = -1 := by
  unfold DW; rw [if_neg]
  intro h0
  exact h (mem_ends.2 ⟨_, fstI_inL.1 h0, fstI_is h0⟩)
structure Dist (dom : α → Int) (H : Int → List α) (N : Nat) (a : Int) (D : Int → Int) : Prop where
  zero : D a = 0
  only : ∀ d, D d = 0 → d = a
  ge : ∀ d, -1 ≤ D d
  lt : ∀ d, D d < N
  rng : ∀ d, 0 ≤ D d → 0 ≤ d ∧ d < N
  edge : ∀ i, 0 ≤ D i → ∀ h ∈ H i, 0 ≤ D (dom h) ∧ D (dom h) ≤ D i + 1
  pre : ∀ d, 0 < D d → ∃ i h, D i = D d - 1 ∧ h ∈ H i ∧ dom h = d
theorem Dist.back {a b : Int} {D E : Int → Int} (hD : Dist dom H N a D) (hE : Dist dom H N b E) (hs : ∀ i h, 0 ≤ i → i < (N : Int) → h ∈ H i → ∃ h' ∈ H (dom h), dom h' = i) :
    ∀ (n : Nat) (d : Int), D d = n → 0 ≤ E d → 0 ≤ E a ∧ E a ≤ E d + n
  | 0, d, h, h2 => by
    have := hD.only d h
    subst this; exact ⟨h2, by omega⟩
  | n + 1, d, h, h2 => by
    obtain ⟨i, x, e1, e2, e3⟩ := hD.pre d (by omega)
    have hi := hD.rng i (by omega)
    obtain ⟨y, y1, y2⟩ := hs i x hi.1 hi.2 e2
    rw [e3] at y1
    have h3 := hE.edge d h2 y y1
    rw [y2] at h3
    have := Dist.back hD hE hs n i (by omega) h3.1
    exact ⟨this.1, by omega⟩
theorem Dist.both {a b : Int} {D E : Int → Int} (hD : Dist dom H N a D) (hE : Dist dom H N b E) (hs : ∀ i h, 0 ≤ i → i < (N : Int) → h ∈ H i → ∃ h' ∈ H (dom h), dom h' = i) : D b = E a := by
  have k1 : 0 ≤ D b → 0 ≤ E a ∧ E a ≤ D b := fun h => by
    have := Dist.back hD hE hs (D b).toNat b (by omega) (by rw [hE.zero]; omega)
    rw [hE.zero] at this; omega
  have k2 : 0 ≤ E a → 0 ≤ D b ∧ D b ≤ E a := fun h => by
    have := Dist.back hE hD hs (E a).toNat a (by omega) (by rw [hD.zero]; omega)
    rw [hD.zero] at this; omega
  have := hD.ge b
  have := hE.ge a
  by_cases h : 0 ≤ D b
  · have := k1 h; have := k2 this.1; omega
  · by_cases h' : 0 ≤ E a
    · have := k2 h'; omega
    · omega
theorem Dist.conn {E : Int → Int → Prop} {a : Int} {D : Int → Int} (hD : Dist dom H N a D) (hE : ∀ i j, (∃ h ∈ H i, dom h = j) → 0 ≤ i → i < (N : Int) → E i j) : ∀ (n : Nat) (d : Int), D d = n → Conn E a d
  | 0, d, h => by have := hD.only d h; subst this; exact .refl _
  | n + 1, d, h => by
    obtain ⟨i, x, e1, e2, e3⟩ := hD.pre d (by omega)
    have hi := hD.rng i (by omega)
    exact .trans (Dist.conn hD hE n i (by omega)) (.edge (hE i d ⟨x, e2, e3⟩ hi.1 hi.2))
end
end Go.Eng

set_option linter.unusedVariables false
set_option linter.unusedSectionVars false
set_option linter.unusedSimpArgs false
namespace Go.Eng
open Go Classical
attribute [local congr] ite_cg
variable {n : Api_Net}

noncomputable def othI (n : Api_Net) (p : Int) : Int :=
  if RightP n ∧ inL n.ports p ∧ 0 ≤ (getI n.ports p).link then
    (if (getI n.links (getI n.ports p).link).a = p then (getI n.links (getI n.ports p).link).b else (getI n.links (getI n.ports p).link).a)
  else -1

theorem RightP.link (h : RightP n) {p : Int} (hp : inL n.ports p) (hl : 0 ≤ (getI n.ports p).link) :
    inL n.links (getI n.ports p).link ∧ ((getI n.links (getI n.ports p).link).a = p ∨ (getI n.links (getI n.ports p).link).b = p) := by
  have := (h.ports p hp).2.2.2.2.2.2.2.2
  rcases this with h1 | h1
  · omega
  · exact h1

theorem links_Other_spec (hs : SmN n) {p : Int} : links_Other n p = some (othI n p) := by
  unfold links_Other othI
  by_cases hr : RightP n
  case neg =>
    by_cases h1 : p < 0
    · simp [h1, hr]
    by_cases h2 : (n.ports.length : Int) ≤ p
    · simp [h1, h2, hr]
    have hp : inL n.ports p := ⟨by omega, by omega⟩
    simp only [names_Right_spec hs, hr, nth_getI hp, bind_ite, Option.bind_some, dif1, dif2, dif3, dif4, dif5, dif6, dif7, dnot, ibeq, ibne, decide_eq_true_eq, if_not2, ge_iff_le, gt_iff_lt, fst_ret, Bool.false_eq_true, decide_false]
    simp
  by_cases hp : inL n.ports p
  case neg =>
    have : p < 0 ∨ (n.ports.length : Int) ≤ p := by unfold inL at hp; omega
    simp only [hp, bind_ite, Option.bind_some, dif1, dif2, dif3, dif4, dif5, dif6, dif7, dnot, ibeq, ibne, decide_eq_true_eq, if_not2, ge_iff_le, gt_iff_lt, fst_ret, Bool.false_eq_true, decide_false]
    rcases this with h | h <;> simp [h]
  have h1 : ¬ p < 0 := by have := hp.1; omega
  have h2 : ¬ (n.ports.length : Int) ≤ p := by have := hp.2; omega
  by_cases hl : 0 ≤ (getI n.ports p).link
  · have hk := hr.link hp hl
    have h3 : ¬ (getI n.ports p).link < 0 := by omega
    simp only [names_Right_spec hs, hr, nth_getI hp, nth_getI hk.1, hp, hl, h1, h2, h3, bind_ite, Option.bind_some, dif1, dif2, dif3, dif4, dif5, dif6, dif7, dnot, ibeq, ibne, decide_eq_true_eq, if_not2, ge_iff_le, gt_iff_lt, fst_ret, Bool.false_eq_true, decide_false, if_false, if_true, and_self]
    split <;> rfl
  · have h3 : (getI n.ports p).link < 0 := by omega
    simp only [nth_getI hp, hl, h1, h2, h3, bind_ite, Option.bind_some, dif1, dif2, dif3, dif4, dif5, dif6, dif7, dnot, ibeq, ibne, decide_eq_true_eq, if_not2, ge_iff_le, gt_iff_lt, fst_ret, Bool.false_eq_true, decide_false, if_false, if_true, and_false]

theorem othI_right {p : Int} (h : 0 ≤ othI n p) : RightP n ∧ inL n.ports p ∧ 0 ≤ (getI n.ports p).link := by
  unfold othI at h
  split at h
  · assumption
  · omega

structure OthP (n : Api_Net) (p q : Int) : Prop where
  ip : inL n.ports p
  iq : inL n.ports q
  ik : inL n.links (getI n.ports p).link
  link : (getI n.ports q).link = (getI n.ports p).link
  dev : (getI n.ports q).dev ≠ (getI n.ports p).dev
  ends : (p = (getI n.links (getI n.ports p).link).a ∧ q = (getI n.links (getI n.ports p).link).b) ∨ (p = (getI n.links (getI n.ports p).link).b ∧ q = (getI n.links (getI n.ports p).link).a)

theorem othI_othP {p : Int} (h : 0 ≤ othI n p) : OthP n p (othI n p) := by
  have hh := othI_right h
  obtain ⟨hr, hp, hl⟩ := hh
  obtain ⟨hk, he⟩ := hr.link hp hl
  have hL := hr.links _ hk
  obtain ⟨ha, hb, hd, la, lb⟩ := hL
  have heq : othI n p = if (getI n.links (getI n.ports p).link).a = p then (getI n.links (getI n.ports p).link).b else (getI n.links (getI n.ports p).link).a := by
    unfold othI; rw [if_pos ⟨hr, hp, hl⟩]
  have hne : (getI n.links (getI n.ports p).link).a ≠ (getI n.links (getI n.ports p).link).b := fun e => hd (by rw [e])
  by_cases h1 : (getI n.links (getI n.ports p).link).a = p
  · rw [if_pos h1] at heq
    rw [heq]
    exact ⟨hp, hb, hk, by rw [lb], by rw [h1] at hd; exact fun e => hd e.symm, .inl ⟨h1.symm, rfl⟩⟩
  · rw [if_neg h1] at heq
    have h2 : (getI n.links (getI n.ports p).link).b = p := he.resolve_left h1
    rw [heq]
    exact ⟨hp, ha, hk, by rw [la], by rw [h2] at hd; exact hd, .inr ⟨h2.symm, rfl⟩⟩

theorem OthP.back (hr : RightP n) {p q : Int} (h : OthP n p q) : othI n q = p := by
  unfold othI
  have h0 := h.ik.1
  rw [if_pos ⟨hr, h.iq, by rw [h.link]; exact h0⟩, h.link]
  have hd := h.dev
  rcases h.ends with ⟨e1, e2⟩ | ⟨e1, e2⟩
  · rw [if_neg, ← e1]
    intro e
    rw [← e1] at e
    exact hd (by rw [e])
  · rw [if_pos e2.symm, ← e1]

noncomputable def toI (n : Api_Net) (p q v : Int) : Int := if v = (getI n.ports p).native then (getI n.ports q).native else if v ∈ (getI n.ports q).tagged then v else 0
noncomputable def crossI (n : Api_Net) (p v : Int) : Int × Int × Bool :=
  if 0 ≤ othI n p ∧ MemP (getI n.ports p) v ∧ toI n p (othI n p) v ≠ 0 then (othI n p, toI n p (othI n p) v, true) else (0, 0, false)

theorem links_Cross_spec (hs : SmN n) {p v : Int} : links_Cross n p v = some (crossI n p v) := by
  unfold links_Cross crossI
  simp only [links_Other_spec hs, bind_ite, Option.bind_some, dif1, dif2, dif3, dif4, dif5, dif6, dif7, dnot, ibeq, ibne, decide_eq_true_eq, if_not2, ge_iff_le, gt_iff_lt, fst_ret, Bool.false_eq_true, decide_false]
  by_cases h : 0 ≤ othI n p
  case neg =>
    have : othI n p < 0 := by omega
    simp [h, this]
  have hO := othI_othP h
  have h1 : ¬ othI n p < 0 := by omega
  have f1 : Few (getI n.ports p).tagged := hs.tagged _ (getI_mem hO.ip)
  have f2 : Few (getI n.ports (othI n p)).tagged := hs.tagged _ (getI_mem hO.iq)
  simp only [h1, h, nth_getI hO.ip, nth_getI hO.iq, Member_spec f1, Contains_int_spec f2, bind_ite, Option.bind_some, dif1, dif2, dif3, dif4, dif5, dif6, dif7, dnot, ibeq, ibne, decide_eq_true_eq, if_not2, ge_iff_le, gt_iff_lt, fst_ret, Bool.false_eq_true, decide_false, if_false, true_and]
  by_cases hm : MemP (getI n.ports p) v
  case neg => simp [hm]
  simp only [hm, if_true, true_and]
  unfold toI
  by_cases h2 : v = (getI n.ports p).native
  · simp only [h2, if_true]
    split <;> simp_all
  · simp only [h2, if_false]
    by_cases h3 : v ∈ (getI n.ports (othI n p)).tagged
    · simp only [h3, if_true]
      split <;> simp_all
    · simp [h3]

end Go.Eng

set_option linter.unusedVariables false
set_option linter.unusedSectionVars false
set_option linter.unusedSimpArgs false
namespace Go.Eng
open Go Classical
attribute [local congr] ite_cg

theorem rPlace_spec {α : Type} {l : List α} {i : Int} : palingref15_Place i (l.length : Int) = some (decide (inL l i)) := by
  simp only [palingref15_Place, bind_ite, Option.bind_some, dif1, dif2, dif3, dif4, dif5, dif6, dif7, dnot, ibeq, ibne, decide_eq_true_eq, if_not2, ge_iff_le, gt_iff_lt, fst_ret, Bool.false_eq_true, decide_false]; exact sdec Iff.rfl

theorem rIn_spec {l : List Int} {x : Int} (hl : Few l) : palingref15_In l x = some (decide (x ∈ l)) := by
  unfold palingref15_In
  rw [loop_each l (fun _ y => ¬ y = x) (.inl ()) (.inr ()) hl (fun i h0 h1 h2 => by
    simp (disch := omega) only [palingref15_In_L1, h1, nth_getI h2, wr64, bind_ite, Option.bind_some, dif1, dif2, dif3, dif4, dif5, dif6, dif7, dnot, ibeq, ibne, decide_eq_true_eq, if_not2, ge_iff_le, gt_iff_lt, fst_ret, Bool.false_eq_true, decide_false, mrg1, mrg2, mrg3, mrg4, mrg5, mrg6, mrg7, decide_true, if_true]; exact fpos Iff.rfl) (by simp [palingref15_In_L1])]
  simp only [bind_ite, Option.bind_some, dif1, dif2, dif3, dif4, dif5, dif6, dif7, dnot, ibeq, ibne, decide_eq_true_eq, if_not2, ge_iff_le, gt_iff_lt, fst_ret, Bool.false_eq_true, decide_false, eachP_mem]
  refine sdec ?_
  constructor
  · intro h
    apply Classical.byContradiction
    intro hn
    exact h fun y hy e => hn (e ▸ hy)
  · intro h hn
    exact hn x h rfl

section
variable {n : Api_Net}
end
end Go.Eng

set_option linter.unusedVariables false
set_option linter.unusedSectionVars false
set_option linter.unusedSimpArgs false
namespace Go.Eng
open Go Classical
attribute [local congr] ite_cg
variable {n : Api_Net}

theorem links_Domain_spec (hs : SmN n) (hr : RightP n) {p v : Int} : links_Domain n p v = some (if (crossI n p v).2.2 = true then (domIx n.domains (getI n.ports (othI n p)).dev (toI n p (othI n p) v), true) else (0, false)) := by
  simp only [links_Domain, links_Cross_spec hs, Option.bind_some]
  unfold crossI
  by_cases h : 0 ≤ othI n p ∧ MemP (getI n.ports p) v ∧ toI n p (othI n p) v ≠ 0
  · have hO := othI_othP h.1
    simp only [if_pos h, Bool.not_true, Bool.false_eq_true, if_false, if_true, nth_getI hO.iq, Option.bind_some, names_Domain_spec hs, if_pos hr]
  · simp only [if_neg h, Bool.not_false, Bool.false_eq_true, if_false, if_true]

end Go.Eng

set_option linter.unusedVariables false
set_option linter.unusedSectionVars false
set_option linter.unusedSimpArgs false
namespace Go.Eng
open Go Classical
attribute [local congr] ite_cg
section
variable {n : Api_Net}
def InDom (n : Api_Net) (k : Int) (p : Api_Port) : Prop := p.dev = (getI n.domains k).dev ∧ MemP p (getI n.domains k).vlan
noncomputable def membersL (n : Api_Net) (k : Int) : List Int := gatherI n.ports (fun _ p => InDom n k p) (fun i _ => i)
end
end Go.Eng

set_option linter.unusedVariables false
set_option linter.unusedSectionVars false
set_option linter.unusedSimpArgs false
namespace Go.Eng
open Go Classical
attribute [local congr] ite_cg
section
variable {n : Api_Net}
theorem membersL_in {k p : Int} (h : p ∈ membersL n k) : inL n.ports p := by
  obtain ⟨i, hi, _, rfl⟩ := mem_gatherI.1 h
  exact hi
theorem membersL_len {k : Int} : (membersL n k).length ≤ n.ports.length := gatherI_len
end
end Go.Eng

set_option linter.unusedVariables false
set_option linter.unusedSectionVars false
set_option linter.unusedSimpArgs false
namespace Go.Eng
open Go Classical

def LeL (l' l : List Int) : Prop := l'.length = l.length ∧ ∀ x, inL l x → getI l' x ≤ getI l x
theorem LeL.refl (l : List Int) : LeL l l := ⟨rfl, fun _ _ => Int.le_refl _⟩
theorem LeL.trans {a b c : List Int} (h : LeL a b) (g : LeL b c) : LeL a c :=
  ⟨h.1.trans g.1, fun x hx => Int.le_trans (h.2 x (by unfold inL at *; rw [g.1]; exact hx)) (g.2 x hx)⟩
theorem LeL.inL {a b : List Int} (h : LeL a b) {x : Int} : inL a x ↔ inL b x := by unfold Go.Eng.inL; rw [h.1]

section
variable {E : Int → Int → Prop} {N : Nat} {next : Int → List Int}
end
end Go.Eng

set_option linter.unusedVariables false
set_option linter.unusedSectionVars false
set_option linter.unusedSimpArgs false
namespace Go.Eng
open Go Classical
attribute [local congr] ite_cg
section
variable {n : Api_Net}
noncomputable def toDom (n : Api_Net) (p v : Int) : Int := domIx n.domains (getI n.ports (othI n p)).dev (toI n p (othI n p) v)
def OkX (n : Api_Net) (p v : Int) : Prop := 0 ≤ othI n p ∧ MemP (getI n.ports p) v ∧ toI n p (othI n p) v ≠ 0
theorem crossI_ok {p v : Int} : (crossI n p v).2.2 = true ↔ OkX n p v := by
  unfold crossI OkX
  by_cases h : 0 ≤ othI n p ∧ MemP (getI n.ports p) v ∧ toI n p (othI n p) v ≠ 0
  · rw [if_pos h]; simp [h]
  · rw [if_neg h]; simp [h]
theorem dom_of_mem (hr : RightP n) {p v : Int} (hp : inL n.ports p) (hm : MemP (getI n.ports p) v) :
    inL n.domains (domIx n.domains (getI n.ports p).dev v) ∧ (getI n.domains (domIx n.domains (getI n.ports p).dev v)).dev = (getI n.ports p).dev ∧ (getI n.domains (domIx n.domains (getI n.ports p).dev v)).vlan = v := by
  have hP := hr.ports p hp
  have h0 : 0 ≤ domIx n.domains (getI n.ports p).dev v := by
    obtain ⟨hv, h | h⟩ := hm
    · subst h
      exact hP.2.2.2.2.2.2.2.1 (by have := hP.2.1; omega)
    · exact hP.2.2.2.2.2.2.1 v h
  have h1 := fstI_is (l := n.domains) (P := fun d => d.dev = (getI n.ports p).dev ∧ d.vlan = v) h0
  exact ⟨fstI_inL.1 h0, h1.1, h1.2⟩
theorem to_mem {p v : Int} (h : OkX n p v) : MemP (getI n.ports (othI n p)) (toI n p (othI n p) v) := by
  obtain ⟨_, hm, hz⟩ := h
  unfold toI at hz ⊢
  split at hz
  · rename_i h1; rw [if_pos h1]; exact ⟨hz, .inl rfl⟩
  · rename_i h1; rw [if_neg h1]
    split at hz
    · rename_i h2; rw [if_pos h2]; exact ⟨hm.1, .inr h2⟩
    · exact absurd rfl hz
theorem toDom_in (hr : RightP n) {p v : Int} (h : OkX n p v) : inL n.domains (toDom n p v) := (dom_of_mem hr (othI_othP h.1).iq (to_mem h)).1

theorem mem_membersL {k p : Int} : p ∈ membersL n k ↔ inL n.ports p ∧ InDom n k (getI n.ports p) := by
  unfold membersL
  rw [mem_gatherI]
  constructor
  · rintro ⟨i, h1, h2, rfl⟩; exact ⟨h1, h2⟩
  · rintro ⟨h1, h2⟩; exact ⟨p, h1, h2, rfl⟩
theorem domIx_self (hr : RightP n) {x : Int} (hx : inL n.domains x) : domIx n.domains (getI n.domains x).dev (getI n.domains x).vlan = x := (hr.bare x hx).2.2.2.2.2.2
end
end Go.Eng

set_option linter.unusedVariables false
set_option linter.unusedSectionVars false
set_option linter.unusedSimpArgs false
namespace Go.Eng
open Go Classical
attribute [local congr] ite_cg

end Go.Eng

set_option linter.unusedVariables false
set_option linter.unusedSectionVars false
set_option linter.unusedSimpArgs false
namespace Go.Eng
open Go Classical
attribute [local congr] ite_cg
section
variable {n : Api_Net}
theorem links_Domain_ok (hs : SmN n) (hr : RightP n) {p v : Int} : links_Domain n p v = some (if OkX n p v then (toDom n p v, true) else (0, false)) := by
  rw [links_Domain_spec hs hr]
  congr 1
  by_cases h : OkX n p v
  · rw [if_pos h, if_pos (crossI_ok.2 h)]; rfl
  · rw [if_neg h, if_neg (fun g => h (crossI_ok.1 g))]
theorem peer_sym (hr : RightP n) {i k : Int} (hi : inL n.domains i) (hk : k ∈ (getI n.domains i).peers) : inL n.domains k ∧ k ≠ i ∧ i ∈ (getI n.domains k).peers := by
  obtain ⟨j, hj, rfl⟩ := mem_getI hk
  have := (hr.peers i hi j hj).1
  exact ⟨this.1, this.2.1, this.2.2.2.2.2.2.2.2⟩
end
end Go.Eng

set_option linter.unusedVariables false
set_option linter.unusedSectionVars false
set_option linter.unusedSimpArgs false
namespace Go.Eng
open Go Classical
attribute [local congr] ite_cg
section
variable {n : Api_Net}
theorem names_Members_spec (hs : SmN n) {k : Int} : names_Members n k = some (if RightP n ∧ inL n.domains k then membersL n k else []) := by
  by_cases hr : RightP n
  case neg => simp [names_Members, names_Right_spec hs, hr]
  by_cases hk : inL n.domains k
  case neg => simp [names_Members, names_Right_spec hs, place_Domain_spec, hr, hk]
  simp only [names_Members, names_Right_spec hs, place_Domain_spec, hr, hk, decide_true, and_self, if_true, Option.bind_some]
  rw [loop_gather n.ports (fun _ p => InDom n k p) (fun i _ => i) (out := id) hs.ports (fun i s h0 h1 h2 h3 => by
    have h4 := hs.ports
    have h5 : roomy 8 (s ++ [i]) = true := roomy_few (by simp; omega)
    simp (disch := omega) only [names_Members_L1, h1, nth_getI h2, nth_getI hk, Member_spec (hs.tagged _ (getI_mem h2)), wr64, h5, bind_ite, Option.bind_some, dif1, dif2, dif3, dif4, dif5, dif6, dif7, dnot, ibeq, ibne, decide_eq_true_eq, if_not2, ge_iff_le, gt_iff_lt, fst_ret, Bool.false_eq_true, decide_false, decide_true, if_true, InDom]
    grind) (fun s => by simp [names_Members_L1])]
  rfl

end
end Go.Eng

set_option linter.unusedVariables false
set_option linter.unusedSectionVars false
set_option linter.unusedSimpArgs false
namespace Go.Eng
open Go Classical
attribute [local congr] ite_cg

theorem linT {α : Type} {l : List α} {i : Int} (h : inL l i) : lin l i = true := by rw [lin_dec]; exact decide_eq_true h
theorem loop_map {α β ρ : Type} [Inhabited α] {f : List β × Int → Option ((List β × Int) ⊕ ρ)} (l : List α) (e : α → β) (s0 : List β) {out : List β → ρ} (hb : Few l)
    (h1 : ∀ (i : Int) (s : List β), inL l i → (s.length : Int) = s0.length + i → f (s, i) = some (.inl (s ++ [e (getI l i)], i + 1))) (h2 : ∀ s, f (s, l.length) = some (.inr (out s))) :
    loopM f (s0, 0) = some (out (s0 ++ l.map e)) := by
  have := loopM_trace (f := f) (r := out (s0 ++ l.map e)) (fun i => (s0 ++ (l.take i).map e, (i : Int))) l.length (by unfold Few at hb; omega) (fun i hi => by
    have hx : l[i]? = some l[i] := List.getElem?_eq_getElem hi
    have hl : (l.take i).length = i := by simp; omega
    have h := h1 (i : Int) (s0 ++ (l.take i).map e) (inL_nat hx) (by simp; omega)
    rw [getI_nat hx] at h
    rw [h, List.take_add_one, hx]
    simp only [List.map_append, Option.toList_some, List.map_cons, List.map_nil, List.append_assoc, Int.natCast_add, Int.natCast_one]) (by simp only [List.take_length]; exact h2 _)
  simpa using this

section
variable {n : Api_Net}
noncomputable def hopsI (n : Api_Net) (d : Int) : List Reach_Hop :=
  gatherI (membersL n d) (fun _ p => OkX n p (getI n.domains d).vlan) (fun _ p => ⟨1, p, toDom n p (getI n.domains d).vlan, 0⟩) ++ (getI n.domains d).peers.map (fun k => ⟨2, 0, k, 0⟩)
theorem hopsI_len (hg : BndN n 200 100) {d : Int} (hd : inL n.domains d) : (hopsI n d).length ≤ 300 := by
  unfold hopsI
  have h1 : (gatherI (membersL n d) (fun _ p => OkX n p (getI n.domains d).vlan) (fun _ p => (⟨1, p, toDom n p (getI n.domains d).vlan, 0⟩ : Reach_Hop))).length ≤ n.ports.length := Nat.le_trans gatherI_len membersL_len
  have h2 := hg.ports
  have h3 := hg.peers _ (getI_mem hd)
  simp; omega
theorem place_spec (hs : SmN n) {d : Int} : reach_place n d = some (decide (inL n.domains d ∧ RightP n)) := by
  unfold reach_place
  rw [names_Right_spec hs]
  by_cases h1 : d ≥ 0
  · by_cases h2 : d < (n.domains.length : Int)
    · rw [if_pos (by simpa using h1), if_pos (by simpa using h2)]
      exact sdec ⟨fun h => ⟨⟨h1, h2⟩, h⟩, fun h => h.2⟩
    · rw [if_pos (by simpa using h1), if_neg (by simpa using h2)]
      exact (congrArg some (decide_eq_false (p := inL n.domains d ∧ RightP n) (fun h => h2 h.1.2))).symm
  · rw [if_neg (by simpa using h1)]
    exact (congrArg some (decide_eq_false (p := inL n.domains d ∧ RightP n) (fun h => h1 h.1.1))).symm
theorem reach_Hops_spec (hg : BndN n 200 100) (hr : RightP n) {d : Int} (hd : inL n.domains d) : reach_Hops n d = some (hopsI n d) := by
  have hs := hg.sm
  have hml : (membersL n d).length ≤ 200 := Nat.le_trans membersL_len hg.ports
  have hpl := hg.peers _ (getI_mem hd)
  simp only [reach_Hops, place_spec hs, Option.bind_some, decide_eq_true (show inL n.domains d ∧ RightP n from ⟨hd, hr⟩), Bool.not_true, Bool.false_eq_true, if_false, names_Members_spec hs, if_pos (show RightP n ∧ inL n.domains d from ⟨hr, hd⟩), nth_getI hd]
  have e1 := loop_gather (f := fun s : (List Reach_Hop) × Int => match s with | (l9, v10) => reach_Hops_L1 n d (membersL n d) l9 v10) (membersL n d) (fun _ p => OkX n p (getI n.domains d).vlan) (fun _ p => (⟨1, p, toDom n p (getI n.domains d).vlan, 0⟩ : Reach_Hop)) (out := fun s => s) (by unfold Few; omega) (fun i s i0 i1 hi hsl => by
    simp only [reach_Hops_L1, i1, decide_true, if_true, linT hi, getI_get? hi, Option.bind_some, nth_getI hd, links_Domain_ok hs hr, wr64 (n := i + 1) (by omega) (by omega)]
    by_cases ho : OkX n (getI (membersL n d) i) (getI n.domains d).vlan
    · simp only [if_pos ho, if_true]
      rw [if_pos (roomy_few (by simp; omega))]
    · simp only [if_neg ho, Bool.false_eq_true, if_false]) (fun s => by simp [reach_Hops_L1])
  rw [e1]
  simp only [Option.bind_some]
  have hgl : (gatherI (membersL n d) (fun _ p => OkX n p (getI n.domains d).vlan) (fun _ p => (⟨1, p, toDom n p (getI n.domains d).vlan, 0⟩ : Reach_Hop))).length ≤ 200 := Nat.le_trans gatherI_len hml
  have e2 := loop_map (f := fun s : (List Reach_Hop) × Int => match s with | (l30, v31) => reach_Hops_L2 (getI n.domains d) l30 v31) (getI n.domains d).peers (fun k => (⟨2, 0, k, 0⟩ : Reach_Hop)) (gatherI (membersL n d) (fun _ p => OkX n p (getI n.domains d).vlan) (fun _ p => (⟨1, p, toDom n p (getI n.domains d).vlan, 0⟩ : Reach_Hop))) (out := fun s => s) (by unfold Few; omega) (fun i s hi hlen => by
    have i0 := hi.1; have i1 := hi.2
    simp only [reach_Hops_L2, i1, decide_true, if_true, nth_getI hi, Option.bind_some, wr64 (n := i + 1) (by omega) (by omega)]
    rw [if_pos (roomy_few (by simp; omega))]) (fun s => by simp [reach_Hops_L2])
  rw [e2]
  rfl
theorem mem_hopsI {d : Int} {h : Reach_Hop} : h ∈ hopsI n d ↔ (∃ p ∈ membersL n d, OkX n p (getI n.domains d).vlan ∧ h = ⟨1, p, toDom n p (getI n.domains d).vlan, 0⟩) ∨ ∃ k ∈ (getI n.domains d).peers, h = ⟨2, 0, k, 0⟩ := by
  unfold hopsI
  rw [List.mem_append, mem_gatherI, List.mem_map]
  constructor
  · rintro (⟨i, hi, h1, rfl⟩ | ⟨k, hk, rfl⟩)
    · exact .inl ⟨_, getI_mem hi, h1, rfl⟩
    · exact .inr ⟨k, hk, rfl⟩
  · rintro (⟨p, hp, h1, rfl⟩ | ⟨k, hk, rfl⟩)
    · obtain ⟨i, hi, rfl⟩ := mem_getI hp
      exact .inl ⟨i, hi, h1, rfl⟩
    · exact .inr ⟨k, hk, rfl⟩
theorem hops_in (hr : RightP n) : HIn (fun h : Reach_Hop => h.domain) (hopsI n) n.domains.length := by
  intro d d0 d1 h hh
  have hd : inL n.domains d := ⟨d0, d1⟩
  rcases mem_hopsI.1 hh with ⟨p, _, ho, rfl⟩ | ⟨k, hk, rfl⟩
  · exact toDom_in hr ho
  · exact (peer_sym hr hd hk).1
end
end Go.Eng

set_option linter.unusedVariables false
set_option linter.unusedSectionVars false
set_option linter.unusedSimpArgs false
namespace Go.Eng
open Go Classical
attribute [local congr] ite_cg

/-! ### Gathering that may stop -/
theorem gatherI_sorted {α : Type} [Inhabited α] {l : List α} {P : Int → α → Prop} : (gatherI l P (fun i _ => i)).Pairwise (· < ·) := by
  have key : ∀ (l : List α) (k : Nat), (((l.zipIdx k).filterMap fun q => if P q.2 q.1 then some (q.2 : Int) else none).Pairwise (· < ·)) ∧ ∀ x ∈ ((l.zipIdx k).filterMap fun q => if P q.2 q.1 then some (q.2 : Int) else none), (k : Int) ≤ x := by
    intro l
    induction l with
    | nil => intro k; simp
    | cons a l ih =>
      intro k
      obtain ⟨h1, h2⟩ := ih (k + 1)
      rw [List.zipIdx_cons, List.filterMap_cons]
      by_cases hp : P k a
      · simp only [hp, if_true]
        refine ⟨List.pairwise_cons.2 ⟨fun x hx => by have := h2 x hx; omega, h1⟩, fun x hx => ?_⟩
        rcases List.mem_cons.1 hx with rfl | hx
        · omega
        · have := h2 x hx; omega
      · simp only [hp, if_false]
        exact ⟨h1, fun x hx => by have := h2 x hx; omega⟩
  exact (key l 0).1

theorem loop_gatherx {α β : Type} [Inhabited α] {f : List β × Int → Option ((List β × Int) ⊕ (Unit ⊕ List β))} (l : List α) (X P : Int → α → Prop) (e : Int → α → β) (hb : Few l)
    (h1 : ∀ (i : Int) (s : List β), 0 ≤ i → i < l.length → inL l i → s.length ≤ i → f (s, i) = some (if X i (getI l i) then .inr (.inl ()) else .inl (if P i (getI l i) then s ++ [e i (getI l i)] else s, i + 1)))
    (h2 : ∀ s, f (s, l.length) = some (.inr (.inr s))) : loopM f ([], 0) = if ∃ i, inL l i ∧ X i (getI l i) then some (.inl ()) else some (.inr (gatherI l P e)) := by
  by_cases hx : ∃ i, inL l i ∧ X i (getI l i)
  · rw [if_pos hx]
    obtain ⟨i0, hi0, hX⟩ := hx
    obtain ⟨r, hr, hq⟩ := loopM_rule (f := f) (fun s => 0 ≤ s.2 ∧ s.2 ≤ i0 ∧ s.1.length ≤ s.2) (fun r => r = .inl ()) (fun s => (i0 - s.2).toNat) (s := ([], 0)) (fun s hs => by
      obtain ⟨s, i⟩ := s
      obtain ⟨g0, g1, g2⟩ := hs
      simp only at g0 g1 g2
      have h0 := hi0.1; have hl := hi0.2
      rw [h1 i s g0 (by omega) ⟨g0, by omega⟩ g2]
      by_cases hXi : X i (getI l i)
      · exact ⟨_, rfl, by simp [hXi]⟩
      · have hne : i ≠ i0 := fun e => hXi (e ▸ hX)
        refine ⟨_, rfl, ?_⟩
        rw [if_neg hXi]
        simp only
        refine ⟨⟨by omega, by omega, ?_⟩, by omega⟩
        split
        · simp; omega
        · omega) ⟨by simp, hi0.1, by simp⟩ (by simp; have := hi0.2; omega)
    rw [hr, hq]
  · rw [if_neg hx]
    exact loop_gather l P e (out := fun s => Sum.inr s) hb (fun i s a b c d => by rw [h1 i s a b c d, if_neg (fun h => hx ⟨i, c, h⟩)]) h2

/-! ### Prefixes -/
def kOf (p : Api_Prefix) : Nat := (32 - p.bits).toNat
def pw (k : Nat) : Int := ((2 ^ k : Nat) : Int)
def firstA (p : Api_Prefix) : Int := p.addr - p.addr % pw (kOf p)
def lastA (p : Api_Prefix) : Int := p.addr - p.addr % pw (kOf p) + (pw (kOf p) - 1)
structure PreOk (p : Api_Prefix) : Prop where
  b0 : 0 ≤ p.bits
  b1 : p.bits ≤ 32
  a0 : 0 ≤ p.addr
  a1 : p.addr < 4294967296
theorem pw_pos (k : Nat) : 0 < pw k := by unfold pw; have := Nat.two_pow_pos k; omega
theorem pw_le {k : Nat} (h : k ≤ 32) : pw k ≤ 4294967296 := by
  unfold pw
  have : 2 ^ k ≤ 2 ^ 32 := Nat.pow_le_pow_right (by decide) h
  omega
theorem kOf_le {p : Api_Prefix} (h : PreOk p) : kOf p ≤ 32 := by have := h.b0; unfold kOf; omega
theorem addr_rest_spec {p : Api_Prefix} (h : PreOk p) : addr_rest p = some (pw (kOf p) - 1) := by
  have h0 := h.b0; have h1 := h.b1
  unfold addr_rest
  rw [wr64 (by omega) (by omega)]
  simp only [show decide (0 ≤ 32 - p.bits) = true from decide_eq_true (by omega), if_true]
  have hk : min (32 - p.bits).toNat 32 = kOf p := by unfold kOf; omega
  rw [hk, Int.one_mul]
  have hp := pw_pos (kOf p)
  have hl := pw_le (kOf_le h)
  have e : ((2 : Int) ^ kOf p) = pw (kOf p) := by unfold pw; simp
  rw [e]
  congr 1
  by_cases hz : pw (kOf p) = 4294967296
  · rw [hz]; decide
  · have e1 : wr_u32 (pw (kOf p)) = pw (kOf p) := wr32 (by omega) (by omega)
    rw [e1, wr32 (by omega) (by omega)]
theorem addr_Right_spec {p : Api_Prefix} (h : PreOk p) : addr_Right p = some true := by
  have h0 := h.b0; have h1 := h.b1
  simp [addr_Right, h0, h1]
theorem first_le {p : Api_Prefix} (h : PreOk p) : 0 ≤ firstA p ∧ firstA p ≤ p.addr ∧ p.addr ≤ lastA p ∧ lastA p < 4294967296 := by
  have hp := pw_pos (kOf p)
  have hm := Int.emod_nonneg p.addr (by omega : pw (kOf p) ≠ 0)
  have hm2 := Int.emod_lt_of_pos p.addr hp
  have hd := Int.mul_ediv_add_emod p.addr (pw (kOf p))
  have a0 := h.a0; have a1 := h.a1
  refine ⟨?_, ?_, ?_, ?_⟩
  · unfold firstA
    have := Int.ediv_nonneg a0 (by omega : 0 ≤ pw (kOf p))
    have := Int.mul_nonneg (by omega : 0 ≤ pw (kOf p)) this
    omega
  · unfold firstA; omega
  · unfold lastA; omega
  · have := or_u32 (x := p.addr) (k := kOf p) a0 a1 (kOf_le h)
    have hw : bits_or .u32 p.addr ((2 ^ kOf p - 1 : Nat) : Int) < 4294967296 := by
      unfold bits_or IntKind.wrap
      simp [IntKind.signed, IntKind.bits]
      omega
    unfold lastA pw
    omega
def HasP (p : Api_Prefix) (a : Int) : Prop := firstA p ≤ a ∧ a ≤ lastA p
theorem hasP_div {p : Api_Prefix} {a : Int} : p.addr / pw (kOf p) = a / pw (kOf p) ↔ HasP p a := by
  have hp := pw_pos (kOf p)
  have hd := Int.mul_ediv_add_emod p.addr (pw (kOf p))
  have hd2 := Int.mul_ediv_add_emod a (pw (kOf p))
  have hm := Int.emod_nonneg a (by omega : pw (kOf p) ≠ 0)
  have hm2 := Int.emod_lt_of_pos a hp
  unfold HasP firstA lastA
  constructor
  · intro h; rw [← h] at hd2; omega
  · rintro ⟨h1, h2⟩
    have e1 : p.addr - p.addr % pw (kOf p) = pw (kOf p) * (p.addr / pw (kOf p)) := by omega
    rw [e1] at h1 h2
    have g1 : p.addr / pw (kOf p) ≤ a / pw (kOf p) := by
      rw [Int.le_ediv_iff_mul_le hp, Int.mul_comm]; exact h1
    have g2 : a / pw (kOf p) < p.addr / pw (kOf p) + 1 := by
      rw [Int.ediv_lt_iff_lt_mul hp, Int.add_mul, Int.mul_comm]; omega
    omega
theorem addr_Has_spec {p : Api_Prefix} {a : Int} (h : PreOk p) (h0 : 0 ≤ a) (h1 : a < 4294967296) : addr_Has p a = some (decide (HasP p a)) := by
  have := xorNot_u32 (x := p.addr) (y := a) (k := kOf p) h.a0 h.a1 h0 h1 (kOf_le h)
  have e : ((2 ^ kOf p - 1 : Nat) : Int) = pw (kOf p) - 1 := by unfold pw; have := Nat.two_pow_pos (kOf p); omega
  rw [e] at this
  simp only [addr_Has, addr_Right_spec h, addr_rest_spec h, Option.bind_some, if_true, ibeq]
  exact sdec (this.trans hasP_div)

/-! ### Leaks, and what an interface sees -/
section
variable {n : Api_Net}
def LeaksP (n : Api_Net) (a b : Int) : Prop := a = b ∨ (getI n.vrfs a).dev = (getI n.vrfs b).dev ∧ ∃ t ∈ (getI n.vrfs a).exports, t ∈ (getI n.vrfs b).imports
theorem vrfs_Leaks_spec (hs : SmN n) (hr : RightP n) {a b : Int} (ha : inL n.vrfs a) (hb : inL n.vrfs b) : vrfs_Leaks n a b = some (decide (LeaksP n a b)) := by
  have a0 : ¬ a < 0 := by have := ha.1; omega
  have b0 : ¬ b < 0 := by have := hb.1; omega
  have a1 : ¬ (n.vrfs.length : Int) ≤ a := by have := ha.2; omega
  have b1 : ¬ (n.vrfs.length : Int) ≤ b := by have := hb.2; omega
  have fi := hs.imports _ (getI_mem hb)
  have fe := hs.exports _ (getI_mem ha)
  have hc : slices_ContainsFunc_int_Leaks_1 (getI n.vrfs a).exports (getI n.vrfs b) = some (decide (∃ t ∈ (getI n.vrfs a).exports, t ∈ (getI n.vrfs b).imports)) := by
    unfold slices_ContainsFunc_int_Leaks_1 slices_IndexFunc_int_Leaks_1
    rw [loop_first (getI n.vrfs a).exports (fun t => t ∈ (getI n.vrfs b).imports) fe (fun i h0 h1 h2 => by
      simp (disch := omega) only [slices_IndexFunc_int_Leaks_1_L1, vrfs_Leaks_1, Contains_int_spec fi, h1, nth_getI h2, wr64, bind_ite, Option.bind_some, dif1, dif2, dif3, dif4, dif5, dif6, dif7, dnot, ibeq, ibne, decide_eq_true_eq, if_not2, ge_iff_le, gt_iff_lt, fst_ret, Bool.false_eq_true, decide_false, decide_true, if_true]
      exact fpos Iff.rfl) (by simp [slices_IndexFunc_int_Leaks_1_L1])]
    simp only [bind_ite, Option.bind_some, dif1, dif2, dif3, dif4, dif5, dif6, dif7, dnot, ibeq, ibne, decide_eq_true_eq, if_not2, ge_iff_le, gt_iff_lt, fst_ret, Bool.false_eq_true, decide_false]
    refine sdec ?_
    have := fstI_none_mem (l := (getI n.vrfs a).exports) (P := fun t => t ∈ (getI n.vrfs b).imports)
    constructor
    · intro h
      apply Classical.byContradiction
      intro hn
      have := this.2 (fun y hy e => hn ⟨y, hy, e⟩); omega
    · rintro ⟨t, h1, h2⟩
      apply Classical.byContradiction
      intro hn
      exact this.1 (by omega) t h1 h2
  simp only [vrfs_Leaks, a0, b0, a1, b1, names_Right_spec hs, hr, nth_getI ha, nth_getI hb, hc, bind_ite, Option.bind_some, dif1, dif2, dif3, dif4, dif5, dif6, dif7, dnot, ibeq, ibne, decide_eq_true_eq, if_not2, ge_iff_le, gt_iff_lt, fst_ret, Bool.false_eq_true, decide_false, decide_true, if_false, Bool.not_true]
  exact sdec (by unfold LeaksP; simp)

noncomputable def irbDev (n : Api_Net) (i : Int) : Int := (getI n.domains (getI n.irbs i).domain).dev
theorem RightP.irb (hr : RightP n) {i : Int} (hi : inL n.irbs i) : IrbP n i (getI n.irbs i) := hr.irbs i hi
theorem route_device_spec (hr : RightP n) {i : Int} (hi : inL n.irbs i) : route_device n i = some (irbDev n i) := by
  simp only [route_device, nth_getI hi, nth_getI (hr.irb hi).1, Option.bind_some]; rfl
def SeesP (n : Api_Net) (irb i : Int) : Prop := irbDev n irb = irbDev n i ∧ LeaksP n (getI n.irbs i).vrf (getI n.irbs irb).vrf
theorem route_sees_spec (hs : SmN n) (hr : RightP n) {irb i : Int} (h1 : inL n.irbs irb) (h2 : inL n.irbs i) : route_sees n irb i = some (decide (SeesP n irb i)) := by
  simp only [route_sees, route_device_spec hr h1, route_device_spec hr h2, nth_getI h1, nth_getI h2, vrfs_Leaks_spec hs hr (hr.irb h2).2.1 (hr.irb h1).2.1, bind_ite, Option.bind_some, dif1, dif2, dif3, dif4, dif5, dif6, dif7, dnot, ibeq, ibne, decide_eq_true_eq, if_not2, ge_iff_le, gt_iff_lt, fst_ret, Bool.false_eq_true, decide_false]
  exact sdec Iff.rfl

theorem irb_pre (ho : n.Ok) (hr : RightP n) {i : Int} (hi : inL n.irbs i) : PreOk (getI n.irbs i).net ∧ 1 ≤ (getI n.irbs i).net.bits ∧ (getI n.irbs i).net.bits ≤ 30 := by
  have h := (hr.irb hi).2.2.2.2
  have h2 : okI .u32 (getI n.irbs i).net.addr := (ho.2.2.2.2.2.2.2.1.2 _ (getI_mem hi)).2.2.2.1.1
  simp [okI, IntKind.min, IntKind.max, IntKind.signed, IntKind.bits] at h2
  exact ⟨⟨by omega, by omega, by omega, by omega⟩, h.1, h.2⟩

/-! ### Where an address is led -/
noncomputable def keyI (n : Api_Net) (irb i : Int) : Int := 2 * (getI n.irbs i).net.bits + if (getI n.irbs i).vrf = (getI n.irbs irb).vrf then 1 else 0
theorem lookup_2_spec {a b irb : Int} (hr : RightP n) (ha : inL n.irbs a) (hb : inL n.irbs b) (hi : inL n.irbs irb) : ∃ r, route_lookup_2 a b n n irb = some r ∧ (r > 0 ↔ keyI n irb b < keyI n irb a) := by
  have h1 := (hr.irb ha).2.2.2.2
  have h2 := (hr.irb hb).2.2.2.2
  simp only [route_lookup_2, route_lookup_1, nth_getI ha, nth_getI hb, nth_getI hi, bind_ite, Option.bind_some, dif1, dif2, dif3, dif4, dif5, dif6, dif7, dnot, ibeq, ibne, decide_eq_true_eq, if_not2, ge_iff_le, gt_iff_lt, fst_ret, Bool.false_eq_true, decide_false]
  by_cases hn : (getI n.irbs a).net.bits = (getI n.irbs b).net.bits
  · simp only [hn, ne_eq, not_true_eq_false, if_false, if_true]
    by_cases c1 : (getI n.irbs a).vrf = (getI n.irbs irb).vrf <;> by_cases c2 : (getI n.irbs b).vrf = (getI n.irbs irb).vrf <;> simp only [c1, c2, if_true, if_false, Option.bind_some] <;> refine ⟨_, rfl, ?_⟩ <;> rw [wr64 (by omega) (by omega)] <;> unfold keyI <;> simp [c1, c2, hn] <;> omega
  · simp only [hn, ne_eq, not_false_eq_true, if_true, if_false]
    refine ⟨_, rfl, ?_⟩
    rw [wr64 (by omega) (by omega)]
    unfold keyI
    split <;> split <;> omega

def BestP (key : Int → Int) (l : List Int) (m : Int) : Prop := ∃ k, inL l k ∧ getI l k = m ∧ ∀ j, inL l j → key (getI l j) ≤ key m ∧ (j < k → key (getI l j) < key m)
theorem MaxFunc_spec {l : List Int} {irb : Int} (hr : RightP n) (hl : Few l) (h0 : 0 < l.length) (hall : ∀ x ∈ l, inL n.irbs x) (hi : inL n.irbs irb) : ∃ m, slices_MaxFunc_int_lookup_2 l n n irb = some m ∧ BestP (keyI n irb) l m := by
  have hz : inL l 0 := ⟨by omega, by omega⟩
  have g0 : ¬ (l.length : Int) < 1 := by omega
  simp only [slices_MaxFunc_int_lookup_2, g0, nth_getI hz, bind_ite, Option.bind_some, dif1, dif2, dif3, dif4, dif5, dif6, dif7, dnot, ibeq, ibne, decide_eq_true_eq, if_not2, ge_iff_le, gt_iff_lt, fst_ret, Bool.false_eq_true, decide_false, if_false]
  obtain ⟨r, hr2, hq⟩ := loopM_rule (f := fun s : Int × Int => match s with | (v8, v9) => slices_MaxFunc_int_lookup_2_L1 l n n irb v8 v9)
    (fun s => 1 ≤ s.2 ∧ s.2 ≤ l.length ∧ ∃ k, inL l k ∧ k < s.2 ∧ getI l k = s.1 ∧ ∀ j, inL l j → j < s.2 → keyI n irb (getI l j) ≤ keyI n irb s.1 ∧ (j < k → keyI n irb (getI l j) < keyI n irb s.1))
    (fun m => BestP (keyI n irb) l m) (fun s => (l.length - s.2).toNat) (s := (getI l 0, 1)) (fun s hs => by
      obtain ⟨m, i⟩ := s
      obtain ⟨h1, h2, k, hk, hki, hm, hall2⟩ := hs
      simp only at h1 h2 hki hm hall2 ⊢
      by_cases hlt : i < l.length
      · have hii : inL l i := ⟨by omega, hlt⟩
        have hmI : inL n.irbs m := hm ▸ hall _ (getI_mem hk)
        obtain ⟨r, e1, e2⟩ := lookup_2_spec hr (hall _ (getI_mem hii)) hmI hi
        have hw := wr64 (n := i + 1) (by omega) (by omega)
        simp only [slices_MaxFunc_int_lookup_2_L1, hlt, nth_getI hii, e1, hw, bind_ite, Option.bind_some, dif1, dif2, dif3, dif4, dif5, dif6, dif7, dnot, ibeq, ibne, decide_eq_true_eq, if_not2, ge_iff_le, gt_iff_lt, fst_ret, Bool.false_eq_true, decide_false, decide_true, if_true]
        by_cases hg : keyI n irb m < keyI n irb (getI l i)
        · rw [if_pos (e2.2 hg)]
          refine ⟨_, rfl, ⟨by omega, by omega, i, hii, by omega, rfl, fun j hj hjl => ?_⟩, by omega⟩
          simp only at hjl ⊢
          by_cases hji : j = i
          · subst hji; exact ⟨Int.le_refl _, fun h => by omega⟩
          · have := (hall2 j hj (by omega)).1
            exact ⟨by omega, fun _ => by omega⟩
        · rw [if_neg (fun h => hg (e2.1 h))]
          refine ⟨_, rfl, ⟨by omega, by omega, k, hk, by omega, hm, fun j hj hjl => ?_⟩, by omega⟩
          simp only at hjl ⊢
          by_cases hji : j = i
          · subst hji; exact ⟨by omega, fun h => by omega⟩
          · exact hall2 j hj (by omega)
      · have : i = l.length := by omega
        subst this
        refine ⟨.inr m, by simp [slices_MaxFunc_int_lookup_2_L1], k, hk, hm, fun j hj => ?_⟩
        exact hall2 j hj hj.2) ⟨by simp, by simp; omega, 0, hz, by simp, rfl, fun j hj hjl => by
          simp only at hjl
          have : j = 0 := by have := hj.1; omega
          subst this; exact ⟨Int.le_refl _, fun h => by omega⟩⟩ (by simp only; unfold Few at hl; omega)
  exact ⟨r, by rw [hr2]; rfl, hq⟩

def OwnA (n : Api_Net) (irb x : Int) : Prop := ∃ i, inL n.irbs i ∧ (irbDev n i = irbDev n irb ∧ (getI n.irbs i).net.addr = x)
def CandP (n : Api_Net) (irb x i : Int) : Prop := HasP (getI n.irbs i).net x ∧ SeesP n irb i
structure LedP (n : Api_Net) (irb x m : Int) : Prop where
  own : ¬ OwnA n irb x
  im : inL n.irbs m
  cand : CandP n irb x m
  best : ∀ j, inL n.irbs j → CandP n irb x j → keyI n irb j ≤ keyI n irb m ∧ (j < m → keyI n irb j < keyI n irb m)
def NoLed (n : Api_Net) (irb x : Int) : Prop := OwnA n irb x ∨ ∀ j, inL n.irbs j → ¬ CandP n irb x j

theorem route_lookup_spec (ho : n.Ok) (hs : SmN n) (hr : RightP n) {irb x : Int} (hi : inL n.irbs irb) (x0 : 0 ≤ x) (x1 : x < 4294967296) :
    ∃ r, route_lookup n irb x = some r ∧ ((r = (0, false) ∧ NoLed n irb x) ∨ ∃ m, r = (m, true) ∧ LedP n irb x m) := by
  have hf := hs.irbs
  have hcand : ∀ y, y ∈ gatherI n.irbs (fun i _ => CandP n irb x i) (fun i _ => i) ↔ inL n.irbs y ∧ CandP n irb x y := by
    intro y
    rw [mem_gatherI]
    constructor
    · rintro ⟨i, h1, h2, rfl⟩; exact ⟨h1, h2⟩
    · rintro ⟨h1, h2⟩; exact ⟨y, h1, h2, rfl⟩
  unfold route_lookup
  rw [loop_gatherx n.irbs (fun i y => irbDev n i = irbDev n irb ∧ y.net.addr = x) (fun i _ => CandP n irb x i) (fun i _ => i) hf (fun i s h0 h1 h2 h3 => by
    have h5 : roomy 8 (s ++ [i]) = true := roomy_few (by simp; omega)
    have hP := (irb_pre ho hr h2).1
    simp (disch := omega) only [route_lookup_L1, route_lookup_J2, h1, nth_getI h2, route_device_spec hr h2, route_device_spec hr hi, addr_Has_spec hP x0 x1, route_sees_spec hs hr hi h2, h5, wr64, bind_ite, Option.bind_some, dif1, dif2, dif3, dif4, dif5, dif6, dif7, dnot, ibeq, ibne, decide_eq_true_eq, if_not2, ge_iff_le, gt_iff_lt, fst_ret, Bool.false_eq_true, decide_false, mrg1, mrg2, mrg3, mrg4, mrg5, mrg6, mrg7, decide_true, if_true]
    unfold CandP
    by_cases c1 : irbDev n i = irbDev n irb ∧ (getI n.irbs i).net.addr = x
    · simp [c1]
    · simp only [c1, if_false]
      by_cases c2 : HasP (getI n.irbs i).net x <;> by_cases c3 : SeesP n irb i <;> simp [c2, c3]) (fun s => by simp [route_lookup_L1])]
  by_cases hown : OwnA n irb x
  · have hown' : ∃ i, inL n.irbs i ∧ (irbDev n i = irbDev n irb ∧ (getI n.irbs i).net.addr = x) := hown
    rw [if_pos hown']
    exact ⟨_, rfl, .inl ⟨rfl, .inl hown⟩⟩
  · have hown' : ¬ ∃ i, inL n.irbs i ∧ (irbDev n i = irbDev n irb ∧ (getI n.irbs i).net.addr = x) := hown
    rw [if_neg hown']
    simp only [Option.bind_some, ibeq, decide_eq_true_eq]
    have hsort := gatherI_sorted (l := n.irbs) (P := fun i _ => CandP n irb x i)
    have hlen := gatherI_len (l := n.irbs) (P := fun i _ => CandP n irb x i) (e := fun i _ => i)
    generalize gatherI n.irbs (fun i _ => CandP n irb x i) (fun i _ => i) = l at *
    by_cases hl : (l.length : Int) = 0
    · rw [if_pos hl]
      refine ⟨_, rfl, .inl ⟨rfl, .inr fun j hj hc => ?_⟩⟩
      have := (hcand j).2 ⟨hj, hc⟩
      rw [List.eq_nil_of_length_eq_zero (by omega : l.length = 0)] at this
      cases this
    · rw [if_neg hl]
      obtain ⟨m, hm, k, hk, rfl, hbest⟩ := MaxFunc_spec (n := n) (irb := irb) hr (by unfold Few at hf ⊢; omega) (by omega) (fun y hy => ((hcand y).1 hy).1) hi
      rw [hm]
      have hmem := (hcand _).1 (getI_mem hk)
      refine ⟨_, rfl, .inr ⟨_, rfl, hown, hmem.1, hmem.2, fun j hj hc => ?_⟩⟩
      obtain ⟨q, hq, rfl⟩ := mem_getI ((hcand j).2 ⟨hj, hc⟩)
      refine ⟨(hbest q hq).1, fun hlt => (hbest q hq).2 ?_⟩
      apply Classical.byContradiction
      intro hn
      have hk0 := hk.1; have hq0 := hq.1; have hq1 := hq.2; have hk1 := hk.2
      by_cases e : q = k
      · subst e; omega
      · have := List.pairwise_iff_getElem.1 hsort k.toNat q.toNat (by omega) (by omega) (by omega)
        have e1 := (List.getElem?_eq_some_iff.1 (getI_get? hk)).2
        have e2 := (List.getElem?_eq_some_iff.1 (getI_get? hq)).2
        rw [e1, e2] at this
        omega

theorem route_Lookup_spec (ho : n.Ok) (hs : SmN n) {irb x : Int} (x0 : 0 ≤ x) (x1 : x < 4294967296) :
    ∃ r, route_Lookup n irb x = some r ∧ ((r = (0, false) ∧ (RightP n → inL n.irbs irb → NoLed n irb x)) ∨ ∃ m, r = (m, true) ∧ RightP n ∧ inL n.irbs irb ∧ LedP n irb x m) := by
  by_cases hi : inL n.irbs irb
  case neg =>
    have : irb < 0 ∨ (n.irbs.length : Int) ≤ irb := by unfold inL at hi; omega
    refine ⟨(0, false), ?_, .inl ⟨rfl, fun _ h => absurd h hi⟩⟩
    rcases this with h | h
    · simp [route_Lookup, h]
    · simp only [route_Lookup, bind_ite, Option.bind_some, dif1, dif2, dif3, dif4, dif5, dif6, dif7, dnot, ibeq, ibne, decide_eq_true_eq, if_not2, ge_iff_le, gt_iff_lt, fst_ret, Bool.false_eq_true, decide_false, h]; simp
  have a0 : ¬ irb < 0 := by have := hi.1; omega
  have a1 : ¬ (n.irbs.length : Int) ≤ irb := by have := hi.2; omega
  by_cases hr : RightP n
  case neg => exact ⟨(0, false), by simp only [route_Lookup, a0, a1, names_Right_spec hs, hr, bind_ite, Option.bind_some, dif1, dif2, dif3, dif4, dif5, dif6, dif7, dnot, ibeq, ibne, decide_eq_true_eq, if_not2, ge_iff_le, gt_iff_lt, fst_ret, Bool.false_eq_true, decide_false]; simp, .inl ⟨rfl, fun h => absurd h hr⟩⟩
  obtain ⟨r, h1, h2⟩ := route_lookup_spec ho hs hr hi x0 x1
  refine ⟨r, ?_, ?_⟩
  · simp only [route_Lookup, a0, a1, names_Right_spec hs, hr, h1, bind_ite, Option.bind_some, dif1, dif2, dif3, dif4, dif5, dif6, dif7, dnot, ibeq, ibne, decide_eq_true_eq, if_not2, ge_iff_le, gt_iff_lt, fst_ret, Bool.false_eq_true, decide_false]; simp
  · rcases h2 with ⟨e, h⟩ | ⟨m, e, h⟩
    · exact .inl ⟨e, fun _ _ => h⟩
    · exact .inr ⟨m, e, hr, hi, h⟩

end
end Go.Eng

set_option linter.unusedVariables false
set_option linter.unusedSectionVars false
set_option linter.unusedSimpArgs false
namespace Go.Eng
open Go Classical
attribute [local congr] ite_cg

theorem r02Right_spec {p : Api_Prefix} (h : PreOk p) : palingref02_Right p = some true := by
  have := h.b0; have := h.b1
  simp only [palingref02_Right, bind_ite, Option.bind_some, dif1, dif2, dif3, dif4, dif5, dif6, dif7, dnot, ibeq, ibne, decide_eq_true_eq, if_not2, ge_iff_le, gt_iff_lt, fst_ret, Bool.false_eq_true, decide_false]
  rw [decide_eq_true ⟨by omega, by omega⟩]
theorem pw_succ (k : Nat) : pw (k + 1) = pw k * 2 := by unfold pw; rw [Nat.pow_succ]; simp
theorem r02size_spec {p : Api_Prefix} (h : PreOk p) : palingref02_size p = some (pw (kOf p)) := by
  have b0 := h.b0; have b1 := h.b1
  have hk := kOf_le h
  have hkb : (kOf p : Int) = 32 - p.bits := by unfold kOf; omega
  have := loopM_trace (f := fun s : Int × Int => match s with | (v2, v3) => palingref02_size_L1 v2 v3) (r := pw (kOf p)) (fun i => (pw i, p.bits + (i : Int))) (kOf p) (by omega) (fun i hi => by
    have h1 := pw_pos i
    have h2 := pw_le (k := i) (by omega)
    have e1 := wr64 (n := pw i * 2) (by omega) (by omega)
    have e2 := wr64 (n := p.bits + (i : Int) + 1) (by omega) (by omega)
    have hlt : p.bits + (i : Int) < 32 := by omega
    simp only [palingref02_size_L1, hlt, decide_true, if_true, e1, e2]
    rw [pw_succ]
    simp [Int.add_assoc]) (by
    have hn : ¬ p.bits + (kOf p : Int) < 32 := by omega
    simp [palingref02_size_L1, hn])
  have e0 : (pw 0, p.bits + ((0 : Nat) : Int)) = ((1 : Int), p.bits) := by simp [pw]
  rw [e0] at this
  simp only [palingref02_size, this, Option.bind_some]
theorem r02First_spec {p : Api_Prefix} (h : PreOk p) : palingref02_First p = some (firstA p) := by
  have h1 := first_le h
  have hp := pw_pos (kOf p)
  have hq := pw_le (kOf_le h)
  have ha0 := h.a0; have ha1 := h.a1
  have hd : p.addr / pw (kOf p) * pw (kOf p) = firstA p := by
    unfold firstA
    have := Int.emod_add_mul_ediv p.addr (pw (kOf p))
    rw [Int.mul_comm] at this
    omega
  have e1 := wr64 (n := p.addr) (by omega) (by omega)
  have hdiv : Int.tdiv p.addr (pw (kOf p)) = p.addr / pw (kOf p) := Int.tdiv_eq_ediv_of_nonneg (by omega)
  have hd0 : 0 ≤ p.addr / pw (kOf p) := Int.ediv_nonneg (by omega) (by omega)
  have hd1 : p.addr / pw (kOf p) ≤ p.addr := Int.ediv_le_self _ (by omega)
  have e2 := wr64 (n := p.addr / pw (kOf p)) (by omega) (by omega)
  have e3 := wr64 (n := firstA p) (by omega) (by omega)
  have e4 := wr32 (n := firstA p) (by omega) (by omega)
  have hne : ¬ pw (kOf p) = 0 := by omega
  simp only [palingref02_First, r02Right_spec h, r02size_spec h, bind_ite, Option.bind_some, dif1, dif2, dif3, dif4, dif5, dif6, dif7, dnot, ibeq, ibne, decide_eq_true_eq, if_not2, ge_iff_le, gt_iff_lt, fst_ret, Bool.false_eq_true, decide_false, Bool.not_true, hne, ne_eq, not_false_eq_true, if_true, e1, hdiv, e2, hd, e3, e4, if_false]
theorem r02Last_spec {p : Api_Prefix} (h : PreOk p) : palingref02_Last p = some (lastA p) := by
  have h1 := first_le h
  have hp := pw_pos (kOf p)
  have hq := pw_le (kOf_le h)
  have hl : lastA p = firstA p + (pw (kOf p) - 1) := rfl
  have e1 := wr64 (n := firstA p) (by omega) (by omega)
  have e2 := wr64 (n := firstA p + pw (kOf p)) (by omega) (by omega)
  have e3 := wr64 (n := firstA p + pw (kOf p) - 1) (by omega) (by omega)
  have e4 := wr32 (n := firstA p + pw (kOf p) - 1) (by omega) (by omega)
  simp only [palingref02_Last, r02Right_spec h, r02size_spec h, r02First_spec h, bind_ite, Option.bind_some, dif1, dif2, dif3, dif4, dif5, dif6, dif7, dnot, ibeq, ibne, decide_eq_true_eq, if_not2, ge_iff_le, gt_iff_lt, fst_ret, Bool.false_eq_true, decide_false, Bool.not_true, if_false, e1, e2, e3, e4]
  congr 1; omega
theorem r02Has_spec {p : Api_Prefix} {a : Int} (h : PreOk p) : palingref02_Has p a = some (decide (HasP p a)) := by
  simp only [palingref02_Has, r02Right_spec h, r02First_spec h, r02Last_spec h, bind_ite, Option.bind_some, dif1, dif2, dif3, dif4, dif5, dif6, dif7, dnot, ibeq, ibne, decide_eq_true_eq, if_not2, ge_iff_le, gt_iff_lt, fst_ret, Bool.false_eq_true, decide_false, if_true]
  exact sdec (by unfold HasP; simp)

section
variable {n : Api_Net}
theorem r30device_spec (hr : RightP n) {i : Int} (hi : inL n.irbs i) : palingref30_device n i = some (irbDev n i) := by
  simp only [palingref30_device, nth_getI hi, nth_getI (hr.irb hi).1, Option.bind_some]; rfl
theorem r20Leaks_spec (hs : SmN n) {a b : Int} (ha : inL n.vrfs a) (hb : inL n.vrfs b) : palingref20_Leaks n a b = some (decide (LeaksP n a b)) := by
  have fi := hs.imports _ (getI_mem hb)
  have fe := hs.exports _ (getI_mem ha)
  simp only [palingref20_Leaks, rPlace_spec, ha, hb, bind_ite, Option.bind_some, dif1, dif2, dif3, dif4, dif5, dif6, dif7, dnot, ibeq, ibne, decide_eq_true_eq, if_not2, ge_iff_le, gt_iff_lt, fst_ret, Bool.false_eq_true, decide_false, Bool.not_true, if_false, decide_true]
  rw [loop_each (f := palingref20_Leaks_L1 n a b) (getI n.vrfs a).exports (fun _ t => ¬ ((getI n.vrfs a).dev = (getI n.vrfs b).dev ∧ t ∈ (getI n.vrfs b).imports)) (.inl ()) (.inr ()) fe (fun i h0 h1 h2 => by
    simp (disch := omega) only [palingref20_Leaks_L1, nth_getI ha, nth_getI hb, h1, nth_getI h2, rIn_spec fi, wr64, bind_ite, Option.bind_some, dif1, dif2, dif3, dif4, dif5, dif6, dif7, dnot, ibeq, ibne, decide_eq_true_eq, if_not2, ge_iff_le, gt_iff_lt, fst_ret, Bool.false_eq_true, decide_false, mrg1, mrg2, mrg3, mrg4, mrg5, mrg6, mrg7, decide_true, if_true]
    by_cases c1 : (getI n.vrfs a).dev = (getI n.vrfs b).dev <;> by_cases c2 : getI (getI n.vrfs a).exports i ∈ (getI n.vrfs b).imports <;> simp [c1, c2]) (by simp [palingref20_Leaks_L1, nth_getI ha])]
  have hk : EachP (getI n.vrfs a).exports (fun _ t => ¬ ((getI n.vrfs a).dev = (getI n.vrfs b).dev ∧ t ∈ (getI n.vrfs b).imports)) ↔ ¬ ((getI n.vrfs a).dev = (getI n.vrfs b).dev ∧ ∃ t ∈ (getI n.vrfs a).exports, t ∈ (getI n.vrfs b).imports) := by
    rw [eachP_mem]
    constructor
    · rintro h ⟨h1, t, h2, h3⟩; exact h t h2 ⟨h1, h3⟩
    · rintro h t h2 ⟨h1, h3⟩; exact h ⟨h1, t, h2, h3⟩
  unfold LeaksP
  by_cases e : a = b
  · simp [e]
  · by_cases h : EachP (getI n.vrfs a).exports (fun _ t => ¬ ((getI n.vrfs a).dev = (getI n.vrfs b).dev ∧ t ∈ (getI n.vrfs b).imports))
    · rw [if_pos h]
      have := hk.1 h
      simp only [e, if_false, false_or, Option.bind_some, this, decide_false]
    · rw [if_neg h]
      have := Classical.not_not.1 (fun g => h (hk.2 g))
      simp only [e, if_false, false_or, Option.bind_some]
      rw [decide_eq_true this]

def BestTo (n : Api_Net) (irb x i m : Int) : Prop :=
  (m = -1 ∧ ∀ j, inL n.irbs j → j < i → ¬ CandP n irb x j) ∨
  (inL n.irbs m ∧ m < i ∧ CandP n irb x m ∧ ∀ j, inL n.irbs j → j < i → CandP n irb x j → keyI n irb j ≤ keyI n irb m ∧ (j < m → keyI n irb j < keyI n irb m))
theorem r30better_spec (hr : RightP n) {irb a b : Int} (hi : inL n.irbs irb) (ha : inL n.irbs a) (hb : inL n.irbs b) : palingref30_better n irb a b = some (decide (keyI n irb b < keyI n irb a)) := by
  simp only [palingref30_better, nth_getI hi, nth_getI ha, nth_getI hb, bind_ite, Option.bind_some, dif1, dif2, dif3, dif4, dif5, dif6, dif7, dnot, ibeq, ibne, decide_eq_true_eq, if_not2, ge_iff_le, gt_iff_lt, fst_ret, Bool.false_eq_true, decide_false]
  by_cases h : (getI n.irbs a).net.bits = (getI n.irbs b).net.bits
  · by_cases c1 : (getI n.irbs a).vrf = (getI n.irbs irb).vrf <;> by_cases c2 : (getI n.irbs b).vrf = (getI n.irbs irb).vrf <;> simp [c1, c2, keyI, h] <;> try omega
  · by_cases c1 : (getI n.irbs a).vrf = (getI n.irbs irb).vrf <;> by_cases c2 : (getI n.irbs b).vrf = (getI n.irbs irb).vrf <;> simp [c1, c2, keyI, h] <;> omega
theorem r30Lookup_spec (ho : n.Ok) (hs : SmN n) (hr : RightP n) {irb x : Int} (hi : inL n.irbs irb) :
    ∃ r, palingref30_Lookup n irb x = some r ∧ ((r = (0, false) ∧ NoLed n irb x) ∨ ∃ m, r = (m, true) ∧ LedP n irb x m) := by
  have hf := hs.irbs
  obtain ⟨q, h1, h2⟩ := loopM_rule (f := fun s : Int × Int => match s with | (v7, v8) => palingref30_Lookup_L1 n irb x v7 v8)
    (fun s => 0 ≤ s.2 ∧ s.2 ≤ n.irbs.length ∧ BestTo n irb x s.2 s.1 ∧ ∀ j, inL n.irbs j → j < s.2 → ¬ (irbDev n j = irbDev n irb ∧ (getI n.irbs j).net.addr = x))
    (fun r => match r with | .inl _ => OwnA n irb x | .inr m => BestTo n irb x n.irbs.length m ∧ ¬ OwnA n irb x) (fun s => (n.irbs.length - s.2).toNat) (s := (-1, 0)) (fun s hI => by
      obtain ⟨m, i⟩ := s
      obtain ⟨h0, h1, hb, hn⟩ := hI
      simp only at h0 h1 hb hn ⊢
      by_cases hlt : i < n.irbs.length
      · have hii : inL n.irbs i := ⟨h0, hlt⟩
        have hP := (irb_pre ho hr hii).1
        have hw := wr64 (n := i + 1) (by omega) (by unfold Few at hf; omega)
        have skip : ¬ CandP n irb x i → BestTo n irb x (i + 1) m := fun hc => by
          rcases hb with ⟨e, h⟩ | ⟨a1, a2, a3, a4⟩
          · exact .inl ⟨e, fun j hj hji => by by_cases e : j = i; subst e; exact hc; exact h j hj (by omega)⟩
          · exact .inr ⟨a1, by omega, a3, fun j hj hji hc' => by by_cases e : j = i; subst e; exact absurd hc' hc; exact a4 j hj (by omega) hc'⟩
        have own1 : ¬ (irbDev n i = irbDev n irb ∧ (getI n.irbs i).net.addr = x) → ∀ j, inL n.irbs j → j < i + 1 → ¬ (irbDev n j = irbDev n irb ∧ (getI n.irbs j).net.addr = x) := fun h j hj hji => by
          by_cases e : j = i; subst e; exact h; exact hn j hj (by omega)
        simp only [palingref30_Lookup_L1, hlt, nth_getI hii, nth_getI hi, r30device_spec hr hii, r30device_spec hr hi, r02Has_spec hP, r20Leaks_spec hs (hr.irb hii).2.1 (hr.irb hi).2.1, hw, bind_ite, Option.bind_some, dif1, dif2, dif3, dif4, dif5, dif6, dif7, dnot, ibeq, ibne, decide_eq_true_eq, if_not2, ge_iff_le, gt_iff_lt, fst_ret, Bool.false_eq_true, decide_false, decide_true, if_true]
        by_cases c1 : irbDev n i = irbDev n irb
        case neg =>
          refine ⟨_, if_neg c1, ⟨by omega, by omega, skip (fun h => c1 h.2.1.symm), own1 (fun h => c1 h.1)⟩, by omega⟩
        rw [if_pos c1]
        by_cases c2 : (getI n.irbs i).net.addr = x
        · refine ⟨_, if_pos c2, i, hii, c1, c2⟩
        rw [if_neg c2]
        by_cases c3 : HasP (getI n.irbs i).net x
        case neg => refine ⟨_, if_neg c3, ⟨by omega, by omega, skip (fun h => c3 h.1), own1 (fun h => c2 h.2)⟩, by omega⟩
        rw [if_pos c3]
        by_cases c4 : LeaksP n (getI n.irbs i).vrf (getI n.irbs irb).vrf
        case neg => refine ⟨_, if_neg c4, ⟨by omega, by omega, skip (fun h => c4 h.2.2), own1 (fun h => c2 h.2)⟩, by omega⟩
        rw [if_pos c4]
        have hc : CandP n irb x i := ⟨c3, c1.symm, c4⟩
        rcases hb with ⟨e, h⟩ | ⟨a1, a2, a3, a4⟩
        · refine ⟨_, if_pos (by omega), ⟨by omega, by omega, .inr ⟨hii, by omega, hc, fun j hj hji hc' => ?_⟩, own1 (fun h => c2 h.2)⟩, by omega⟩
          by_cases e : j = i
          · subst e; exact ⟨Int.le_refl _, fun h => by omega⟩
          · exact absurd hc' (h j hj (by omega))
        · rw [if_neg (by have := a1.1; omega), r30better_spec hr hi hii a1]
          simp only [Option.bind_some, decide_eq_true_eq]
          by_cases c5 : keyI n irb m < keyI n irb i
          · refine ⟨_, if_pos c5, ⟨by omega, by omega, .inr ⟨hii, by omega, hc, fun j hj hji hc' => ?_⟩, own1 (fun h => c2 h.2)⟩, by omega⟩
            by_cases e : j = i
            · subst e; exact ⟨Int.le_refl _, fun h => by omega⟩
            · have := (a4 j hj (by omega) hc').1; simp only; exact ⟨by omega, fun _ => by omega⟩
          · refine ⟨_, if_neg c5, ⟨by omega, by omega, .inr ⟨a1, by omega, a3, fun j hj hji hc' => ?_⟩, own1 (fun h => c2 h.2)⟩, by omega⟩
            by_cases e : j = i
            · subst e; simp only; exact ⟨by omega, fun h => by omega⟩
            · exact a4 j hj (by omega) hc'
      · have : i = n.irbs.length := by omega
        subst this
        refine ⟨.inr (.inr m), by simp [palingref30_Lookup_L1], hb, ?_⟩
        rintro ⟨j, hj, h⟩
        exact hn j hj hj.2 h) ⟨by simp, by simp, .inl ⟨rfl, fun j hj h => by have := hj.1; simp at h; omega⟩, fun j hj h => by have := hj.1; simp at h; omega⟩ (by simp only; unfold Few at hf; omega)
  simp only [palingref30_Lookup, rPlace_spec, hi, h1, bind_ite, Option.bind_some, dif1, dif2, dif3, dif4, dif5, dif6, dif7, dnot, ibeq, ibne, decide_eq_true_eq, if_not2, ge_iff_le, gt_iff_lt, fst_ret, Bool.false_eq_true, decide_false, decide_true, Bool.not_true, if_false]
  rcases q with u | m
  · exact ⟨_, rfl, .inl ⟨rfl, .inl h2⟩⟩
  · obtain ⟨hb, hno⟩ := h2
    rcases hb with ⟨rfl, h⟩ | ⟨a1, a2, a3, a4⟩
    · exact ⟨_, by simp, .inl ⟨rfl, .inr fun j hj => h j hj hj.2⟩⟩
    · have : ¬ m < 0 := by have := a1.1; omega
      exact ⟨(m, true), by simp [this], .inr ⟨m, rfl, hno, a1, a3, fun j hj hc => a4 j hj hj.2 hc⟩⟩
end
end Go.Eng

set_option linter.unusedVariables false
set_option linter.unusedSectionVars false
set_option linter.unusedSimpArgs false
namespace Go.Eng
open Go Classical
attribute [local congr] ite_cg

theorem addr_First_spec {p : Api_Prefix} (h : PreOk p) : addr_First p = some (firstA p) := by
  have := andNot_u32 (x := p.addr) (k := kOf p) h.a0 h.a1 (kOf_le h)
  have e : ((2 ^ kOf p - 1 : Nat) : Int) = pw (kOf p) - 1 := by unfold pw; have := Nat.two_pow_pos (kOf p); omega
  rw [e] at this
  simp only [addr_First, addr_Right_spec h, addr_rest_spec h, Option.bind_some, Bool.not_true, Bool.false_eq_true, if_false, this]
  rfl
theorem addr_Last_spec {p : Api_Prefix} (h : PreOk p) : addr_Last p = some (lastA p) := by
  have := or_u32 (x := p.addr) (k := kOf p) h.a0 h.a1 (kOf_le h)
  have e : ((2 ^ kOf p - 1 : Nat) : Int) = pw (kOf p) - 1 := by unfold pw; have := Nat.two_pow_pos (kOf p); omega
  rw [e] at this
  simp only [addr_Last, addr_Right_spec h, addr_rest_spec h, Option.bind_some, Bool.not_true, Bool.false_eq_true, if_false, this]
  rfl
section
variable {n : Api_Net}
/-! ### The address that is chosen -/
def TakenP (n : Api_Net) (x : Int) : Prop := ∃ y ∈ n.irbs, y.net.addr = x
theorem contains_of_first {α : Type} [Inhabited α] {l : List α} {P : α → Prop} : 0 ≤ fstI l P ↔ ∃ y ∈ l, P y := by
  have := fstI_none_mem (l := l) (P := P)
  constructor
  · intro h
    apply Classical.byContradiction
    intro hn
    have := this.2 (fun y hy e => hn ⟨y, hy, e⟩); omega
  · rintro ⟨t, h1, h2⟩
    apply Classical.byContradiction
    intro hn
    exact this.1 (by omega) t h1 h2
theorem taken1_spec (hs : SmN n) {x : Int} : slices_ContainsFunc_Irb_Address_1 n.irbs x = some (decide (TakenP n x)) := by
  unfold slices_ContainsFunc_Irb_Address_1 slices_IndexFunc_Irb_Address_1
  rw [loop_first n.irbs (fun y => y.net.addr = x) hs.irbs (fun i h0 h1 h2 => by
    have := hs.irbs
    simp (disch := omega) only [slices_IndexFunc_Irb_Address_1_L1, choose_Address_1, h1, nth_getI h2, wr64, bind_ite, Option.bind_some, dif1, dif2, dif3, dif4, dif5, dif6, dif7, dnot, ibeq, ibne, decide_eq_true_eq, if_not2, ge_iff_le, gt_iff_lt, fst_ret, Bool.false_eq_true, decide_false, decide_true, if_true]
    exact fpos Iff.rfl) (by simp [slices_IndexFunc_Irb_Address_1_L1])]
  simp only [bind_ite, Option.bind_some, dif1, dif2, dif3, dif4, dif5, dif6, dif7, dnot, ibeq, ibne, decide_eq_true_eq, if_not2, ge_iff_le, gt_iff_lt, fst_ret, Bool.false_eq_true, decide_false]
  exact sdec contains_of_first
theorem taken2_spec (hs : SmN n) {x : Int} : slices_ContainsFunc_Irb_past_1 n.irbs x = some (decide (TakenP n x)) := by
  unfold slices_ContainsFunc_Irb_past_1 slices_IndexFunc_Irb_past_1
  rw [loop_first n.irbs (fun y => y.net.addr = x) hs.irbs (fun i h0 h1 h2 => by
    have := hs.irbs
    simp (disch := omega) only [slices_IndexFunc_Irb_past_1_L1, choose_past_1, h1, nth_getI h2, wr64, bind_ite, Option.bind_some, dif1, dif2, dif3, dif4, dif5, dif6, dif7, dnot, ibeq, ibne, decide_eq_true_eq, if_not2, ge_iff_le, gt_iff_lt, fst_ret, Bool.false_eq_true, decide_false, decide_true, if_true]
    exact fpos Iff.rfl) (by simp [slices_IndexFunc_Irb_past_1_L1])]
  simp only [bind_ite, Option.bind_some, dif1, dif2, dif3, dif4, dif5, dif6, dif7, dnot, ibeq, ibne, decide_eq_true_eq, if_not2, ge_iff_le, gt_iff_lt, fst_ret, Bool.false_eq_true, decide_false]
  exact sdec contains_of_first

def GoodP (n : Api_Net) (irb to x : Int) : Prop := LedP n irb x to ∧ ¬ TakenP n x

theorem past_spec (ho : n.Ok) (hs : SmN n) (hr : RightP n) {x led : Int} (x0 : 0 ≤ x) (x1 : x < 4294967296) (hl : ¬ TakenP n x → inL n.irbs led) :
    choose_past n x led = some (if TakenP n x then x + 1 else lastA (getI n.irbs led).net + 1) := by
  simp only [choose_past, taken2_spec hs, bind_ite, Option.bind_some, dif1, dif2, dif3, dif4, dif5, dif6, dif7, dnot, ibeq, ibne, decide_eq_true_eq, if_not2, ge_iff_le, gt_iff_lt, fst_ret, Bool.false_eq_true, decide_false]
  by_cases ht : TakenP n x
  · simp only [ht, if_true]
    have e1 : wr_i64 x = x := wr64 (by omega) (by omega)
    rw [e1, wr64 (by omega) (by omega)]
  · have hi := hl ht
    have hP := (irb_pre ho hr hi).1
    have hb := first_le hP
    simp only [ht, if_false, nth_getI hi, addr_Last_spec hP, Option.bind_some]
    have e1 : wr_i64 (lastA (getI n.irbs led).net) = lastA (getI n.irbs led).net := wr64 (by omega) (by omega)
    rw [e1, wr64 (by omega) (by omega)]

theorem choose_Address_spec (ho : n.Ok) (hs : SmN n) {irb to : Int} :
    ∃ r, choose_Address n irb to = some r ∧ ((r = (0, false) ∧ (RightP n → inL n.irbs irb → inL n.irbs to → ∀ x, 0 ≤ x → x < 4294967296 → ¬ GoodP n irb to x)) ∨
      ∃ a, r = (a, true) ∧ RightP n ∧ inL n.irbs irb ∧ inL n.irbs to ∧ 0 ≤ a ∧ a < 4294967296 ∧ GoodP n irb to a ∧ ∀ x, 0 ≤ x → x < a → ¬ GoodP n irb to x) := by
  by_cases hi : inL n.irbs irb
  case neg =>
    have : irb < 0 ∨ (n.irbs.length : Int) ≤ irb := by unfold inL at hi; omega
    refine ⟨(0, false), ?_, .inl ⟨rfl, fun _ h => absurd h hi⟩⟩
    simp only [choose_Address, bind_ite, Option.bind_some, dif1, dif2, dif3, dif4, dif5, dif6, dif7, dnot, ibeq, ibne, decide_eq_true_eq, if_not2, ge_iff_le, gt_iff_lt, fst_ret, Bool.false_eq_true, decide_false, mrg1, mrg2, mrg3, mrg4, mrg5, mrg6, mrg7]
    rw [if_pos (by omega)]
  by_cases ht : inL n.irbs to
  case neg =>
    have : to < 0 ∨ (n.irbs.length : Int) ≤ to := by unfold inL at ht; omega
    refine ⟨(0, false), ?_, .inl ⟨rfl, fun _ _ h => absurd h ht⟩⟩
    simp only [choose_Address, bind_ite, Option.bind_some, dif1, dif2, dif3, dif4, dif5, dif6, dif7, dnot, ibeq, ibne, decide_eq_true_eq, if_not2, ge_iff_le, gt_iff_lt, fst_ret, Bool.false_eq_true, decide_false, mrg1, mrg2, mrg3, mrg4, mrg5, mrg6, mrg7]
    rw [if_pos (by omega)]
  have a0 : ¬ irb < 0 := by have := hi.1; omega
  have a1 : ¬ (n.irbs.length : Int) ≤ irb := by have := hi.2; omega
  have b0 : ¬ to < 0 := by have := ht.1; omega
  have b1 : ¬ (n.irbs.length : Int) ≤ to := by have := ht.2; omega
  by_cases hr : RightP n
  case neg =>
    refine ⟨(0, false), ?_, .inl ⟨rfl, fun h => absurd h hr⟩⟩
    simp only [choose_Address, a0, a1, b0, b1, names_Right_spec hs, hr, bind_ite, Option.bind_some, dif1, dif2, dif3, dif4, dif5, dif6, dif7, dnot, ibeq, ibne, decide_eq_true_eq, if_not2, ge_iff_le, gt_iff_lt, fst_ret, Bool.false_eq_true, decide_false]; simp
  have hP := (irb_pre ho hr ht).1
  have hb := first_le hP
  have good_in : ∀ x, GoodP n irb to x → firstA (getI n.irbs to).net ≤ x ∧ x ≤ lastA (getI n.irbs to).net := fun x h => h.1.cand.1
  simp only [choose_Address, a0, a1, b0, b1, names_Right_spec hs, hr, nth_getI ht, addr_First_spec hP, addr_Last_spec hP, bind_ite, Option.bind_some, dif1, dif2, dif3, dif4, dif5, dif6, dif7, dnot, ibeq, ibne, decide_eq_true_eq, if_not2, ge_iff_le, gt_iff_lt, fst_ret, Bool.false_eq_true, decide_false, decide_true, Bool.not_true, if_false]
  rw [wr64 (n := firstA (getI n.irbs to).net) (by omega) (by omega)]
  obtain ⟨r, e, hq⟩ := loopM_rule (f := choose_Address_L1 n irb to (lastA (getI n.irbs to).net))
    (fun at_ => firstA (getI n.irbs to).net ≤ at_ ∧ at_ ≤ 4294967296 ∧ ∀ x, 0 ≤ x → x < at_ → ¬ GoodP n irb to x)
    (fun r => match r with | .inl a => 0 ≤ a ∧ a < 4294967296 ∧ GoodP n irb to a ∧ (∀ x, 0 ≤ x → x < a → ¬ GoodP n irb to x) | .inr () => ∀ x, 0 ≤ x → x < 4294967296 → ¬ GoodP n irb to x)
    (fun at_ => (4294967297 - at_).toNat) (s := firstA (getI n.irbs to).net) (fun at_ hI => by
      obtain ⟨hf, h1, hnone⟩ := hI
      have h0 : 0 ≤ at_ := by omega
      by_cases hend : at_ ≤ lastA (getI n.irbs to).net
      case neg =>
        refine ⟨.inr (.inr ()), ?_, fun x hx0 hx1 hg => ?_⟩
        · simp only [choose_Address_L1]
          rw [wr64 (by omega) (by omega)]
          simp [hend]
        · have := good_in x hg
          exact hnone x hx0 (by omega) hg
      have hu : wr_u32 at_ = at_ := wr32 h0 (by omega)
      have hwl : wr_i64 (lastA (getI n.irbs to).net) = lastA (getI n.irbs to).net := wr64 (by omega) (by omega)
      obtain ⟨r, hL, hcase⟩ := route_Lookup_spec ho hs (irb := irb) (x := at_) h0 (by omega)
      simp only [choose_Address_L1, hwl, hend, hu, hL, taken1_spec hs, decide_true, if_true, Option.bind_some]
      -- the step past an address
      have step : ∀ nx, at_ < nx → nx ≤ 4294967296 → (∀ x, at_ ≤ x → x < nx → ¬ GoodP n irb to x) →
          (firstA (getI n.irbs to).net ≤ nx ∧ nx ≤ 4294967296 ∧ ∀ x, 0 ≤ x → x < nx → ¬ GoodP n irb to x) ∧ (4294967297 - nx).toNat < (4294967297 - at_).toNat := by
        intro nx g1 g2 g3
        refine ⟨⟨by omega, g2, fun x hx0 hx1 => ?_⟩, by omega⟩
        by_cases hlt : x < at_
        · exact hnone x hx0 hlt
        · exact g3 x (by omega) hx1
      by_cases htk : TakenP n at_
      · -- somebody's address
        have hp := past_spec ho hs hr (x := at_) (led := r.1) h0 (by omega) (fun h => absurd htk h)
        rw [if_pos htk] at hp
        have hs2 := step (at_ + 1) (by omega) (by omega) (fun x g1 g2 hg => by
          have : x = at_ := by omega
          subst this; exact hg.2 htk)
        refine ⟨.inl (at_ + 1), ?_, hs2⟩
        simp only [hp, htk, decide_true, Bool.not_true, Bool.false_eq_true, if_false, Option.bind_some]
        (repeat' split) <;> rfl
      · rcases hcase with ⟨rfl, hno⟩ | ⟨m, rfl, _, _, hled⟩
        · -- nobody's, and led nowhere: the interface is not seen
          have hno := hno hr hi
          refine ⟨.inr (.inr ()), by simp [htk], fun x hx0 hx1 hg => ?_⟩
          rcases hno with ⟨j, hj, _, e⟩ | hno
          · exact htk ⟨_, getI_mem hj, e⟩
          · exact hno to ht ⟨⟨hf, hend⟩, hg.1.cand.2⟩
        · by_cases hmt : m = to
          · subst hmt
            refine ⟨.inr (.inl at_), by simp [htk], h0, by omega, ⟨hled, htk⟩, hnone⟩
          · have hPm := (irb_pre ho hr hled.im).1
            have hbm := first_le hPm
            have hp := past_spec ho hs hr (x := at_) (led := m) h0 (by omega) (fun _ => hled.im)
            rw [if_neg htk] at hp
            have hs2 := step (lastA (getI n.irbs m).net + 1) (by have := hled.cand.1.2; omega) (by omega) (fun x g1 g2 hg => by
              have hx : HasP (getI n.irbs m).net x := ⟨by have := hled.cand.1.1; omega, by omega⟩
              have hxm := hg.1.best m hled.im ⟨hx, hled.cand.2⟩
              have hto : HasP (getI n.irbs to).net at_ := ⟨hf, hend⟩
              have hat := hled.best to ht ⟨hto, hg.1.cand.2⟩
              rcases (by omega : m < to ∨ to < m) with hlt | hlt
              · have := hxm.2 hlt; omega
              · have := hat.2 hlt; omega)
            refine ⟨.inl (lastA (getI n.irbs m).net + 1), ?_, hs2⟩
            simp [htk, hmt, hp]) ⟨by omega, by omega, fun x hx0 hx1 hg => by have := good_in x hg; omega⟩ (by omega)
  rw [e]
  cases r with
  | inl a => exact ⟨_, rfl, .inr ⟨a, rfl, trivial, hi, ht, hq.1, hq.2.1, hq.2.2.1, hq.2.2.2⟩⟩
  | inr u => exact ⟨_, rfl, .inl ⟨rfl, fun _ _ _ => hq⟩⟩
end
end Go.Eng

set_option linter.unusedVariables false
set_option linter.unusedSectionVars false
set_option linter.unusedSimpArgs false
namespace Go.Eng
open Go Classical
attribute [local congr] ite_cg
section
variable {n : Api_Net}
theorem LedP.one {irb x a b : Int} (h1 : LedP n irb x a) (h2 : LedP n irb x b) : a = b := by
  have u := h1.best b h2.im h2.cand
  have v := h2.best a h1.im h1.cand
  rcases (by omega : a < b ∨ a = b ∨ b < a) with h | h | h
  · have := v.2 h; omega
  · exact h
  · have := u.2 h; omega
theorem NoLed.not {irb x a : Int} (h : NoLed n irb x) : ¬ LedP n irb x a := fun g => by
  rcases h with h | h
  · exact g.own h
  · exact h a g.im g.cand

theorem r36taken_spec (hs : SmN n) {x : Int} : palingref36_taken n x = some (decide (TakenP n x)) := by
  have hf := hs.irbs
  unfold palingref36_taken
  rw [loop_each (f := palingref36_taken_L1 n x) n.irbs (fun _ y => ¬ y.net.addr = x) (.inl ()) (.inr ()) hf (fun i h0 h1 h2 => by
    simp (disch := omega) only [palingref36_taken_L1, h1, nth_getI h2, wr64, bind_ite, Option.bind_some, dif1, dif2, dif3, dif4, dif5, dif6, dif7, dnot, ibeq, ibne, decide_eq_true_eq, if_not2, ge_iff_le, gt_iff_lt, fst_ret, Bool.false_eq_true, decide_false, mrg1, mrg2, mrg3, mrg4, mrg5, mrg6, mrg7, decide_true, if_true]
    by_cases c : (getI n.irbs i).net.addr = x <;> simp [c]) (by simp [palingref36_taken_L1])]
  have hk : EachP n.irbs (fun _ y => ¬ y.net.addr = x) ↔ ¬ TakenP n x := by
    rw [eachP_mem]
    constructor
    · rintro h ⟨y, h2, h3⟩; exact h y h2 h3
    · rintro h y h2 h3; exact h ⟨y, h2, h3⟩
  by_cases h : TakenP n x
  · rw [if_neg (fun g => hk.1 g h), decide_eq_true h]; rfl
  · rw [if_pos (hk.2 h), decide_eq_false h]; rfl

theorem r36Leads_spec (ho : n.Ok) (hs : SmN n) (hr : RightP n) {irb to x : Int} (hi : inL n.irbs irb) : palingref36_Leads n irb to x = some (decide (GoodP n irb to x)) := by
  obtain ⟨r, h1, h2⟩ := r30Lookup_spec ho hs hr (x := x) hi
  simp only [palingref36_Leads, h1, r36taken_spec hs, Option.bind_some]
  rcases h2 with ⟨rfl, h⟩ | ⟨m, rfl, h⟩
  · have : ¬ GoodP n irb to x := fun g => h.not g.1
    simp [this]
  · by_cases e : m = to
    · subst e
      by_cases ht : TakenP n x
      · have : ¬ GoodP n irb m x := fun g => g.2 ht
        simp [ht, this]
      · have : GoodP n irb m x := ⟨h, ht⟩
        simp [ht, this]
    · have : ¬ GoodP n irb to x := fun g => e (h.one g.1)
      simp [e, this]

def TryA (n : Api_Net) (to y : Int) : Prop := y = firstA (getI n.irbs to).net ∨ ∃ j, inL n.irbs j ∧ (y = (getI n.irbs j).net.addr + 1 ∨ y = lastA (getI n.irbs j).net + 1)
theorem least_try (ho : n.Ok) (hr : RightP n) {irb to a : Int} (ht : inL n.irbs to) (a0 : 0 ≤ a) (hg : GoodP n irb to a) (hl : ∀ x, 0 ≤ x → x < a → ¬ GoodP n irb to x) : TryA n to a := by
  have hP := (irb_pre ho hr ht).1
  have hfl := first_le hP
  have hh : HasP (getI n.irbs to).net a := hg.1.cand.1
  by_cases e : a = firstA (getI n.irbs to).net
  · exact .inl e
  have h1 : firstA (getI n.irbs to).net ≤ a - 1 := by have := hh.1; omega
  have hno := hl (a - 1) (by omega) (by omega)
  apply Classical.byContradiction
  intro hn
  refine hno ⟨⟨?_, ht, ⟨⟨h1, by have := hh.2; omega⟩, hg.1.cand.2⟩, fun j hj hc => ?_⟩, ?_⟩
  · rintro ⟨i, h2, _, h3⟩
    exact hn (.inr ⟨i, h2, .inl (by omega)⟩)
  · by_cases hc2 : HasP (getI n.irbs j).net a
    · exact hg.1.best j hj ⟨hc2, hc.2⟩
    · exfalso
      have := hc.1
      unfold HasP at hc2 this
      exact hn (.inr ⟨j, hj, .inr (by omega)⟩)
  · rintro ⟨y, hy, h3⟩
    obtain ⟨i, h2, rfl⟩ := mem_getI hy
    exact hn (.inr ⟨i, h2, .inl (by omega)⟩)

theorem r36list_spec (ho : n.Ok) (hr : RightP n) (hb : n.irbs.length ≤ 200) {irb to : Int} (ht : inL n.irbs to) :
    ∃ l, loopM (fun s : (List Int) × Int => match s with | (l14, v15) => palingref36_Address_L1 n irb to l14 v15) ([firstA (getI n.irbs to).net], 0) = some l ∧ l.length ≤ 401 ∧ ∀ y, y ∈ l ↔ TryA n to y := by
  obtain ⟨r, h1, h2⟩ := loopM_rule (f := fun s : (List Int) × Int => match s with | (l14, v15) => palingref36_Address_L1 n irb to l14 v15)
    (fun s => 0 ≤ s.2 ∧ s.2 ≤ n.irbs.length ∧ s.1.length = 1 + 2 * s.2 ∧ ∀ y, y ∈ s.1 ↔ (y = firstA (getI n.irbs to).net ∨ ∃ j, inL n.irbs j ∧ j < s.2 ∧ (y = (getI n.irbs j).net.addr + 1 ∨ y = lastA (getI n.irbs j).net + 1)))
    (fun l => l.length ≤ 401 ∧ ∀ y, y ∈ l ↔ TryA n to y) (fun s => (n.irbs.length - s.2).toNat) (s := ([firstA (getI n.irbs to).net], 0)) (fun s hI => by
      obtain ⟨l, i⟩ := s
      obtain ⟨h0, h1, h2, h3⟩ := hI
      simp only at h0 h1 h2 h3 ⊢
      by_cases hlt : i < n.irbs.length
      · have hii : inL n.irbs i := ⟨h0, hlt⟩
        have hP := (irb_pre ho hr hii).1
        have hfl := first_le hP
        have ha0 := hP.a0
        have hw := wr64 (n := i + 1) (by omega) (by omega)
        have w1 := wr64 (n := (getI n.irbs i).net.addr) (by omega) (by omega)
        have w2 := wr64 (n := (getI n.irbs i).net.addr + 1) (by omega) (by omega)
        have w3 := wr64 (n := lastA (getI n.irbs i).net) (by omega) (by omega)
        have w4 := wr64 (n := lastA (getI n.irbs i).net + 1) (by omega) (by omega)
        have h5 : roomy 8 (l ++ [(getI n.irbs i).net.addr + 1, lastA (getI n.irbs i).net + 1]) = true := roomy_few (by simp; omega)
        refine ⟨.inl (l ++ [(getI n.irbs i).net.addr + 1, lastA (getI n.irbs i).net + 1], i + 1), ?_, ⟨by omega, by simp only; omega, by simp; omega, fun y => ?_⟩, by simp only; omega⟩
        · simp only [palingref36_Address_L1, hlt, nth_getI hii, r02Last_spec hP, w1, w2, w3, w4, hw, h5, decide_true, if_true, Option.bind_some]
        · simp only [List.mem_append, h3, List.mem_cons, List.not_mem_nil, or_false]
          constructor
          · rintro ((h | ⟨j, q1, q2, q3⟩) | h)
            · exact .inl h
            · exact .inr ⟨j, q1, by omega, q3⟩
            · exact .inr ⟨i, hii, by omega, h⟩
          · rintro (h | ⟨j, q1, q2, q3⟩)
            · exact .inl (.inl h)
            · by_cases e : j = i
              · subst e; exact .inr q3
              · exact .inl (.inr ⟨j, q1, by omega, q3⟩)
      · have : i = n.irbs.length := by omega
        subst this
        refine ⟨.inr l, by simp [palingref36_Address_L1], by omega, fun y => ?_⟩
        rw [h3]
        unfold TryA
        constructor
        · rintro (h | ⟨j, q1, q2, q3⟩)
          · exact .inl h
          · exact .inr ⟨j, q1, q3⟩
        · rintro (h | ⟨j, q1, q3⟩)
          · exact .inl h
          · exact .inr ⟨j, q1, q1.2, q3⟩) ⟨by simp, by simp, by simp, fun y => by
        simp only [List.mem_cons, List.not_mem_nil, or_false]
        constructor
        · exact .inl
        · rintro (h | ⟨j, q1, q2, q3⟩)
          · exact h
          · have := q1.1; omega⟩ (by simp only; omega)
  exact ⟨r, h1, h2.1, h2.2⟩

theorem r36least_spec (ho : n.Ok) (hs : SmN n) (hr : RightP n) {irb to : Int} (hi : inL n.irbs irb) {l : List Int} (hl : l.length ≤ 401) (hp : ∀ y ∈ l, 0 ≤ y) :
    ∃ m, loopM (fun s : Int × Int => match s with | (v34, v35) => palingref36_Address_L2 n irb to l v34 v35) (-1, 0) = some m ∧
      ((m = -1 ∧ ∀ y ∈ l, y < 4294967296 → ¬ GoodP n irb to y) ∨ (0 ≤ m ∧ m < 4294967296 ∧ m ∈ l ∧ GoodP n irb to m ∧ ∀ y ∈ l, y < 4294967296 → GoodP n irb to y → m ≤ y)) := by
  obtain ⟨r, h1, h2⟩ := loopM_rule (f := fun s : Int × Int => match s with | (v34, v35) => palingref36_Address_L2 n irb to l v34 v35)
    (fun s => 0 ≤ s.2 ∧ s.2 ≤ l.length ∧ ((s.1 = -1 ∧ ∀ j, inL l j → j < s.2 → getI l j < 4294967296 → ¬ GoodP n irb to (getI l j)) ∨ (0 ≤ s.1 ∧ s.1 < 4294967296 ∧ s.1 ∈ l ∧ GoodP n irb to s.1 ∧ ∀ j, inL l j → j < s.2 → getI l j < 4294967296 → GoodP n irb to (getI l j) → s.1 ≤ getI l j)))
    (fun m => (m = -1 ∧ ∀ y ∈ l, y < 4294967296 → ¬ GoodP n irb to y) ∨ (0 ≤ m ∧ m < 4294967296 ∧ m ∈ l ∧ GoodP n irb to m ∧ ∀ y ∈ l, y < 4294967296 → GoodP n irb to y → m ≤ y)) (fun s => (l.length - s.2).toNat) (s := (-1, 0)) (fun s hI => by
      obtain ⟨m, i⟩ := s
      obtain ⟨h0, h1, hb⟩ := hI
      simp only at h0 h1 hb ⊢
      by_cases hlt : i < l.length
      · have hii : inL l i := ⟨h0, hlt⟩
        have hw := wr64 (n := i + 1) (by omega) (by omega)
        have hmem := getI_mem hii
        have y0 := hp _ hmem
        have hlin : lin l i = true := by unfold lin; exact decide_eq_true ⟨h0, hlt⟩
        simp only [palingref36_Address_L2, hlt, hlin, getI_get? hii, hw, decide_true, if_true, Option.bind_some, decide_eq_true_eq]
        have keepN : (getI l i < 4294967296 → ¬ GoodP n irb to (getI l i)) → ((m = -1 ∧ ∀ j, inL l j → j < i + 1 → getI l j < 4294967296 → ¬ GoodP n irb to (getI l j)) ∨ (0 ≤ m ∧ m < 4294967296 ∧ m ∈ l ∧ GoodP n irb to m ∧ ∀ j, inL l j → j < i + 1 → getI l j < 4294967296 → GoodP n irb to (getI l j) → m ≤ getI l j)) := fun hn => by
          rcases hb with ⟨e, h⟩ | ⟨a1, a2, a3, a4, a5⟩
          · exact .inl ⟨e, fun j hj hji => by by_cases e : j = i; subst e; exact hn; exact h j hj (by omega)⟩
          · exact .inr ⟨a1, a2, a3, a4, fun j hj hji hq hg => by by_cases e : j = i; subst e; exact absurd hg (hn hq); exact a5 j hj (by omega) hq hg⟩
        by_cases c1 : getI l i < 4294967296
        case neg => rw [if_neg c1]; exact ⟨_, rfl, ⟨by omega, by omega, keepN (fun h => absurd h c1)⟩, by simp only; omega⟩
        rw [if_pos c1]
        have hw32 := wr32 (n := getI l i) (by omega) (by omega)
        have hlead := r36Leads_spec ho hs hr (to := to) (x := getI l i) hi
        rw [hw32, hlead]
        simp only [Option.bind_some, decide_eq_true_eq]
        by_cases c2 : m < 0
        · rw [if_pos c2]
          by_cases c3 : GoodP n irb to (getI l i)
          · rw [if_pos c3]
            refine ⟨_, rfl, ⟨by omega, by omega, .inr ⟨y0, c1, hmem, c3, fun j hj hji hq hg => ?_⟩⟩, by simp only; omega⟩
            by_cases e : j = i
            · subst e; exact Int.le_refl _
            · rcases hb with ⟨_, h⟩ | ⟨a1, _⟩
              · exact absurd hg (h j hj (by simp only at hji; omega) hq)
              · omega
          · rw [if_neg c3]
            exact ⟨_, rfl, ⟨by omega, by omega, keepN (fun _ => c3)⟩, by simp only; omega⟩
        · rw [if_neg c2]
          rcases hb with ⟨e, h⟩ | ⟨a1, a2, a3, a4, a5⟩
          · omega
          by_cases c4 : getI l i < m
          · rw [if_pos c4]
            by_cases c3 : GoodP n irb to (getI l i)
            · rw [if_pos c3]
              refine ⟨_, rfl, ⟨by omega, by omega, .inr ⟨y0, c1, hmem, c3, fun j hj hji hq hg => ?_⟩⟩, by simp only; omega⟩
              by_cases e : j = i
              · subst e; exact Int.le_refl _
              · have := a5 j hj (by simp only at hji; omega) hq hg; simp only; omega
            · rw [if_neg c3]
              exact ⟨_, rfl, ⟨by omega, by omega, keepN (fun _ => c3)⟩, by simp only; omega⟩
          · rw [if_neg c4]
            refine ⟨_, rfl, ⟨by omega, by omega, .inr ⟨a1, a2, a3, a4, fun j hj hji hq hg => ?_⟩⟩, by simp only; omega⟩
            by_cases e : j = i
            · subst e; simp only; omega
            · exact a5 j hj (by simp only at hji; omega) hq hg
      · have : i = l.length := by omega
        subst this
        refine ⟨.inr m, by simp [palingref36_Address_L2], ?_⟩
        rcases hb with ⟨e, h⟩ | ⟨a1, a2, a3, a4, a5⟩
        · refine .inl ⟨e, fun y hy => ?_⟩
          obtain ⟨j, hj, rfl⟩ := mem_getI hy
          exact h j hj hj.2
        · refine .inr ⟨a1, a2, a3, a4, fun y hy => ?_⟩
          obtain ⟨j, hj, rfl⟩ := mem_getI hy
          exact a5 j hj hj.2) ⟨by simp, by simp, .inl ⟨rfl, fun j hj h => by have := hj.1; simp only at h; omega⟩⟩ (by simp only; omega)
  exact ⟨r, h1, h2⟩

theorem addr_same (ho : n.Ok) (hs : SmN n) (hr : RightP n) (hb : n.irbs.length ≤ 200) {irb to : Int} : ∃ r, choose_Address n irb to = some r ∧ palingref36_Address n irb to = some r := by
  obtain ⟨r, h1, h2⟩ := choose_Address_spec ho hs (irb := irb) (to := to)
  refine ⟨r, h1, ?_⟩
  by_cases hi : inL n.irbs irb
  case neg =>
    have : r = (0, false) := by rcases h2 with ⟨e, _⟩ | ⟨a, _, _, h, _⟩; exact e; exact absurd h hi
    simp [palingref36_Address, rPlace_spec, hi, this]
  by_cases ht : inL n.irbs to
  case neg =>
    have : r = (0, false) := by rcases h2 with ⟨e, _⟩ | ⟨a, _, _, _, h, _⟩; exact e; exact absurd h ht
    simp [palingref36_Address, rPlace_spec, hi, ht, this]
  have hP := (irb_pre ho hr ht).1
  have hfl := first_le hP
  have w1 := wr64 (n := firstA (getI n.irbs to).net) (by omega) (by omega)
  obtain ⟨l, e1, hl, hmem⟩ := r36list_spec ho hr hb (irb := irb) ht
  have hpos : ∀ y ∈ l, 0 ≤ y := fun y hy => by
    rcases (hmem y).1 hy with h | ⟨j, hj, h⟩
    · omega
    · have hP2 := (irb_pre ho hr hj).1
      have := first_le hP2
      have := hP2.a0
      omega
  obtain ⟨m, e2, hm⟩ := r36least_spec ho hs hr (to := to) hi hl hpos
  simp only [palingref36_Address, rPlace_spec, hi, ht, nth_getI ht, r02First_spec hP, w1, e1, e2, bind_ite, Option.bind_some, dif1, dif2, dif3, dif4, dif5, dif6, dif7, dnot, ibeq, ibne, decide_eq_true_eq, if_not2, ge_iff_le, gt_iff_lt, fst_ret, Bool.false_eq_true, decide_false, decide_true, Bool.not_true, if_false]
  rcases h2 with ⟨rfl, hno⟩ | ⟨a, rfl, _, _, _, a0, a1, hg, hleast⟩
  · rcases hm with ⟨rfl, _⟩ | ⟨m0, m1, _, hgm, _⟩
    · simp
    · exact absurd hgm (hno hr hi ht m m0 m1)
  · have hta := (hmem a).2 (least_try ho hr ht a0 hg hleast)
    rcases hm with ⟨_, h⟩ | ⟨m0, m1, _, hgm, h⟩
    · exact absurd hg (h a hta a1)
    · have k1 := h a hta a1 hg
      have k2 : ¬ m < a := fun h => hleast m m0 h hgm
      have : m = a := by omega
      subst this
      have w := wr32 (n := m) (by omega) (by omega)
      have : ¬ m < 0 := by omega
      simp [this, w]
end
end Go.Eng

set_option linter.unusedVariables false
set_option linter.unusedSectionVars false
set_option linter.unusedSimpArgs false
namespace Go.Eng
open Go Classical
attribute [local congr] ite_cg
section
variable {n : Api_Net}
noncomputable def chR (n : Api_Net) (irb to : Int) : Int × Bool := match choose_Address n irb to with | some r => r | none => (0, false)
theorem chR_spec (ho : n.Ok) (hs : SmN n) (hr : RightP n) (hb : n.irbs.length ≤ 200) {irb to : Int} : choose_Address n irb to = some (chR n irb to) ∧ palingref36_Address n irb to = some (chR n irb to) := by
  obtain ⟨r, h1, h2⟩ := addr_same ho hs hr hb (irb := irb) (to := to)
  have : chR n irb to = r := by unfold chR; rw [h1]
  rw [this]; exact ⟨h1, h2⟩
noncomputable def leads36 (n : Api_Net) (irb : Int) : List Choose_Lead := gatherI n.irbs (fun i _ => (chR n irb i).2 = true) (fun i y => ⟨i, y.domain, (chR n irb i).1⟩)
theorem chooseRoutes_none (hs : SmN n) {k : Int} (h : ¬ (RightP n ∧ inL n.domains k ∧ ¬ (getI n.domains k).irb < 0)) : choose_Routes n k = some [] := by
  by_cases h1 : inL n.domains k
  case neg =>
    have : k < 0 ∨ (n.domains.length : Int) ≤ k := by unfold inL at h1; omega
    rcases this with g | g
    · simp [choose_Routes, g]
    · simp only [choose_Routes, bind_ite, Option.bind_some, dif1, dif2, dif3, dif4, dif5, dif6, dif7, dnot, ibeq, ibne, decide_eq_true_eq, if_not2, ge_iff_le, gt_iff_lt, fst_ret, Bool.false_eq_true, decide_false, g]; simp
  have a0 : ¬ k < 0 := by have := h1.1; omega
  have a1 : ¬ (n.domains.length : Int) ≤ k := by have := h1.2; omega
  by_cases h2 : (getI n.domains k).irb < 0
  · simp only [choose_Routes, a0, a1, nth_getI h1, h2, bind_ite, Option.bind_some, dif1, dif2, dif3, dif4, dif5, dif6, dif7, dnot, ibeq, ibne, decide_eq_true_eq, if_not2, ge_iff_le, gt_iff_lt, fst_ret, Bool.false_eq_true, decide_false]; simp
  · have hr : ¬ RightP n := fun g => h ⟨g, h1, h2⟩
    simp only [choose_Routes, a0, a1, nth_getI h1, h2, names_Right_spec hs, hr, bind_ite, Option.bind_some, dif1, dif2, dif3, dif4, dif5, dif6, dif7, dnot, ibeq, ibne, decide_eq_true_eq, if_not2, ge_iff_le, gt_iff_lt, fst_ret, Bool.false_eq_true, decide_false]; simp
theorem chooseRoutes_some (ho : n.Ok) (hs : SmN n) (hb : n.irbs.length ≤ 200) (hr : RightP n) {k : Int} (h1 : inL n.domains k) (h2 : ¬ (getI n.domains k).irb < 0) : choose_Routes n k = some (leads36 n (getI n.domains k).irb) := by
  have a0 : ¬ k < 0 := by have := h1.1; omega
  have a1 : ¬ (n.domains.length : Int) ≤ k := by have := h1.2; omega
  have hloop := loop_gather (f := fun s : (List Choose_Lead) × Int => match s with | (l11, v12) => choose_Routes_L1 n k l11 v12) n.irbs (fun i _ => (chR n (getI n.domains k).irb i).2 = true) (fun i y => ⟨i, y.domain, (chR n (getI n.domains k).irb i).1⟩) (out := id) hs.irbs (fun i s h0 hi hin hl => by
    have hw := wr64 (n := i + 1) (by omega) (by omega)
    have h5 : roomy 24 (s ++ [(⟨i, (getI n.irbs i).domain, (chR n (getI n.domains k).irb i).1⟩ : Choose_Lead)]) = true := roomy_few (by simp; omega)
    simp only [choose_Routes_L1, hi, nth_getI hin, nth_getI h1, (chR_spec ho hs hr hb).1, hw, h5, decide_true, if_true, Option.bind_some]
    by_cases c : (chR n (getI n.domains k).irb i).2 = true <;> simp [c]) (fun s => by simp [choose_Routes_L1])
  simp only [choose_Routes, a0, a1, nth_getI h1, h2, names_Right_spec hs, hr, hloop, bind_ite, Option.bind_some, dif1, dif2, dif3, dif4, dif5, dif6, dif7, dnot, ibeq, ibne, decide_eq_true_eq, if_not2, ge_iff_le, gt_iff_lt, fst_ret, Bool.false_eq_true, decide_false]
  simp [leads36]
end
end Go.Eng

set_option linter.unusedVariables false
set_option linter.unusedSectionVars false
set_option linter.unusedSimpArgs false

namespace Go.Eng
open Go Classical
attribute [local congr] ite_cg
section
variable {n : Api_Net}
def OwnP (n : Api_Net) (l : List Int) : Prop := l.length = n.ports.length ∧ RightP n ∧ EachP l fun i t => (0 ≤ (getI n.ports i).link → t = -1) ∧ ((getI n.ports i).link < 0 → 0 ≤ t ∧ t < 10)
theorem port_link (hr : RightP n) {i : Int} (hi : inL n.ports i) : (getI n.ports i).link = -1 ∨ 0 ≤ (getI n.ports i).link := by
  rcases (hr.ports i hi).2.2.2.2.2.2.2.2 with h | h
  · exact .inl h
  · exact .inr h.1.1
theorem owners_Right_spec (hs : SmN n) {l : List Int} (hl : Few l) : owners_Right n l = some (decide (OwnP n l)) := by
  have hf : l.length ≤ 1000000 := hl
  unfold owners_Right OwnP
  by_cases h1 : l.length = n.ports.length
  case neg =>
    have : ((l.length : Int) != (n.ports.length : Int)) = true := by rw [ibne]; exact decide_eq_true (by omega)
    simp [this, h1]
  have h1' : ((l.length : Int) != (n.ports.length : Int)) = false := by rw [ibne]; exact decide_eq_false (by omega)
  by_cases hr : RightP n
  case neg => simp [h1', names_Right_spec hs, hr]
  simp only [h1', names_Right_spec hs, hr, h1, true_and, Bool.false_eq_true, if_false, decide_true, Bool.not_true, Option.bind_some]
  rw [loop_each (f := owners_Right_L1 n l) l (fun i t => (0 ≤ (getI n.ports i).link → t = -1) ∧ ((getI n.ports i).link < 0 → 0 ≤ t ∧ t < 10)) (.inl ()) (.inr ()) hl (fun i i0 i1 hi => by
    have hw := wr64 (n := i + 1) (by omega) (by omega)
    have hp : inL n.ports i := ⟨i0, by omega⟩
    simp only [owners_Right_L1, i1, nth_getI hi, nth_getI hp, hw, bind_ite, Option.bind_some, dif1, dif2, dif3, dif4, dif5, dif6, dif7, dnot, ibeq, ibne, decide_eq_true_eq, if_not2, ge_iff_le, gt_iff_lt, fst_ret, Bool.false_eq_true, decide_false, mrg1, mrg2, mrg3, mrg4, mrg5, mrg6, mrg7, decide_true, if_true]
    by_cases c : 0 ≤ (getI n.ports i).link
    · have c2 : ¬ (getI n.ports i).link < 0 := by omega
      by_cases d : getI l i = -1 <;> simp [c, c2, d]
    · have c2 : (getI n.ports i).link < 0 := by omega
      by_cases d : getI l i < 0
      · simp [c, c2, d]; omega
      · by_cases d2 : 10 ≤ getI l i
        · simp [c, c2, d, d2]
        · have : 0 ≤ getI l i ∧ getI l i < 10 := by omega
          simp [c, c2, d, d2, this]) (by simp [owners_Right_L1])]
  simp only [bind_ite, Option.bind_some, dif1, dif2, dif3, dif4, dif5, dif6, dif7, dnot, ibeq, ibne, decide_eq_true_eq, if_not2, ge_iff_le, gt_iff_lt, fst_ret, Bool.false_eq_true, decide_false, true_and]
noncomputable def ofL (l : List Int) (t : Int) : List Int := gatherI l (fun _ x => x = t) (fun i _ => i)
end
end Go.Eng

set_option linter.unusedVariables false
set_option linter.unusedSectionVars false
set_option linter.unusedSimpArgs false
namespace Go.Eng
open Go Classical
attribute [local congr] ite_cg

section
variable {n : Api_Net}
noncomputable def hopD (n : Api_Net) (d : Int) : List Int := (hopsI n d).map fun h => h.domain
noncomputable def leadD (n : Api_Net) (d : Int) : List Int := if (getI n.domains d).irb < 0 then [] else (leads36 n (getI n.domains d).irb).map fun h => h.domain
def seedP (n : Api_Net) (of : List Int) (d : Int) (t : Nat) : Prop := inL n.domains d ∧ ∃ p ∈ membersL n d, getI of p = (t : Int)
theorem hopD_in (hr : RightP n) : ∀ d, 0 ≤ d → d < (n.domains.length : Int) → ∀ h ∈ hopD n d, 0 ≤ h ∧ h < (n.domains.length : Int) := by
  intro d d0 d1 h hh
  obtain ⟨x, hx, rfl⟩ := List.mem_map.1 hh
  exact hops_in hr d d0 d1 x hx
theorem leadD_in (hr : RightP n) : ∀ d, 0 ≤ d → d < (n.domains.length : Int) → ∀ h ∈ leadD n d, 0 ≤ h ∧ h < (n.domains.length : Int) := by
  intro d d0 d1 h hh
  unfold leadD at hh
  split at hh
  · simp at hh
  · obtain ⟨x, hx, rfl⟩ := List.mem_map.1 hh
    obtain ⟨i, hi, _, rfl⟩ := mem_gatherI.1 hx
    exact (hr.irbs i hi).1
theorem leads36_len {irb : Int} : (leads36 n irb).length ≤ n.irbs.length := gatherI_len
theorem leadD_len {d : Int} : (leadD n d).length ≤ n.irbs.length := by
  unfold leadD; split
  · simp
  · rw [List.length_map]; exact leads36_len
theorem hops_spec (hg : BndN n 200 100) (hr : RightP n) {d : Int} (hd : inL n.domains d) : labels_hops n d = some (hopD n d) := by
  have hl := hopsI_len hg hd
  simp only [labels_hops]
  rw [reach_Hops_spec hg hr hd, Option.bind_some]
  have e := loop_map (f := fun s : (List Int) × Int => match s with | (l6, v7) => labels_hops_L1 (hopsI n d) l6 v7) (hopsI n d) (fun h => h.domain) [] (out := fun s => s) (by unfold Few; omega) (fun i s hi hlen => by
    have i0 := hi.1; have i1 := hi.2
    simp only [labels_hops_L1]
    rw [if_pos (by simpa using i1), if_pos (linT hi), getI_get? hi, Option.bind_some, wr64 (by omega) (by omega), if_pos (roomy_few (by simp at hlen ⊢; omega))]) (fun s => by simp [labels_hops_L1])
  rw [e]; rfl
theorem routes_spec (ho : n.Ok) (hg : BndN n 200 100) (hr : RightP n) {d : Int} (hd : inL n.domains d) : labels_routes n d = some (leadD n d) := by
  have hs := hg.sm
  have hil := hg.irbs
  simp only [labels_routes]
  unfold leadD
  by_cases c : (getI n.domains d).irb < 0
  · rw [chooseRoutes_none hs (fun h => h.2.2 c), Option.bind_some, if_pos c]
    have e := loop_map (f := fun s : (List Int) × Int => match s with | (l6, v7) => labels_routes_L1 [] l6 v7) ([] : List Choose_Lead) (fun h => h.domain) [] (out := fun s => s) few_nil (fun i s hi hlen => by have := hi.1; have := hi.2; simp at this; omega) (fun s => by simp [labels_routes_L1])
    rw [e]; rfl
  · have hl := leads36_len (n := n) (irb := (getI n.domains d).irb)
    rw [chooseRoutes_some ho hs hil hr hd c, Option.bind_some, if_neg c]
    generalize leads36 n (getI n.domains d).irb = ls at *
    have e := loop_map (f := fun s : (List Int) × Int => match s with | (l6, v7) => labels_routes_L1 ls l6 v7) ls (fun h => h.domain) [] (out := fun s => s) (by unfold Few; omega) (fun i s hi hlen => by
      have i0 := hi.1; have i1 := hi.2
      simp only [labels_routes_L1]
      rw [if_pos (by simpa using i1), if_pos (linT hi), getI_get? hi, Option.bind_some, wr64 (by omega) (by omega), if_pos (roomy_few (by simp at hlen ⊢; omega))]) (fun s => by simp [labels_routes_L1])
    rw [e]; rfl
def mkG {β : Type} (N : Nat) (f : Int → β) : List β := (List.range N).map fun (i : Nat) => f (i : Int)
theorem mkG_len {β : Type} {N : Nat} {f : Int → β} : (mkG N f).length = N := by simp [mkG]
theorem mkG_inL {β : Type} {N : Nat} {f : Int → β} {i : Int} : inL (mkG N f) i ↔ 0 ≤ i ∧ i < N := by rw [inL_iff, mkG_len]
theorem mkG_get {β : Type} [Inhabited β] {N : Nat} {f : Int → β} {i : Int} (h : 0 ≤ i ∧ i < (N : Int)) : getI (mkG N f) i = f i := by
  have h1 : (mkG N f)[i.toNat]? = some (f i) := by
    unfold mkG
    rw [List.getElem?_map, List.getElem?_range (by omega)]
    simp only [Option.map_some]
    congr 2; omega
  unfold getI; rw [h1]; rfl
theorem mkG_succ {β : Type} {N : Nat} {f : Int → β} : mkG (N + 1) f = mkG N f ++ [f N] := by simp [mkG, List.range_succ]
theorem begin_spec (ho : n.Ok) (hg : BndN n 200 100) (hr : RightP n) : labels_begin n = some (mkG n.domains.length (hopD n), mkG n.domains.length (leadD n)) := by
  have hdl := hg.domains
  have hmk : mkok 16 (n.domains.length : Int) (n.domains.length : Int) = true := by unfold mkok; simp; omega
  have e := loopM_trace (f := fun s : (List (List Int)) × (List (List Int)) × Int => match s with | (l3, l4, v5) => labels_begin_L1 n l3 l4 v5) (r := (mkG n.domains.length (hopD n), mkG n.domains.length (leadD n))) (fun k => (mkG k (hopD n), mkG k (leadD n), (k : Int))) n.domains.length (by omega) (fun k hk => by
    have hd : inL n.domains (k : Int) := ⟨by omega, by omega⟩
    simp only [labels_begin_L1]
    rw [if_pos (by simpa using hk), hops_spec hg hr hd, Option.bind_some]
    rw [if_pos (roomy_few (by simp [mkG_len]; omega)), routes_spec ho hg hr hd, Option.bind_some]
    rw [if_pos (roomy_few (by simp [mkG_len]; omega)), wr64 (by omega) (by omega), mkG_succ, mkG_succ]
    rfl) (by
    simp only [labels_begin_L1]
    rw [if_neg (by simp)])
  simp only [labels_begin, hmk, if_true]
  have e' : loopM (fun s : (List (List Int)) × (List (List Int)) × Int => match s with | (l3, l4, v5) => labels_begin_L1 n l3 l4 v5) ([], [], 0) = some (mkG n.domains.length (hopD n), mkG n.domains.length (leadD n)) := e
  rw [e']; rfl

theorem eqLab_dec {x y : Labels_Label} : eq_Labels_Label x y = decide (x = y) := by
  cases x; cases y
  rw [Bool.eq_iff_iff]
  simp [eq_Labels_Label]
theorem grow_spec {a1 : List Api_Device} {a2 : List Api_Port} {a3 : List Api_Link} {a4 : List Api_Domain} {a5 : List Api_Static} {a6 : List Api_Flood} {a7 : List Api_Vrf} {a8 : List Api_Irb} {all : List Labels_Label} {n10 : Nat} {q : List Labels_queued} {u v : List (List Int)} {d : Int} {y : Labels_Label} (hd : inL all d) (hq : q.length ≤ 1000000) :
    labels_spread_grow_own a1 a2 a3 a4 a5 a6 a7 a8 all n10 q u v d y = some (growF all q d y) := by
  unfold labels_spread_grow_own growF orL
  rw [if_pos (linT hd), getI_get? hd, Option.bind_some, eqLab_dec]
  by_cases c : (⟨bits_or .i64 (getI all d).plain y.plain, bits_or .i64 (getI all d).led y.led⟩ : Labels_Label) = getI all d
  · rw [if_neg (by simpa using c), if_neg (by simpa using c)]
  · rw [if_pos (by simpa using c), Option.bind_some, if_pos (roomy_few (by simp; omega)), if_pos (by simpa using c)]
theorem growx_spec {a1 : List Api_Device} {a2 : List Api_Port} {a3 : List Api_Link} {a4 : List Api_Domain} {a5 : List Api_Static} {a6 : List Api_Flood} {a7 : List Api_Vrf} {a8 : List Api_Irb} {all : List Labels_Label} {n10 : Nat} {q : List Labels_queued} {u v : List (List Int)} {d : Int} {y : Labels_Label} (hd : inL all d) (hq : q.length ≤ 1000000) :
    labels_spread_grow_ownx a1 a2 a3 a4 a5 a6 a7 a8 all n10 q q.length u v d y = some ((growF all q d y).1, (growF all q d y).2, (growF all q d y).2.length) := by
  unfold labels_spread_grow_ownx growF orL
  rw [if_pos (linT hd), getI_get? hd, Option.bind_some, eqLab_dec]
  by_cases c : (⟨bits_or .i64 (getI all d).plain y.plain, bits_or .i64 (getI all d).led y.led⟩ : Labels_Label) = getI all d
  · rw [if_neg (by simpa using c), if_neg (by simpa using c)]
  · rw [if_pos (by simpa using c), Option.bind_some, if_pos (roomy_few (by simp; omega)), if_pos (by simpa using c)]
theorem spread_loop {E R : Int → List Int} {S : Int → Nat → Prop} {N : Nat} (hN : N ≤ 200) {f : (List Labels_Label) × (List Labels_queued) × Nat × Int → Option (((List Labels_Label) × (List Labels_queued) × Nat × Int) ⊕ ((List Labels_Label) × (List Labels_queued) × Nat))} {xs : List Int} {y : Labels_Label} (hx : Few xs)
    (hf : ∀ (all : List Labels_Label) (q : List Labels_queued) j, inL xs j → inL all (getI xs j) → q.length ≤ 1000000 → f (all, q, q.length, j) = some (.inl ((growF all q (getI xs j) y).1, (growF all q (getI xs j) y).2, (growF all q (getI xs j) y).2.length, j + 1)))
    (he : ∀ (all : List Labels_Label) (q : List Labels_queued) (k : Nat), f (all, q, k, xs.length) = some (.inr (all, q, k))) (hy : ∀ x ∈ xs, 0 ≤ x ∧ x < (N : Int) ∧ LbOk E R S x y)
    {all : List Labels_Label} {q : List Labels_queued} (ha : AllOk E R S N all) (hq : (q.length : Int) ≤ pot all) :
    ∃ b r, loopM f (all, q, q.length, 0) = some (b, r, r.length) ∧ Grown E R S N all q b r ∧ ∀ x ∈ xs, subL y (getI b x) := by
  unfold Few at hx
  obtain ⟨⟨b, r, k⟩, e, hk0, h1, h2⟩ := loopM_rule (f := f)
    (fun s => 0 ≤ s.2.2.2 ∧ s.2.2.2 ≤ xs.length ∧ s.2.2.1 = s.2.1.length ∧ Grown E R S N all q s.1 s.2.1 ∧ ∀ j, inL xs j → j < s.2.2.2 → subL y (getI s.1 (getI xs j)))
    (fun r => r.2.2 = r.2.1.length ∧ Grown E R S N all q r.1 r.2.1 ∧ ∀ x ∈ xs, subL y (getI r.1 x)) (fun s => (xs.length - s.2.2.2).toNat) (s := (all, q, q.length, 0)) (fun s hI => by
      obtain ⟨b, r, k, j⟩ := s
      obtain ⟨j0, j1, hk, hG, hK⟩ := hI
      simp only at j0 j1 hk hG hK ⊢
      subst hk
      by_cases c : j < (xs.length : Int)
      · have hj : inL xs j := ⟨j0, c⟩
        obtain ⟨y0, y1, y2⟩ := hy _ (getI_mem hj)
        have hbl := hG.ok.1
        have hd : inL b (getI xs j) := ⟨y0, by omega⟩
        have hpl := pot_le hG.ok
        have hpt := hG.pot
        obtain ⟨g1, g2⟩ := growF_ok (q := r) hG.ok hd y2
        refine ⟨_, hf b r j hj hd (by omega), ⟨by simp only; omega, by simp only; omega, rfl, hG.trans ha g1, fun i hi hij => ?_⟩, by simp only; omega⟩
        simp only at hij
        by_cases e : i = j
        · subst e; exact g2
        · obtain ⟨z0, z1, _⟩ := hy _ (getI_mem hi)
          exact (hK i hi (by omega)).trans (g1.mono _ ⟨z0, by omega⟩)
      · have : j = xs.length := by omega
        subst this
        refine ⟨_, he b r _, rfl, hG, fun x hx => ?_⟩
        obtain ⟨i, hi, rfl⟩ := mem_getI hx
        exact hK i hi hi.2) ⟨by simp, by simp, rfl, Grown.refl ha, fun j hj h => by have := hj.1; simp only at h; omega⟩ (by simp only; omega)
  simp only at hk0
  subst hk0
  exact ⟨b, r, e, h1, h2⟩
theorem run_spec {S : Int → Nat → Prop} (hN : n.domains.length ≤ 200) (hr : RightP n) (hh : ∀ d, (hopD n d).length ≤ 1000 ∨ ¬ inL n.domains d) (hi : n.irbs.length ≤ 200) {a1 : List Api_Device} {a2 : List Api_Port} {a3 : List Api_Link} {a4 : List Api_Domain} {a5 : List Api_Static} {a6 : List Api_Flood} {a7 : List Api_Vrf} {a8 : List Api_Irb} {n10 : Nat}
    {all : List Labels_Label} {q : List Labels_queued} (ha : AllOk (hopD n) (leadD n) S n.domains.length all) (hq : (q.length : Int) ≤ pot all) (hqe : ∀ x ∈ q, x.done = false ∧ 0 ≤ x.task.domain ∧ x.task.domain < (n.domains.length : Int))
    (hw : ∀ d, inL all d → getI all d = ⟨0, 0⟩ ∨ ∃ x ∈ q, x.task.domain = d) :
    ∃ b r k, labels_spread_run_own a1 a2 a3 a4 a5 a6 a7 a8 all n10 q (mkG n.domains.length (hopD n)) (mkG n.domains.length (leadD n)) = some (b, r, k) ∧ AllOk (hopD n) (leadD n) S n.domains.length b ∧ (∀ d, inL all d → subL (getI all d) (getI b d)) ∧ ∀ d, 0 ≤ d → d < (n.domains.length : Int) → ClosedAt (hopD n) (leadD n) b d := by
  obtain ⟨⟨b, r, k⟩, e, h1, h2, h3⟩ := loopM_rule (f := fun s : (List Labels_Label) × (List Labels_queued) × Nat × Int => match s with | (l14, l15, n16, v17) => labels_spread_run_own_L1 a1 a2 a3 a4 a5 a6 a7 a8 n10 (mkG n.domains.length (hopD n)) (mkG n.domains.length (leadD n)) l14 l15 n16 v17)
    (fun s => 0 ≤ s.2.2.2 ∧ s.2.2.2 ≤ s.2.1.length ∧ s.2.2.1 = s.2.1.length ∧ AllOk (hopD n) (leadD n) S n.domains.length s.1 ∧ (s.2.1.length : Int) ≤ pot s.1 ∧ (∀ j, inL s.2.1 j → s.2.2.2 ≤ j → (getI s.2.1 j).done = false ∧ 0 ≤ (getI s.2.1 j).task.domain ∧ (getI s.2.1 j).task.domain < (n.domains.length : Int)) ∧
      (∀ d, inL all d → subL (getI all d) (getI s.1 d)) ∧ ∀ d, 0 ≤ d → d < (n.domains.length : Int) → (∃ j, inL s.2.1 j ∧ s.2.2.2 ≤ j ∧ (getI s.2.1 j).task.domain = d) ∨ ClosedAt (hopD n) (leadD n) s.1 d)
    (fun r => AllOk (hopD n) (leadD n) S n.domains.length r.1 ∧ (∀ d, inL all d → subL (getI all d) (getI r.1 d)) ∧ ∀ d, 0 ≤ d → d < (n.domains.length : Int) → ClosedAt (hopD n) (leadD n) r.1 d)
    (fun s => (2046 * n.domains.length + 1 - s.2.2.2).toNat) (s := (all, q, q.length, 0)) (fun s hI => by
      obtain ⟨b, r, k, i⟩ := s
      obtain ⟨i0, i1, hk, hA, hP, hE, hM, hC⟩ := hI
      simp only at i0 i1 hk hA hP hE hM hC ⊢
      subst hk
      have hpl := pot_le hA
      by_cases c : i < (r.length : Int)
      · have hir : inL r i := ⟨i0, c⟩
        obtain ⟨d1, d2, d3⟩ := hE i hir (by omega)
        have hsi : inL (List.set r (Int.toNat i) ⟨(getI r i).task, true⟩) i := inL_setI.2 hir
        have hgi : getI (List.set r (Int.toNat i) ⟨(getI r i).task, true⟩) i = ⟨(getI r i).task, true⟩ := by rw [getI_setI hir hir, if_pos rfl]
        generalize hat : (getI r i).task = tk at *
        have hib : inL b tk.domain := ⟨d2, by have := hA.1; omega⟩
        have hin : inL n.domains tk.domain := ⟨d2, d3⟩
        have ie : inL (mkG n.domains.length (hopD n)) tk.domain := mkG_inL.2 ⟨d2, d3⟩
        have il : inL (mkG n.domains.length (leadD n)) tk.domain := mkG_inL.2 ⟨d2, d3⟩
        have hlb := hA.2 _ hib
        have hlen1 : (List.set r (Int.toNat i) (⟨tk, true⟩ : Labels_queued)).length = r.length := List.length_set ..
        have hhl := (hh tk.domain).resolve_right (fun h => h hin)
        have hll : (leadD n tk.domain).length ≤ n.irbs.length := leadD_len
        obtain ⟨b1, r1, e1, G1, K1⟩ := spread_loop (E := hopD n) (R := leadD n) (S := S) hN (xs := hopD n tk.domain) (y := getI b tk.domain) (f := fun s => match s with | (l34, l35, n36, v37) => labels_spread_run_own_L2 a1 a2 a3 a4 a5 a6 a7 a8 n10 (mkG n.domains.length (hopD n)) (mkG n.domains.length (leadD n)) i ⟨tk, true⟩ (getI b tk.domain) (hopD n tk.domain) l34 l35 n36 v37) (by unfold Few; omega)
          (fun all q j hj hd hq => by
            have j0 := hj.1; have j1 := hj.2
            simp only [labels_spread_run_own_L2]
            rw [if_pos (by simpa using j1), nth_getI hj, Option.bind_some, growx_spec hd hq, Option.bind_some, wr64 (by omega) (by omega)]) (fun all q k => by simp [labels_spread_run_own_L2]) (fun x hx => by
            have := hopD_in hr _ d2 d3 x hx
            exact ⟨this.1, this.2, hlb.p0, hlb.p1, hlb.l0, hlb.l1, fun t h => .hop (hlb.sp t h) hx, fun t h => .hop (hlb.sl t h) hx⟩)
          (all := b) (q := List.set r (Int.toNat i) ⟨tk, true⟩) hA (by rw [hlen1]; exact hP)
        have hP1 := G1.pot
        have hpl1 := pot_le G1.ok
        obtain ⟨b2, r2, e2, G2, K2⟩ := spread_loop (E := hopD n) (R := leadD n) (S := S) hN (xs := leadD n tk.domain) (y := ⟨0, (getI b tk.domain).plain⟩) (f := fun s => match s with | (l66, l67, n68, v69) => labels_spread_run_own_L3 a1 a2 a3 a4 a5 a6 a7 a8 n10 (mkG n.domains.length (hopD n)) (mkG n.domains.length (leadD n)) i (getI b tk.domain) (leadD n tk.domain) l66 l67 n68 v69) (by unfold Few; omega)
          (fun all q j hj hd hq => by
            have j0 := hj.1; have j1 := hj.2
            simp only [labels_spread_run_own_L3]
            rw [if_pos (by simpa using j1), nth_getI hj, Option.bind_some, growx_spec hd hq, Option.bind_some, wr64 (by omega) (by omega)]) (fun all q k => by simp [labels_spread_run_own_L3]) (fun x hx => by
            have := leadD_in hr _ d2 d3 x hx
            exact ⟨this.1, this.2, by simp only; omega, by simp only; omega, hlb.p0, hlb.p1, fun t h => (by rw [tb_zero] at h; cases h), fun t h => .route (hlb.sp t h) hx⟩)
          (all := b1) (q := r1) G1.ok (by omega)
        have G := G1.trans hA G2
        have hP2 := G.pot
        rw [hlen1] at hP2
        obtain ⟨ee, rfl, ee1, ee2⟩ := G.ext
        have hlb1 := G1.ok.1
        refine ⟨.inl (b2, List.set r (Int.toNat i) ⟨tk, true⟩ ++ ee, (List.set r (Int.toNat i) ⟨tk, true⟩ ++ ee).length, i + 1), ?_, ⟨by simp only; omega, by simp only [List.length_append, hlen1]; omega, rfl, G.ok, by simp only; omega, fun j hj hji => ?_, fun d hd => ?_, fun d x0 x1 => ?_⟩, by simp only; omega⟩
        · simp only [labels_spread_run_own_L1]
          rw [if_pos (by simpa using c), if_pos (linT hir), getI_get? hir, Option.bind_some, if_neg (by rw [d1]; simp), Option.bind_some, hat, if_pos (linT hsi), getI_get? hsi, Option.bind_some, hgi]
          simp only
          rw [if_pos (linT hib), getI_get? hib, Option.bind_some, if_pos (linT ie), getI_get? ie, Option.bind_some, mkG_get ⟨d2, d3⟩]
          rw [← hlen1, e1, Option.bind_some]
          simp only
          rw [if_pos (linT il), getI_get? il, Option.bind_some, mkG_get ⟨d2, d3⟩, e2, Option.bind_some, wr64 (by omega) (by omega)]
        · simp only at hj hji ⊢
          by_cases e : inL (List.set r (Int.toNat i) (⟨tk, true⟩ : Labels_queued)) j
          · rw [getI_app e, getI_setI hir (inL_setI.1 e), if_neg (by omega)]
            exact hE j (inL_setI.1 e) (by omega)
          · have hm := getI_mem hj
            obtain ⟨m, hm1, hm2⟩ : ∃ m : Nat, j = (List.set r (Int.toNat i) (⟨tk, true⟩ : Labels_queued)).length + m ∧ m < ee.length := by
              have h1 := hj.1; have h2 := hj.2
              rw [List.length_append] at h2
              have : ¬ j < ((List.set r (Int.toNat i) (⟨tk, true⟩ : Labels_queued)).length : Int) := fun h => e ⟨h1, h⟩
              exact ⟨(j - (List.set r (Int.toNat i) (⟨tk, true⟩ : Labels_queued)).length).toNat, by omega, by omega⟩
            have : getI (List.set r (Int.toNat i) (⟨tk, true⟩ : Labels_queued) ++ ee) j ∈ ee := by
              have : (List.set r (Int.toNat i) (⟨tk, true⟩ : Labels_queued) ++ ee)[j.toNat]? = some ee[m] := by
                rw [List.getElem?_append_right (by omega), show j.toNat - (List.set r (Int.toNat i) (⟨tk, true⟩ : Labels_queued)).length = m by omega]
                exact List.getElem?_eq_getElem hm2
              unfold getI; rw [this]; exact List.getElem_mem hm2
            exact ee1 _ this
        · exact (hM d hd).trans (G.mono d ⟨hd.1, by have := hd.2; have := ha.1; have := hA.1; omega⟩)
        · simp only
          have hdb : inL b d := ⟨x0, by have := hA.1; omega⟩
          -- who grew waits
          have wait : (∃ x ∈ ee, x.task.domain = d) → ∃ j, inL (List.set r (Int.toNat i) (⟨tk, true⟩ : Labels_queued) ++ ee) j ∧ i + 1 ≤ j ∧ (getI (List.set r (Int.toNat i) (⟨tk, true⟩ : Labels_queued) ++ ee) j).task.domain = d := by
            rintro ⟨x, hx, hxd⟩
            obtain ⟨m, hm, rfl⟩ := mem_getI hx
            have m0 := hm.1; have m1 := hm.2
            refine ⟨(r.length : Int) + m, ⟨by omega, by rw [List.length_append, hlen1]; omega⟩, by omega, ?_⟩
            have : getI (List.set r (Int.toNat i) (⟨tk, true⟩ : Labels_queued) ++ ee) ((r.length : Int) + m) = getI ee m := by
              unfold getI
              rw [List.getElem?_append_right (by omega)]
              congr 2; omega
            rw [this]; exact hxd
          rcases (ee2 d hdb).symm with hgrew | same
          · exact .inl (wait hgrew)
          by_cases hdt : d = tk.domain
          · subst hdt
            refine .inr ⟨fun h hh' => ?_, fun h hh' t ht => ?_⟩
            · rw [same]
              have hin2 := hopD_in hr _ d2 d3 h hh'
              exact (K1 h hh').trans (G2.mono h ⟨hin2.1, by omega⟩)
            · rw [same] at ht
              exact (K2 h hh').2 t ht
          · rcases hC d x0 x1 with ⟨j, hj, hij, hjd⟩ | hcl
            · refine .inl ⟨j, inL_app (inL_setI.2 hj), ?_, ?_⟩
              · by_cases e : j = i
                · subst e; rw [hat] at hjd; exact absurd hjd.symm hdt
                · omega
              · rw [getI_app (inL_setI.2 hj), getI_setI hir hj, if_neg (by
                  intro e; subst e; rw [hat] at hjd; exact hdt hjd.symm)]
                exact hjd
            · refine .inr ⟨fun h hh' => ?_, fun h hh' t ht => ?_⟩
              · have hin2 := hopD_in hr _ x0 x1 h hh'
                rw [same]
                exact (hcl.1 h hh').trans (G.mono h ⟨hin2.1, by have := hA.1; omega⟩)
              · have hin2 := leadD_in hr _ x0 x1 h hh'
                rw [same] at ht
                exact (G.mono h ⟨hin2.1, by have := hA.1; omega⟩).2 t (hcl.2 h hh' t ht)
      · have : i = r.length := by omega
        subst this
        refine ⟨.inr (b, r, r.length), ?_, hA, hM, fun d x0 x1 => ?_⟩
        · simp only [labels_spread_run_own_L1]
          rw [if_neg (by simp)]
        · rcases hC d x0 x1 with ⟨j, hj, hij, _⟩ | h
          · have := hj.2; omega
          · exact h) ⟨by simp, by simp, rfl, ha, hq, fun j hj _ => hqe _ (getI_mem hj), fun d _ => subL.refl, fun d x0 x1 => by
        have hd : inL all d := ⟨x0, by have := ha.1; omega⟩
        rcases hw d hd with h | ⟨x, hx, h⟩
        · refine .inr ⟨fun h' _ => ?_, fun h' _ t ht => ?_⟩
          · rw [h]; exact ⟨fun t ht => (by rw [tb_zero] at ht; cases ht), fun t ht => (by rw [tb_zero] at ht; cases ht)⟩
          · rw [h, tb_zero] at ht; cases ht
        · obtain ⟨j, hj, rfl⟩ := mem_getI hx
          exact .inl ⟨j, hj, hj.1, h⟩⟩ (by simp only; omega)
  refine ⟨b, r, k, ?_, h1, h2, h3⟩
  unfold labels_spread_run_own
  rw [e]; rfl
end
end Go.Eng

set_option linter.unusedVariables false
set_option linter.unusedSectionVars false
set_option linter.unusedSimpArgs false
namespace Go.Eng
open Go Classical
attribute [local congr] ite_cg

section
variable {n : Api_Net} {of : List Int}
abbrev DerN (n : Api_Net) (of : List Int) : Bool → Int → Nat → Prop := Der (hopD n) (leadD n) (seedP n of)
structure AllF (n : Api_Net) (of : List Int) (b : List Labels_Label) : Prop where
  ok : AllOk (hopD n) (leadD n) (seedP n of) n.domains.length b
  closed : ∀ d, 0 ≤ d → d < (n.domains.length : Int) → ClosedAt (hopD n) (leadD n) b d
  plain : ∀ d, inL n.domains d → ∀ t, tb (getI b d).plain t = true ↔ DerN n of false d t
  led : ∀ d, inL n.domains d → ∀ t, tb (getI b d).led t = true ↔ DerN n of true d t
theorem owner_ok (ho : OwnP n of) {p : Int} (hp : inL n.ports p) : inL of p ∧ (getI of p = -1 ∨ 0 ≤ getI of p ∧ getI of p < 10) := by
  have hi : inL of p := ⟨hp.1, by have := hp.2; have := ho.1; omega⟩
  have := ho.2.2 p hi
  refine ⟨hi, ?_⟩
  by_cases c : 0 ≤ (getI n.ports p).link
  · exact .inl (this.1 c)
  · exact .inr (this.2 (by omega))
theorem seed_in (hg : BndN n 200 100) (ho : OwnP n of) {d : Int} (hd : inL n.domains d) {u v : List (List Int)} {z all : List Labels_Label} {q : List Labels_queued} (hz : AllOk (hopD n) (leadD n) (seedP n of) n.domains.length z) (hz0 : 0 ≤ pot z)
    (hG : Grown (hopD n) (leadD n) (seedP n of) n.domains.length z [] all q) (hq : (q.length : Int) ≤ pot all) :
    ∃ b r, loopM (fun s : (List Labels_Label) × (List Labels_queued) × Int => match s with | (l17, l18, v19) => labels_All_L2 n of u v d (membersL n d) l17 l18 v19) (all, q, 0) = some (b, r) ∧ Grown (hopD n) (leadD n) (seedP n of) n.domains.length z [] b r ∧ (r.length : Int) ≤ pot b ∧ (∀ x, inL n.domains x → subL (getI all x) (getI b x)) ∧
      ∀ p ∈ membersL n d, ∀ t : Nat, getI of p = (t : Int) → tb (getI b d).plain t = true := by
  have hml : (membersL n d).length ≤ 200 := Nat.le_trans membersL_len hg.ports
  have hdl := hg.domains
  obtain ⟨⟨b, r⟩, e, h1, h2, h3, h4⟩ := loopM_rule (f := fun s : (List Labels_Label) × (List Labels_queued) × Int => match s with | (l17, l18, v19) => labels_All_L2 n of u v d (membersL n d) l17 l18 v19)
    (fun s => 0 ≤ s.2.2 ∧ s.2.2 ≤ (membersL n d).length ∧ Grown (hopD n) (leadD n) (seedP n of) n.domains.length z [] s.1 s.2.1 ∧ (s.2.1.length : Int) ≤ pot s.1 ∧ (∀ x, inL n.domains x → subL (getI all x) (getI s.1 x)) ∧ ∀ j, inL (membersL n d) j → j < s.2.2 → ∀ t : Nat, getI of (getI (membersL n d) j) = (t : Int) → tb (getI s.1 d).plain t = true)
    (fun r => Grown (hopD n) (leadD n) (seedP n of) n.domains.length z [] r.1 r.2 ∧ (r.2.length : Int) ≤ pot r.1 ∧ (∀ x, inL n.domains x → subL (getI all x) (getI r.1 x)) ∧ ∀ p ∈ membersL n d, ∀ t : Nat, getI of p = (t : Int) → tb (getI r.1 d).plain t = true)
    (fun s => ((membersL n d).length - s.2.2).toNat) (s := (all, q, 0)) (fun s hI => by
      obtain ⟨b, r, j⟩ := s
      obtain ⟨j0, j1, hB, hP, hM, hK⟩ := hI
      simp only at j0 j1 hB hP hM hK ⊢
      have hbl := hB.ok.1
      have hpl := pot_le hB.ok
      have hdb : inL b d := ⟨hd.1, by have := hd.2; omega⟩
      by_cases c : j < ((membersL n d).length : Int)
      · have hj : inL (membersL n d) j := ⟨j0, c⟩
        have hmem := getI_mem hj
        obtain ⟨hio, hval⟩ := owner_ok ho (membersL_in hmem)
        have hw := wr64 (n := j + 1) (by omega) (by omega)
        by_cases hv : 0 ≤ getI of (getI (membersL n d) j)
        · obtain ⟨t, ht⟩ : ∃ t : Nat, getI of (getI (membersL n d) j) = (t : Int) := ⟨(getI of (getI (membersL n d) j)).toNat, by omega⟩
          have ht10 : t < 10 := by omega
          have hlab : LbOk (hopD n) (leadD n) (seedP n of) d ⟨((2 ^ t : Nat) : Int), 0⟩ := ⟨Int.natCast_nonneg _, pow_1024 ht10, by simp only; omega, by simp only; omega, fun t' h' => by
            have h' : tb ((2 ^ t : Nat) : Int) t' = true := h'
            rw [tb_pow, decide_eq_true_eq] at h'
            subst h'
            exact .seed ⟨hd, _, hmem, ht⟩, fun t' h' => (by
            have h' : tb 0 t' = true := h'
            rw [tb_zero] at h'; cases h')⟩
          obtain ⟨g1, g2⟩ := growF_ok (q := r) hB.ok hdb hlab
          have hgp := g1.pot
          have hpw : wr_i64 (1 * 2 ^ (min (Int.toNat (t : Int)) 64)) = ((2 ^ t : Nat) : Int) := by
            have : min (Int.toNat (t : Int)) 64 = t := by omega
            rw [this, Int.one_mul]
            have h1 := pow_1024 ht10
            have h2 : (2 : Int) ^ t = ((2 ^ t : Nat) : Int) := by simp
            rw [h2]
            have h3 : 0 ≤ ((2 ^ t : Nat) : Int) := Int.natCast_nonneg _
            generalize ((2 ^ t : Nat) : Int) = P at *
            exact wr64 (by omega) (by omega)
          refine ⟨.inl ((growF b r d ⟨((2 ^ t : Nat) : Int), 0⟩).1, (growF b r d ⟨((2 ^ t : Nat) : Int), 0⟩).2, j + 1), ?_, ⟨by simp only; omega, by simp only; omega, hB.trans hz g1, by simp only; omega, fun x hx => (hM x hx).trans (g1.mono x ⟨hx.1, by have := hx.2; omega⟩), fun i hi hij t' ht' => ?_⟩, by simp only; omega⟩
          · simp only [labels_All_L2]
            rw [if_pos (by simpa using c), if_pos (linT hj), getI_get? hj, Option.bind_some, nth_getI hio, Option.bind_some, if_pos (by simpa using hv), Option.bind_some, if_pos (by simpa using hv), ht, hpw, grow_spec hdb (by omega), Option.bind_some, hw]
          · simp only at hij ⊢
            by_cases e : i = j
            · subst e
              rw [ht] at ht'
              have : t = t' := by omega
              subst this
              exact g2.1 t (by show tb ((2 ^ t : Nat) : Int) t = true; rw [tb_pow]; simp)
            · exact (g1.mono d hdb).1 t' (hK i hi (by omega) t' ht')
        · refine ⟨.inl (b, r, j + 1), ?_, ⟨by simp only; omega, by simp only; omega, hB, hP, hM, fun i hi hij t' ht' => ?_⟩, by simp only; omega⟩
          · simp only [labels_All_L2]
            rw [if_pos (by simpa using c), if_pos (linT hj), getI_get? hj, Option.bind_some, nth_getI hio, Option.bind_some, if_neg (by simpa using hv), hw]
          · simp only at hij
            by_cases e : i = j
            · subst e; omega
            · exact hK i hi (by omega) t' ht'
      · have : j = (membersL n d).length := by omega
        subst this
        refine ⟨.inr (b, r), by simp only [labels_All_L2]; rw [if_neg (by simp)], hB, hP, hM, fun p hp t ht => ?_⟩
        obtain ⟨i, hi, rfl⟩ := mem_getI hp
        exact hK i hi hi.2 t ht) ⟨by simp, by simp, hG, hq, fun x _ => subL.refl, fun j hj h => by have := hj.1; simp only at h; omega⟩ (by simp only; omega)
  exact ⟨b, r, e, h1, h2, h3, h4⟩
theorem labels_All_spec (hn : n.Ok) (hg : BndN n 200 100) (hf : Few of) (ho : OwnP n of) : ∃ b, labels_All n of = some (b, n.domains.length, true) ∧ AllF n of b := by
  have hs := hg.sm
  have hr := ho.2.1
  have hdl := hg.domains
  have hz : AllOk (hopD n) (leadD n) (seedP n of) n.domains.length (List.replicate n.domains.length (⟨0, 0⟩ : Labels_Label)) := by
    refine ⟨by simp, fun d hd => ?_⟩
    rw [List.eq_of_mem_replicate (getI_mem hd)]
    exact ⟨by simp, by simp, by simp, by simp, fun t h => (by have h : tb 0 t = true := h; rw [tb_zero] at h; cases h), fun t h => (by have h : tb 0 t = true := h; rw [tb_zero] at h; cases h)⟩
  have hz0 : pot (List.replicate n.domains.length (⟨0, 0⟩ : Labels_Label)) = 0 := by
    unfold pot
    rw [List.map_replicate]
    have : ∀ k, (List.replicate k (valL ⟨0, 0⟩)).sum = 0 := fun k => by
      induction k with
      | zero => rfl
      | succ k ih => rw [List.replicate_succ, List.sum_cons, ih]; rfl
    exact this _
  have hzg : ∀ d, inL (List.replicate n.domains.length (⟨0, 0⟩ : Labels_Label)) d → getI (List.replicate n.domains.length (⟨0, 0⟩ : Labels_Label)) d = ⟨0, 0⟩ := fun d hd => List.eq_of_mem_replicate (getI_mem hd)
  generalize hzz : List.replicate n.domains.length (⟨0, 0⟩ : Labels_Label) = z at *
  obtain ⟨⟨b, r⟩, e, h1, h2, h3⟩ := loopM_rule (f := fun s : (List Labels_Label) × (List Labels_queued) × Int => match s with | (l10, l11, v12) => labels_All_L1 n of (mkG n.domains.length (hopD n)) (mkG n.domains.length (leadD n)) l10 l11 v12)
    (fun s => 0 ≤ s.2.2 ∧ s.2.2 ≤ n.domains.length ∧ Grown (hopD n) (leadD n) (seedP n of) n.domains.length z [] s.1 s.2.1 ∧ (s.2.1.length : Int) ≤ pot s.1 ∧ ∀ d t, seedP n of d t → d < s.2.2 → tb (getI s.1 d).plain t = true)
    (fun r => Grown (hopD n) (leadD n) (seedP n of) n.domains.length z [] r.1 r.2 ∧ (r.2.length : Int) ≤ pot r.1 ∧ ∀ d t, seedP n of d t → tb (getI r.1 d).plain t = true)
    (fun s => (n.domains.length - s.2.2).toNat) (s := (z, [], 0)) (fun s hI => by
      obtain ⟨b, r, j⟩ := s
      obtain ⟨j0, j1, hB, hP, hK⟩ := hI
      simp only at j0 j1 hB hP hK ⊢
      by_cases c : j < (n.domains.length : Int)
      · have hj : inL n.domains j := ⟨j0, c⟩
        obtain ⟨b', r', e1, k1, k2, k3, k4⟩ := seed_in hg ho hj (u := mkG n.domains.length (hopD n)) (v := mkG n.domains.length (leadD n)) hz (by omega) hB hP
        refine ⟨.inl (b', r', j + 1), ?_, ⟨by simp only; omega, by simp only; omega, k1, k2, fun d t hdt hlt => ?_⟩, by simp only; omega⟩
        · simp only [labels_All_L1]
          rw [if_pos (by simpa using c), names_Members_spec hs, if_pos ⟨hr, hj⟩, Option.bind_some]
          rw [e1, Option.bind_some, wr64 (by omega) (by omega)]
        · simp only at hlt ⊢
          by_cases e : d = j
          · subst e
            obtain ⟨_, p, hp, hpt⟩ := hdt
            exact k4 p hp t hpt
          · exact (k3 d hdt.1).1 t (hK d t hdt (by omega))
      · have : j = n.domains.length := by omega
        subst this
        refine ⟨.inr (b, r), by simp only [labels_All_L1]; rw [if_neg (by simp)], hB, hP, fun d t hdt => hK d t hdt hdt.1.2⟩) ⟨by simp, by simp, Grown.refl hz, by simp only [List.length_nil]; omega, fun d t hdt h => by have := hdt.1.1; simp only at h; omega⟩ (by simp only; omega)
  simp only at h1 h2 h3
  obtain ⟨ee, hre, ee1, ee2⟩ := h1.ext
  rw [List.nil_append] at hre
  subst hre
  obtain ⟨b', r', k, e2, g1, g2, g3⟩ := run_spec (S := seedP n of) (n := n) hdl hr (fun d => by
      by_cases hd : inL n.domains d
      · refine .inl ?_
        unfold hopD; rw [List.length_map]
        have := hopsI_len hg hd; omega
      · exact .inr hd) hg.irbs (a1 := n.devices) (a2 := n.ports) (a3 := n.links) (a4 := n.domains) (a5 := n.statics) (a6 := n.floods) (a7 := n.vrfs) (a8 := n.irbs) (n10 := n.domains.length) h1.ok h2 ee1 (fun d hd => by
      have hzd : inL z d := ⟨hd.1, by have := hd.2; have := h1.ok.1; have := hz.1; omega⟩
      rcases ee2 d hzd with h | h
      · exact .inl (h.trans (hzg d hzd))
      · exact .inr h)
  have hbl := h1.ok.1
  have hcl := closed_all (N := n.domains.length) (S := seedP n of) (hopD_in hr) (leadD_in hr) (fun d t h => h.1) g3 (fun d t h => (g2 d ⟨h.1.1, by have := h.1.2; omega⟩).1 t (h3 d t h))
  have hin : ∀ d, inL n.domains d → inL b' d := fun d hd => ⟨hd.1, by have := hd.2; have := g1.1; omega⟩
  refine ⟨b', ?_, g1, g3, fun d hd t => ⟨(g1.2 d (hin d hd)).sp t, fun h => by simpa using (hcl false d t h).2⟩, fun d hd t => ⟨(g1.2 d (hin d hd)).sl t, fun h => by simpa using (hcl true d t h).2⟩⟩
  simp only [labels_All, owners_Right_spec hs hf, Option.bind_some, decide_eq_true ho, Bool.not_true, Bool.false_eq_true, if_false, begin_spec hn hg hr, Int.toNat_natCast]
  rw [hzz, e, Option.bind_some]
  simp only
  rw [e2]; rfl
end
end Go.Eng

set_option linter.unusedVariables false
set_option linter.unusedSectionVars false
set_option linter.unusedSimpArgs false
namespace Go.Eng
open Go Classical
attribute [local congr] ite_cg

/-! ### Rounds over true and false -/
section

end
section

end
section


end
end Go.Eng

set_option linter.unusedVariables false
set_option linter.unusedSectionVars false
set_option linter.unusedSimpArgs false
namespace Go.Eng
open Go Classical
attribute [local congr] ite_cg

section

end
end Go.Eng

set_option linter.unusedVariables false
set_option linter.unusedSectionVars false
set_option linter.unusedSimpArgs false
namespace Go.Eng
open Go Classical
attribute [local congr] ite_cg

section
variable {n : Api_Net} {of : List Int}
/-! ### All labels -/
noncomputable def setN (P : Nat → Prop) : Nat → Int
  | 0 => 0
  | k + 1 => setN P k + if P k then ((2 ^ k : Nat) : Int) else 0
theorem setN_nat (P : Nat → Prop) : ∀ k, ∃ m : Nat, setN P k = (m : Int) ∧ m < 2 ^ k ∧ ∀ t, m.testBit t = decide (t < k ∧ P t)
  | 0 => ⟨0, rfl, by simp, fun t => by simp⟩
  | k + 1 => by
    obtain ⟨m, e, h1, h2⟩ := setN_nat P k
    by_cases c : P k
    · refine ⟨2 ^ k + m, by rw [setN, e, if_pos c]; omega, by rw [Nat.pow_succ]; omega, fun t => ?_⟩
      by_cases e1 : t = k
      · subst e1
        rw [Nat.testBit_two_pow_add_eq, h2]
        simp [c]
      · by_cases e2 : t < k
        · rw [Nat.testBit_two_pow_add_gt (by omega), h2]
          simp [e2, show t < k + 1 by omega]
        · have : 2 ^ k + m < 2 ^ t := by
            have h3 : 2 ^ (k + 1) ≤ 2 ^ t := Nat.pow_le_pow_right (by decide) (by omega)
            rw [Nat.pow_succ] at h3
            omega
          rw [Nat.testBit_lt_two_pow this]
          simp [show ¬ t < k + 1 by omega]
    · refine ⟨m, by rw [setN, e, if_neg c]; omega, by rw [Nat.pow_succ]; omega, fun t => ?_⟩
      rw [h2]
      by_cases e1 : t = k
      · subst e1; simp [c]
      · have : t < k + 1 ↔ t < k := by omega
        simp [this]
theorem setN_b (P : Nat → Prop) : 0 ≤ setN P 10 ∧ setN P 10 < 1024 ∧ ∀ t, tb (setN P 10) t = decide (t < 10 ∧ P t) := by
  obtain ⟨m, e, h1, h2⟩ := setN_nat P 10
  rw [e]
  exact ⟨by omega, by omega, fun t => by unfold tb; rw [Int.toNat_natCast]; exact h2 t⟩
end
end Go.Eng

set_option linter.unusedVariables false
set_option linter.unusedSectionVars false
set_option linter.unusedSimpArgs false
namespace Go.Eng
open Go Classical
attribute [local congr] ite_cg

theorem shift_bit {x : Int} (x0 : 0 ≤ x) (x1 : x < 1000000000000) {t : Nat} (ht : t ≤ 64) : bits_and .i64 (Int.fdiv x (2 ^ (min (Int.toNat (t : Int)) 64))) 1 = if tb x t = true then 1 else 0 := by
  have hm : min (Int.toNat (t : Int)) 64 = t := by omega
  rw [hm]
  have e1 : Int.fdiv x (2 ^ t) = ((x.toNat / 2 ^ t : Nat) : Int) := by
    rw [Int.fdiv_eq_ediv_of_nonneg _ (by exact Int.le_of_lt (Int.pow_pos (by decide)))]
    conv => lhs; rw [show x = ((x.toNat : Nat) : Int) by omega]
    simp
  have hle : x.toNat / 2 ^ t ≤ x.toNat := Nat.div_le_self _ _
  rw [e1]
  generalize hy : x.toNat / 2 ^ t = y at *
  have e2 : (BitVec.ofInt 64 ((y : Nat) : Int) &&& BitVec.ofInt 64 1).toNat = y % 2 := by
    rw [ofInt_nat _ _ (Int.natCast_nonneg _), ofInt_nat _ _ (by decide), BitVec.toNat_and, BitVec.toNat_ofNat, BitVec.toNat_ofNat, Int.toNat_natCast, Nat.mod_eq_of_lt (by omega)]
    exact Nat.and_one_is_mod y
  show wr_i64 (((BitVec.ofInt 64 ((y : Nat) : Int) &&& BitVec.ofInt 64 1).toNat : Nat) : Int) = _
  rw [e2, wr64 (by omega) (by omega)]
  unfold tb
  rw [Nat.testBit_eq_decide_div_mod_eq, hy]
  by_cases c : y % 2 = 1
  · rw [if_pos (decide_eq_true c), c]; rfl
  · rw [if_neg (by simpa using c), show y % 2 = 0 by omega]; rfl
end Go.Eng

set_option linter.unusedVariables false
set_option linter.unusedSectionVars false
set_option linter.unusedSimpArgs false
namespace Go.Eng
open Go Classical
attribute [local congr] ite_cg

section
variable {n : Api_Net} {of : List Int}
theorem der_seed {k : Bool} {d : Int} {t : Nat} (h : DerN n of k d t) : ∃ x p, p ∈ membersL n x ∧ getI of p = (t : Int) := by
  induction h with
  | @seed d t h => exact ⟨d, h.2.choose, h.2.choose_spec⟩
  | hop _ _ ih => exact ih
  | route _ _ ih => exact ih
def hasP (x t : Int) : Prop := 0 ≤ t ∧ t < 10 ∧ tb x t.toNat = true
theorem has_spec {x t : Int} (x0 : 0 ≤ x) (x1 : x < 1000000000000) : labels_has x t = some (decide (hasP x t)) := by
  unfold labels_has hasP
  by_cases c1 : t ≥ 0
  · by_cases c2 : t < 10
    · rw [if_pos (by simpa using c1), if_pos (by simpa using c2), if_pos (by simpa using c1)]
      have h := shift_bit x0 x1 (t := t.toNat) (by omega)
      rw [show ((t.toNat : Nat) : Int) = t by omega] at h
      rw [h]
      cases c3 : tb x t.toNat <;> simp [c1, c2]
    · rw [if_pos (by simpa using c1), if_neg (by simpa using c2)]; simp [c2]
  · rw [if_neg (by simpa using c1)]; simp; omega
end
end Go.Eng

set_option linter.unusedVariables false
set_option linter.unusedSectionVars false
set_option linter.unusedSimpArgs false
namespace Go.Eng
open Go Classical
attribute [local congr] ite_cg
section
end
end Go.Eng

set_option linter.unusedVariables false
set_option linter.unusedSectionVars false
set_option linter.unusedSimpArgs false
namespace Go.Eng
open Go Classical
attribute [local congr] ite_cg

section
variable {n : Api_Net} {of : List Int}
def inPort (n : Api_Net) (of : List Int) (p : Int) (t : Nat) : Prop := ∃ d, inL n.domains d ∧ p ∈ membersL n d ∧ (DerN n of false d t ∨ DerN n of true d t)
theorem ports_in (hg : BndN n 200 100) (ho : OwnP n of) {b : List Labels_Label} (hb : AllF n of b) {d : Int} (hd : inL n.domains d) {n6 : Nat} {q : List Int} (hq : q.length = n.ports.length) (hqb : ∀ p, inL n.ports p → 0 ≤ getI q p ∧ getI q p < 1024) :
    ∃ r, loopM (fun s : (List Int) × Int => match s with | (l19, v20) => labels_Ports_L2 n of b n6 d (getI b d) (membersL n d) l19 v20) (q, 0) = some r ∧ r.length = n.ports.length ∧
      ∀ p, inL n.ports p → (0 ≤ getI r p ∧ getI r p < 1024) ∧ ∀ t, tb (getI r p) t = true ↔ tb (getI q p) t = true ∨ 0 ≤ getI of p ∧ p ∈ membersL n d ∧ (DerN n of false d t ∨ DerN n of true d t) := by
  have hml : (membersL n d).length ≤ 200 := Nat.le_trans membersL_len hg.ports
  have hlb := hb.ok.2 d ⟨hd.1, by have := hd.2; have := hb.ok.1; omega⟩
  obtain ⟨_, u0, u1, u2⟩ := or64_b hlb.p0 hlb.p1 hlb.l0 hlb.l1
  have u3 : ∀ t, tb (bits_or .i64 (getI b d).plain (getI b d).led) t = true ↔ DerN n of false d t ∨ DerN n of true d t := fun t => by
    rw [u2 t, Bool.or_eq_true, hb.plain d hd t, hb.led d hd t]
  obtain ⟨r, e, h1, h2⟩ := loopM_rule (f := fun s : (List Int) × Int => match s with | (l19, v20) => labels_Ports_L2 n of b n6 d (getI b d) (membersL n d) l19 v20)
    (fun s => 0 ≤ s.2 ∧ s.2 ≤ (membersL n d).length ∧ s.1.length = n.ports.length ∧ ∀ p, inL n.ports p → (0 ≤ getI s.1 p ∧ getI s.1 p < 1024) ∧ ∀ t, tb (getI s.1 p) t = true ↔ tb (getI q p) t = true ∨ 0 ≤ getI of p ∧ (∃ k, inL (membersL n d) k ∧ k < s.2 ∧ getI (membersL n d) k = p) ∧ (DerN n of false d t ∨ DerN n of true d t))
    (fun r => r.length = n.ports.length ∧ ∀ p, inL n.ports p → (0 ≤ getI r p ∧ getI r p < 1024) ∧ ∀ t, tb (getI r p) t = true ↔ tb (getI q p) t = true ∨ 0 ≤ getI of p ∧ p ∈ membersL n d ∧ (DerN n of false d t ∨ DerN n of true d t))
    (fun s => ((membersL n d).length - s.2).toNat) (s := (q, 0)) (fun s hI => by
      obtain ⟨r, j⟩ := s
      obtain ⟨j0, j1, hr, hK⟩ := hI
      simp only at j0 j1 hr hK ⊢
      by_cases c : j < ((membersL n d).length : Int)
      · have hj : inL (membersL n d) j := ⟨j0, c⟩
        have hpp := membersL_in (getI_mem hj)
        obtain ⟨hio, _⟩ := owner_ok ho hpp
        have hw := wr64 (n := j + 1) (by omega) (by omega)
        have hpr : inL r (getI (membersL n d) j) := ⟨hpp.1, by have := hpp.2; omega⟩
        by_cases hv : 0 ≤ getI of (getI (membersL n d) j)
        · obtain ⟨⟨k0, k1⟩, k2⟩ := hK _ hpp
          obtain ⟨_, w0, w1, w2⟩ := or64_b k0 k1 u0 u1
          refine ⟨.inl (r.set (getI (membersL n d) j).toNat (bits_or .i64 (getI r (getI (membersL n d) j)) (bits_or .i64 (getI b d).plain (getI b d).led)), j + 1), ?_, ⟨by simp only; omega, by simp only; omega, by simp only [List.length_set]; exact hr, fun p hp => ?_⟩, by simp only; omega⟩
          · simp only [labels_Ports_L2]
            rw [if_pos (by simpa using c), if_pos (linT hj), getI_get? hj, Option.bind_some, nth_getI hio, Option.bind_some, if_pos (by simpa using hv), if_pos (linT hpr), getI_get? hpr, Option.bind_some, Option.bind_some, hw]
          · simp only
            rw [getI_setI hpr ⟨hp.1, by have := hp.2; omega⟩]
            by_cases e : p = getI (membersL n d) j
            · rw [if_pos e]
              refine ⟨⟨w0, w1⟩, fun t => ?_⟩
              rw [w2 t, Bool.or_eq_true, u3 t, k2 t, ← e]
              constructor
              · rintro ((h | ⟨h1, ⟨k, q1, q2, q3⟩, h2⟩) | h)
                · exact .inl h
                · exact .inr ⟨h1, ⟨k, q1, by omega, q3⟩, h2⟩
                · exact .inr ⟨by rw [e]; exact hv, ⟨j, hj, by omega, e.symm⟩, h⟩
              · rintro (h | ⟨h1, ⟨k, q1, q2, q3⟩, h2⟩)
                · exact .inl (.inl h)
                · exact .inr h2
            · rw [if_neg e]
              obtain ⟨m1, m2⟩ := hK p hp
              refine ⟨m1, fun t => (m2 t).trans ⟨?_, ?_⟩⟩
              · rintro (h | ⟨h1, ⟨k, q1, q2, q3⟩, h2⟩)
                · exact .inl h
                · exact .inr ⟨h1, ⟨k, q1, by omega, q3⟩, h2⟩
              · rintro (h | ⟨h1, ⟨k, q1, q2, q3⟩, h2⟩)
                · exact .inl h
                · refine .inr ⟨h1, ⟨k, q1, ?_, q3⟩, h2⟩
                  by_cases e2 : k = j
                  · subst e2; exact absurd q3.symm e
                  · omega
        · refine ⟨.inl (r, j + 1), ?_, ⟨by simp only; omega, by simp only; omega, hr, fun p hp => ?_⟩, by simp only; omega⟩
          · simp only [labels_Ports_L2]
            rw [if_pos (by simpa using c), if_pos (linT hj), getI_get? hj, Option.bind_some, nth_getI hio, Option.bind_some, if_neg (by simpa using hv), hw]
          · obtain ⟨m1, m2⟩ := hK p hp
            refine ⟨m1, fun t => (m2 t).trans ⟨?_, ?_⟩⟩
            · rintro (h | ⟨h1, ⟨k, q1, q2, q3⟩, h2⟩)
              · exact .inl h
              · exact .inr ⟨h1, ⟨k, q1, by simp only; omega, q3⟩, h2⟩
            · rintro (h | ⟨h1, ⟨k, q1, q2, q3⟩, h2⟩)
              · exact .inl h
              · refine .inr ⟨h1, ⟨k, q1, ?_, q3⟩, h2⟩
                simp only at q2
                by_cases e2 : k = j
                · subst e2; rw [q3] at hv; exact absurd h1 hv
                · omega
      · have : j = (membersL n d).length := by omega
        subst this
        refine ⟨.inr r, by simp only [labels_Ports_L2]; rw [if_neg (by simp)], hr, fun p hp => ?_⟩
        obtain ⟨m1, m2⟩ := hK p hp
        refine ⟨m1, fun t => (m2 t).trans ⟨?_, ?_⟩⟩
        · rintro (h | ⟨h1, ⟨k, q1, q2, q3⟩, h2⟩)
          · exact .inl h
          · exact .inr ⟨h1, by rw [← q3]; exact getI_mem q1, h2⟩
        · rintro (h | ⟨h1, hm, h2⟩)
          · exact .inl h
          · obtain ⟨k, q1, q3⟩ := mem_getI hm
            exact .inr ⟨h1, ⟨k, q1, q1.2, q3⟩, h2⟩) ⟨by simp, by simp, hq, fun p hp => ⟨hqb p hp, fun t => ⟨.inl, fun h => h.elim id (fun ⟨_, ⟨k, k1, k2, _⟩, _⟩ => by have := k1.1; simp only at k2; omega)⟩⟩⟩ (by simp only; omega)
  exact ⟨r, e, h1, h2⟩
theorem labels_Ports_spec (hn : n.Ok) (hg : BndN n 200 100) (hf : Few of) (ho : OwnP n of) :
    ∃ r, labels_Ports n of = some (r, n.ports.length, true) ∧ r.length = n.ports.length ∧ ∀ p, inL n.ports p → 0 ≤ getI r p ∧ ∀ t, tb (getI r p) t = true ↔ 0 ≤ getI of p ∧ inPort n of p t := by
  have hs := hg.sm
  have hr := ho.2.1
  have hdl := hg.domains
  have hpl := hg.ports
  have hmk : mkok 8 (n.ports.length : Int) (n.ports.length : Int) = true := by unfold mkok; simp; omega
  obtain ⟨b, e, hb⟩ := labels_All_spec hn hg hf ho
  have hbl := hb.ok.1
  have hrep : ∀ p, inL n.ports p → getI (List.replicate n.ports.length (0 : Int)) p = 0 := fun p hp => List.eq_of_mem_replicate (getI_mem ⟨hp.1, by simpa using hp.2⟩)
  obtain ⟨r, e2, h1, h2⟩ := loopM_rule (f := fun s : (List Int) × Int => match s with | (l10, v11) => labels_Ports_L1 n of b n.domains.length l10 v11)
    (fun s => 0 ≤ s.2 ∧ s.2 ≤ n.domains.length ∧ s.1.length = n.ports.length ∧ ∀ p, inL n.ports p → (0 ≤ getI s.1 p ∧ getI s.1 p < 1024) ∧ ∀ t, tb (getI s.1 p) t = true ↔ 0 ≤ getI of p ∧ ∃ d, inL n.domains d ∧ d < s.2 ∧ p ∈ membersL n d ∧ (DerN n of false d t ∨ DerN n of true d t))
    (fun r => r.length = n.ports.length ∧ ∀ p, inL n.ports p → 0 ≤ getI r p ∧ ∀ t, tb (getI r p) t = true ↔ 0 ≤ getI of p ∧ inPort n of p t)
    (fun s => (n.domains.length - s.2).toNat) (s := (List.replicate n.ports.length (0 : Int), 0)) (fun s hI => by
      obtain ⟨q, j⟩ := s
      obtain ⟨j0, j1, hq, hK⟩ := hI
      simp only at j0 j1 hq hK ⊢
      by_cases c : j < (n.domains.length : Int)
      · have hj : inL n.domains j := ⟨j0, c⟩
        have hjb : inL b j := ⟨j0, by omega⟩
        obtain ⟨q', k1, k2, k3⟩ := ports_in hg ho hb hj (n6 := n.domains.length) hq (fun p hp => (hK p hp).1)
        refine ⟨.inl (q', j + 1), ?_, ⟨by simp only; omega, by simp only; omega, k2, fun p hp => ?_⟩, by simp only; omega⟩
        · simp only [labels_Ports_L1]
          rw [if_pos (by simpa using c), if_pos (linT hjb), getI_get? hjb, Option.bind_some, names_Members_spec hs, if_pos ⟨hr, hj⟩, Option.bind_some]
          rw [k1, Option.bind_some, wr64 (by omega) (by omega)]
        · obtain ⟨m1, m2⟩ := k3 p hp
          refine ⟨m1, fun t => ?_⟩
          simp only
          rw [m2 t, (hK p hp).2 t]
          constructor
          · rintro (⟨h1, d, d1, d2, d3, d4⟩ | ⟨h1, h2, h3⟩)
            · exact ⟨h1, d, d1, by omega, d3, d4⟩
            · exact ⟨h1, j, hj, by omega, h2, h3⟩
          · rintro ⟨h1, d, d1, d2, d3, d4⟩
            by_cases e : d = j
            · subst e; exact .inr ⟨h1, d3, d4⟩
            · exact .inl ⟨h1, d, d1, by omega, d3, d4⟩
      · have : j = n.domains.length := by omega
        subst this
        refine ⟨.inr q, by simp only [labels_Ports_L1]; rw [if_neg (by simp)], hq, fun p hp => ⟨(hK p hp).1.1, fun t => ((hK p hp).2 t).trans ⟨?_, ?_⟩⟩⟩
        · rintro ⟨h1, d, d1, _, d3, d4⟩; exact ⟨h1, d, d1, d3, d4⟩
        · rintro ⟨h1, d, d1, d3, d4⟩; exact ⟨h1, d, d1, d1.2, d3, d4⟩) ⟨by simp, by simp, by simp, fun p hp => by
        rw [hrep p hp]
        exact ⟨by simp, fun t => ⟨fun h => (by rw [tb_zero] at h; cases h), fun ⟨_, d, d1, d2, _⟩ => by have := d1.1; simp only at d2; omega⟩⟩⟩ (by simp only; omega)
  refine ⟨r, ?_, h1, h2⟩
  simp only [labels_Ports, e, Option.bind_some, Bool.not_true, Bool.false_eq_true, if_false, hmk, if_true, Int.toNat_natCast]
  rw [e2]; rfl
/-! ### The reference's sets -/
end
end Go.Eng
