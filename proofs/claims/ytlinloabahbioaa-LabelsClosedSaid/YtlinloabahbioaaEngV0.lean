/- Plain laws of sets of labels: bits; what spreads over hops and routes. -/
import Derived.Test.YtlinloabahbioaaEngPR
import Derived.Test.YtlinloabahbioaaEngPB
set_option linter.unusedVariables false
set_option linter.unusedSectionVars false
set_option linter.unusedSimpArgs false
namespace Go.Eng
open Go Classical

/-! ### Bits -/
def tb (x : Int) (t : Nat) : Bool := x.toNat.testBit t
theorem or64 {a b : Int} (a0 : 0 ≤ a) (a1 : a < 1024) (b0 : 0 ≤ b) (b1 : b < 1024) : bits_or .i64 a b = ((a.toNat ||| b.toNat : Nat) : Int) := by
  have e : (BitVec.ofInt 64 a ||| BitVec.ofInt 64 b).toNat = a.toNat ||| b.toNat := by
    rw [ofInt_nat _ _ a0, ofInt_nat _ _ b0, BitVec.toNat_or, BitVec.toNat_ofNat, BitVec.toNat_ofNat, Nat.mod_eq_of_lt (by omega), Nat.mod_eq_of_lt (by omega)]
  have hl : a.toNat ||| b.toNat < 2 ^ 10 := Nat.or_lt_two_pow (by omega) (by omega)
  show wr_i64 (((BitVec.ofInt 64 a ||| BitVec.ofInt 64 b).toNat : Nat) : Int) = _
  rw [e, wr64 (by omega) (by omega)]
theorem or64_b {a b : Int} (a0 : 0 ≤ a) (a1 : a < 1024) (b0 : 0 ≤ b) (b1 : b < 1024) : a ≤ bits_or .i64 a b ∧ 0 ≤ bits_or .i64 a b ∧ bits_or .i64 a b < 1024 ∧ ∀ t, tb (bits_or .i64 a b) t = (tb a t || tb b t) := by
  rw [or64 a0 a1 b0 b1]
  have hl : a.toNat ||| b.toNat < 2 ^ 10 := Nat.or_lt_two_pow (by omega) (by omega)
  have hg : a.toNat ≤ a.toNat ||| b.toNat := Nat.left_le_or
  refine ⟨by omega, by omega, by omega, fun t => ?_⟩
  unfold tb
  rw [Int.toNat_natCast, Nat.testBit_or]
theorem tb_eq {a b : Int} (a0 : 0 ≤ a) (b0 : 0 ≤ b) (h : ∀ t, tb a t = tb b t) : a = b := by
  have : a.toNat = b.toNat := Nat.eq_of_testBit_eq h
  omega
theorem tb_high {a : Int} (a0 : 0 ≤ a) (a1 : a < 1024) {t : Nat} (ht : 10 ≤ t) : tb a t = false := by
  unfold tb
  have h2 : 2 ^ 10 ≤ 2 ^ t := Nat.pow_le_pow_right (by decide) ht
  exact Nat.testBit_lt_two_pow (by omega)
theorem tb_pow {k t : Nat} : tb ((2 ^ k : Nat) : Int) t = decide (k = t) := by
  unfold tb
  rw [Int.toNat_natCast, Nat.testBit_two_pow]
theorem tb_zero {t : Nat} : tb 0 t = false := by simp [tb]
theorem pow_1024 {k : Nat} (h : k < 10) : ((2 ^ k : Nat) : Int) < 1024 := by
  have : 2 ^ k < 2 ^ 10 := Nat.pow_lt_pow_right (by decide) h
  omega

/-! ### What spreads -/
inductive Der (E R : Int → List Int) (S : Int → Nat → Prop) : Bool → Int → Nat → Prop
  | seed {d : Int} {t : Nat} (h : S d t) : Der E R S false d t
  | hop {k : Bool} {d x : Int} {t : Nat} (h : Der E R S k d t) (hx : x ∈ E d) : Der E R S k x t
  | route {d x : Int} {t : Nat} (h : Der E R S false d t) (hx : x ∈ R d) : Der E R S true x t

/-- All of one label is in another one. -/
def subL (x y : Labels_Label) : Prop := (∀ t, tb x.plain t = true → tb y.plain t = true) ∧ ∀ t, tb x.led t = true → tb y.led t = true
theorem subL.refl {x : Labels_Label} : subL x x := ⟨fun _ h => h, fun _ h => h⟩
theorem subL.trans {x y z : Labels_Label} (h : subL x y) (g : subL y z) : subL x z := ⟨fun t a => g.1 t (h.1 t a), fun t a => g.2 t (h.2 t a)⟩
section
variable (E R : Int → List Int) (S : Int → Nat → Prop) (N : Nat)
/-- A label that may be at a place: nothing there that did not spread there. -/
structure LbOk (d : Int) (x : Labels_Label) : Prop where
  p0 : 0 ≤ x.plain
  p1 : x.plain < 1024
  l0 : 0 ≤ x.led
  l1 : x.led < 1024
  sp : ∀ t, tb x.plain t = true → Der E R S false d t
  sl : ∀ t, tb x.led t = true → Der E R S true d t
def AllOk (all : List Labels_Label) : Prop := all.length = N ∧ ∀ d, inL all d → LbOk E R S d (getI all d)
variable {E R S N}
def valL (x : Labels_Label) : Int := x.plain + x.led
def pot (all : List Labels_Label) : Int := (all.map valL).sum
theorem sum_set : ∀ (l : List Int) (k : Nat) (x y : Int), l[k]? = some y → (l.set k x).sum = l.sum - y + x
  | [], k, x, y, h => by simp at h
  | a :: l, 0, x, y, h => by simp at h; subst h; simp; omega
  | a :: l, k + 1, x, y, h => by
    simp at h
    have := sum_set l k x y (by simpa using h)
    simp [this]; omega
theorem pot_set {all : List Labels_Label} {d : Int} {x : Labels_Label} (hd : inL all d) : pot (all.set d.toNat x) = pot all - valL (getI all d) + valL x := by
  unfold pot
  rw [List.map_set]
  exact sum_set _ _ _ _ (by rw [List.getElem?_map, getI_get? hd]; rfl)
theorem sum_le {M : Int} : ∀ (l : List Int), (∀ x ∈ l, x ≤ M) → l.sum ≤ M * l.length
  | [], _ => by simp
  | a :: l, h => by
    have := sum_le l (fun x hx => h x (by simp [hx]))
    have := h a (by simp)
    simp [Int.mul_add]; omega
theorem pot_le {all : List Labels_Label} (h : AllOk E R S N all) : pot all ≤ 2046 * N := by
  have := sum_le (M := 2046) (all.map valL) (fun x hx => by
    obtain ⟨y, hy, rfl⟩ := List.mem_map.1 hx
    obtain ⟨d, hd, rfl⟩ := mem_getI hy
    have := h.2 d hd
    have := this.p1; have := (h.2 d hd).l1
    unfold valL; omega)
  rw [List.length_map, h.1] at this
  exact this
/-- Labels grew, and who grew waits. -/
structure Grown (E R : Int → List Int) (S : Int → Nat → Prop) (N : Nat) (a : List Labels_Label) (q : List Labels_queued) (b : List Labels_Label) (r : List Labels_queued) : Prop where
  ok : AllOk E R S N b
  mono : ∀ d, inL a d → subL (getI a d) (getI b d)
  ext : ∃ e, r = q ++ e ∧ (∀ x ∈ e, x.done = false ∧ 0 ≤ x.task.domain ∧ x.task.domain < N) ∧ ∀ d, inL a d → getI b d = getI a d ∨ ∃ x ∈ e, x.task.domain = d
  pot : (r.length : Int) - q.length ≤ pot b - pot a
theorem Grown.refl {a : List Labels_Label} {q : List Labels_queued} (h : AllOk E R S N a) : Grown E R S N a q a q :=
  ⟨h, fun _ _ => subL.refl, ⟨[], by simp, by simp, fun _ _ => .inl rfl⟩, by omega⟩
theorem Grown.trans {a b c : List Labels_Label} {q r s : List Labels_queued} (ha : AllOk E R S N a) (h : Grown E R S N a q b r) (g : Grown E R S N b r c s) : Grown E R S N a q c s := by
  obtain ⟨e, rfl, e1, e2⟩ := h.ext
  obtain ⟨f, rfl, f1, f2⟩ := g.ext
  have hin : ∀ d, inL a d → inL b d := fun d hd => ⟨hd.1, by have := hd.2; have := ha.1; have := h.ok.1; omega⟩
  refine ⟨g.ok, fun d hd => (h.mono d hd).trans (g.mono d (hin d hd)), ⟨e ++ f, by simp, fun x hx => ?_, fun d hd => ?_⟩, by have := h.pot; have := g.pot; omega⟩
  · rcases List.mem_append.1 hx with hx | hx
    · exact e1 x hx
    · exact f1 x hx
  · rcases f2 d (hin d hd) with h1 | ⟨x, hx, h1⟩
    · rcases e2 d hd with h2 | ⟨x, hx, h2⟩
      · exact .inl (h1.trans h2)
      · exact .inr ⟨x, by simp [hx], h2⟩
    · exact .inr ⟨x, by simp [hx], h1⟩
def orL (x y : Labels_Label) : Labels_Label := ⟨bits_or .i64 x.plain y.plain, bits_or .i64 x.led y.led⟩
theorem orL_ok {d : Int} {x y : Labels_Label} (hx : LbOk E R S d x) (hy : LbOk E R S d y) : LbOk E R S d (orL x y) ∧ subL x (orL x y) ∧ subL y (orL x y) ∧ (orL x y ≠ x → valL x + 1 ≤ valL (orL x y)) := by
  obtain ⟨a1, a2, a3, a4⟩ := or64_b hx.p0 hx.p1 hy.p0 hy.p1
  obtain ⟨b1, b2, b3, b4⟩ := or64_b hx.l0 hx.l1 hy.l0 hy.l1
  refine ⟨⟨a2, a3, b2, b3, fun t h => ?_, fun t h => ?_⟩, ⟨fun t h => ?_, fun t h => ?_⟩, ⟨fun t h => ?_, fun t h => ?_⟩, fun h => ?_⟩
  · have h : tb (bits_or .i64 x.plain y.plain) t = true := h
    rw [a4 t, Bool.or_eq_true] at h
    exact h.elim (hx.sp t) (hy.sp t)
  · have h : tb (bits_or .i64 x.led y.led) t = true := h
    rw [b4 t, Bool.or_eq_true] at h
    exact h.elim (hx.sl t) (hy.sl t)
  · show tb (bits_or .i64 x.plain y.plain) t = true
    rw [a4 t, h]; rfl
  · show tb (bits_or .i64 x.led y.led) t = true
    rw [b4 t, h]; rfl
  · show tb (bits_or .i64 x.plain y.plain) t = true
    rw [a4 t, h]; simp
  · show tb (bits_or .i64 x.led y.led) t = true
    rw [b4 t, h]; simp
  · show x.plain + x.led + 1 ≤ bits_or .i64 x.plain y.plain + bits_or .i64 x.led y.led
    by_cases e1 : bits_or .i64 x.plain y.plain = x.plain
    · by_cases e2 : bits_or .i64 x.led y.led = x.led
      · exact absurd (show orL x y = x by unfold orL; rw [e1, e2]) h
      · omega
    · omega
/-- What growing does. -/
noncomputable def growF (all : List Labels_Label) (q : List Labels_queued) (d : Int) (y : Labels_Label) : List Labels_Label × List Labels_queued :=
  if orL (getI all d) y ≠ getI all d then (all.set d.toNat (orL (getI all d) y), q ++ [⟨⟨d⟩, false⟩]) else (all, q)
theorem growF_ok {all : List Labels_Label} {q : List Labels_queued} {d : Int} {y : Labels_Label} (h : AllOk E R S N all) (hd : inL all d) (hy : LbOk E R S d y) :
    Grown E R S N all q (growF all q d y).1 (growF all q d y).2 ∧ subL y (getI (growF all q d y).1 d) := by
  obtain ⟨o1, o2, o3, o4⟩ := orL_ok (h.2 d hd) hy
  unfold growF
  by_cases c : orL (getI all d) y ≠ getI all d
  · rw [if_pos c]
    have hgs : ∀ x, inL all x → getI (all.set d.toNat (orL (getI all d) y)) x = if x = d then orL (getI all d) y else getI all x := fun x hx => getI_setI hd hx
    refine ⟨⟨⟨by rw [List.length_set]; exact h.1, fun x hx => ?_⟩, fun x hx => ?_, ⟨[⟨⟨d⟩, false⟩], rfl, fun x hx => ?_, fun x hx => ?_⟩, ?_⟩, ?_⟩
    · have hx := inL_setI.1 hx
      rw [hgs x hx]
      by_cases e : x = d
      · rw [if_pos e, e]; exact o1
      · rw [if_neg e]; exact h.2 x hx
    · rw [hgs x hx]
      by_cases e : x = d
      · rw [if_pos e, e]; exact o2
      · rw [if_neg e]; exact subL.refl
    · simp only [List.mem_singleton] at hx
      subst hx
      have := hd.1; have := hd.2; have := h.1
      exact ⟨rfl, by simp only; omega, by simp only; omega⟩
    · rw [hgs x hx]
      by_cases e : x = d
      · exact .inr ⟨_, List.mem_singleton.2 rfl, e.symm⟩
      · rw [if_neg e]; exact .inl rfl
    · simp only
      rw [pot_set hd]
      have := o4 c
      simp; omega
    · rw [hgs d hd, if_pos rfl]; exact o3
  · rw [if_neg c]
    have c : orL (getI all d) y = getI all d := Classical.byContradiction c
    refine ⟨Grown.refl h, ?_⟩
    rw [c] at o3; exact o3
/-- Closed: all of what it says is where it leads. -/
def ClosedAt (E R : Int → List Int) (all : List Labels_Label) (d : Int) : Prop := (∀ h ∈ E d, subL (getI all d) (getI all h)) ∧ ∀ r ∈ R d, ∀ t, tb (getI all d).plain t = true → tb (getI all r).led t = true
/-- What is closed, and has its seeds, has all that spreads. -/
theorem closed_all {all : List Labels_Label} (hE : ∀ d, 0 ≤ d → d < (N : Int) → ∀ h ∈ E d, 0 ≤ h ∧ h < (N : Int)) (hR : ∀ d, 0 ≤ d → d < (N : Int) → ∀ h ∈ R d, 0 ≤ h ∧ h < (N : Int)) (hS : ∀ d t, S d t → 0 ≤ d ∧ d < (N : Int))
    (hc : ∀ d, 0 ≤ d → d < (N : Int) → ClosedAt E R all d) (hs : ∀ d t, S d t → tb (getI all d).plain t = true) :
    ∀ k d t, Der E R S k d t → (0 ≤ d ∧ d < (N : Int)) ∧ (if k then tb (getI all d).led t = true else tb (getI all d).plain t = true) := by
  intro k d t h
  induction h with
  | seed h => exact ⟨hS _ _ h, hs _ _ h⟩
  | @hop k d x t h hx ih =>
    obtain ⟨i1, i2⟩ := ih
    have hcd := (hc d i1.1 i1.2).1 x hx
    refine ⟨hE d i1.1 i1.2 x hx, ?_⟩
    cases k
    · exact hcd.1 t i2
    · exact hcd.2 t i2
  | @route d x t h hx ih =>
    obtain ⟨i1, i2⟩ := ih
    exact ⟨hR d i1.1 i1.2 x hx, (hc d i1.1 i1.2).2 x hx t i2⟩
end
end Go.Eng
