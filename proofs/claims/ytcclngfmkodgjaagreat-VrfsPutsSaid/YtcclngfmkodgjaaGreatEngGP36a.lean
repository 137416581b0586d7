/- Part of the proof of VrfsPuts: plain laws of the printed mirrors. No conditions. -/
import Derived.Test.YtcclngfmkodgjaaGreatEngGP1
import Derived.Test.YtcclngfmkodgjaaGreatEngGR15
set_option linter.unusedVariables false
set_option linter.unusedSectionVars false
set_option linter.unusedSimpArgs false
namespace Go.Eng
open Go Classical
attribute [local congr] ite_cg

/-! ### Gathering that may stop -/
/-! ### Prefixes -/
def kOf (p : Api_Prefix) : Nat := (32 - p.bits).toNat
def pw (k : Nat) : Int := ((2 ^ k : Nat) : Int)
def firstA (p : Api_Prefix) : Int := p.addr - p.addr % pw (kOf p)
def lastA (p : Api_Prefix) : Int := p.addr - p.addr % pw (kOf p) + (pw (kOf p) - 1)
structure PreOk (p : Api_Prefix) : Prop where
  b0 : 0 ≤ p.bits
  b1 : p.bits ≤ 32
  a0 : 0 ≤ p.addr
  a1 : p.addr < 4294967296
theorem pw_pos (k : Nat) : 0 < pw k := by unfold pw; have := Nat.two_pow_pos k; omega
theorem pw_le {k : Nat} (h : k ≤ 32) : pw k ≤ 4294967296 := by
  unfold pw
  have : 2 ^ k ≤ 2 ^ 32 := Nat.pow_le_pow_right (by decide) h
  omega
theorem kOf_le {p : Api_Prefix} (h : PreOk p) : kOf p ≤ 32 := by have := h.b0; unfold kOf; omega
theorem addr_rest_spec {p : Api_Prefix} (h : PreOk p) : addr_rest p = some (pw (kOf p) - 1) := by
  have h0 := h.b0; have h1 := h.b1
  unfold addr_rest
  rw [wr64 (by omega) (by omega)]
  simp only [show decide (0 ≤ 32 - p.bits) = true from decide_eq_true (by omega), if_true]
  have hk : min (32 - p.bits).toNat 32 = kOf p := by unfold kOf; omega
  rw [hk, Int.one_mul]
  have hp := pw_pos (kOf p)
  have hl := pw_le (kOf_le h)
  have e : ((2 : Int) ^ kOf p) = pw (kOf p) := by unfold pw; simp
  rw [e]
  congr 1
  by_cases hz : pw (kOf p) = 4294967296
  · rw [hz]; decide
  · have e1 : wr_u32 (pw (kOf p)) = pw (kOf p) := wr32 (by omega) (by omega)
    rw [e1, wr32 (by omega) (by omega)]
theorem addr_Right_spec {p : Api_Prefix} (h : PreOk p) : addr_Right p = some true := by
  have h0 := h.b0; have h1 := h.b1
  simp [addr_Right, h0, h1]
theorem first_le {p : Api_Prefix} (h : PreOk p) : 0 ≤ firstA p ∧ firstA p ≤ p.addr ∧ p.addr ≤ lastA p ∧ lastA p < 4294967296 := by
  have hp := pw_pos (kOf p)
  have hm := Int.emod_nonneg p.addr (by omega : pw (kOf p) ≠ 0)
  have hm2 := Int.emod_lt_of_pos p.addr hp
  have hd := Int.mul_ediv_add_emod p.addr (pw (kOf p))
  have a0 := h.a0; have a1 := h.a1
  refine ⟨?_, ?_, ?_, ?_⟩
  · unfold firstA
    have := Int.ediv_nonneg a0 (by omega : 0 ≤ pw (kOf p))
    have := Int.mul_nonneg (by omega : 0 ≤ pw (kOf p)) this
    omega
  · unfold firstA; omega
  · unfold lastA; omega
  · have := or_u32 (x := p.addr) (k := kOf p) a0 a1 (kOf_le h)
    have hw : bits_or .u32 p.addr ((2 ^ kOf p - 1 : Nat) : Int) < 4294967296 := by
      unfold bits_or IntKind.wrap
      simp [IntKind.signed, IntKind.bits]
      omega
    unfold lastA pw
    omega
def HasP (p : Api_Prefix) (a : Int) : Prop := firstA p ≤ a ∧ a ≤ lastA p
theorem hasP_div {p : Api_Prefix} {a : Int} : p.addr / pw (kOf p) = a / pw (kOf p) ↔ HasP p a := by
  have hp := pw_pos (kOf p)
  have hd := Int.mul_ediv_add_emod p.addr (pw (kOf p))
  have hd2 := Int.mul_ediv_add_emod a (pw (kOf p))
  have hm := Int.emod_nonneg a (by omega : pw (kOf p) ≠ 0)
  have hm2 := Int.emod_lt_of_pos a hp
  unfold HasP firstA lastA
  constructor
  · intro h; rw [← h] at hd2; omega
  · rintro ⟨h1, h2⟩
    have e1 : p.addr - p.addr % pw (kOf p) = pw (kOf p) * (p.addr / pw (kOf p)) := by omega
    rw [e1] at h1 h2
    have g1 : p.addr / pw (kOf p) ≤ a / pw (kOf p) := by
      rw [Int.le_ediv_iff_mul_le hp, Int.mul_comm]; exact h1
    have g2 : a / pw (kOf p) < p.addr / pw (kOf p) + 1 := by
      rw [Int.ediv_lt_iff_lt_mul hp, Int.add_mul, Int.mul_comm]; omega
    omega
theorem addr_Has_spec {p : Api_Prefix} {a : Int} (h : PreOk p) (h0 : 0 ≤ a) (h1 : a < 4294967296) : addr_Has p a = some (decide (HasP p a)) := by
  have := xorNot_u32 (x := p.addr) (y := a) (k := kOf p) h.a0 h.a1 h0 h1 (kOf_le h)
  have e : ((2 ^ kOf p - 1 : Nat) : Int) = pw (kOf p) - 1 := by unfold pw; have := Nat.two_pow_pos (kOf p); omega
  rw [e] at this
  simp only [addr_Has, addr_Right_spec h, addr_rest_spec h, Option.bind_some, if_true, ibeq]
  exact sdec (this.trans hasP_div)

/-! ### Leaks, and what an interface sees -/
section
variable {n : Api_Net}
theorem RightP.irb (hr : RightP n) {i : Int} (hi : inL n.irbs i) : IrbP n i (getI n.irbs i) := hr.irbs i hi
theorem irb_pre (ho : n.Ok) (hr : RightP n) {i : Int} (hi : inL n.irbs i) : PreOk (getI n.irbs i).net ∧ 1 ≤ (getI n.irbs i).net.bits ∧ (getI n.irbs i).net.bits ≤ 30 := by
  have h := (hr.irb hi).2.2.2.2
  have h2 : okI .u32 (getI n.irbs i).net.addr := (ho.2.2.2.2.2.2.2.1.2 _ (getI_mem hi)).2.2.2.1.1
  simp [okI, IntKind.min, IntKind.max, IntKind.signed, IntKind.bits] at h2
  exact ⟨⟨by omega, by omega, by omega, by omega⟩, h.1, h.2⟩

/-! ### Where an address is led -/
end
end Go.Eng

set_option linter.unusedVariables false
set_option linter.unusedSectionVars false
set_option linter.unusedSimpArgs false
namespace Go.Eng
open Go Classical
attribute [local congr] ite_cg

theorem addr_First_spec {p : Api_Prefix} (h : PreOk p) : addr_First p = some (firstA p) := by
  have := andNot_u32 (x := p.addr) (k := kOf p) h.a0 h.a1 (kOf_le h)
  have e : ((2 ^ kOf p - 1 : Nat) : Int) = pw (kOf p) - 1 := by unfold pw; have := Nat.two_pow_pos (kOf p); omega
  rw [e] at this
  simp only [addr_First, addr_Right_spec h, addr_rest_spec h, Option.bind_some, Bool.not_true, Bool.false_eq_true, if_false, this]
  rfl
theorem addr_Last_spec {p : Api_Prefix} (h : PreOk p) : addr_Last p = some (lastA p) := by
  have := or_u32 (x := p.addr) (k := kOf p) h.a0 h.a1 (kOf_le h)
  have e : ((2 ^ kOf p - 1 : Nat) : Int) = pw (kOf p) - 1 := by unfold pw; have := Nat.two_pow_pos (kOf p); omega
  rw [e] at this
  simp only [addr_Last, addr_Right_spec h, addr_rest_spec h, Option.bind_some, Bool.not_true, Bool.false_eq_true, if_false, this]
  rfl
section
variable {n : Api_Net}
/-! ### The address that is chosen -/
theorem contains_of_first {α : Type} [Inhabited α] {l : List α} {P : α → Prop} : 0 ≤ fstI l P ↔ ∃ y ∈ l, P y := by
  have := fstI_none_mem (l := l) (P := P)
  constructor
  · intro h
    apply Classical.byContradiction
    intro hn
    have := this.2 (fun y hy e => hn ⟨y, hy, e⟩); omega
  · rintro ⟨t, h1, h2⟩
    apply Classical.byContradiction
    intro hn
    exact this.1 (by omega) t h1 h2
end
end Go.Eng

set_option linter.unusedVariables false
set_option linter.unusedSectionVars false
set_option linter.unusedSimpArgs false
namespace Go.Eng
open Go Classical
attribute [local congr] ite_cg

theorem r02Right_spec {p : Api_Prefix} (h : PreOk p) : palingref02_Right p = some true := by
  have := h.b0; have := h.b1
  simp only [palingref02_Right, bind_ite, Option.bind_some, dif1, dif2, dif3, dif4, dif5, dif6, dif7, dnot, ibeq, ibne, decide_eq_true_eq, if_not2, ge_iff_le, gt_iff_lt, fst_ret, Bool.false_eq_true, decide_false]
  rw [decide_eq_true ⟨by omega, by omega⟩]
theorem pw_succ (k : Nat) : pw (k + 1) = pw k * 2 := by unfold pw; rw [Nat.pow_succ]; simp
theorem r02size_spec {p : Api_Prefix} (h : PreOk p) : palingref02_size p = some (pw (kOf p)) := by
  have b0 := h.b0; have b1 := h.b1
  have hk := kOf_le h
  have hkb : (kOf p : Int) = 32 - p.bits := by unfold kOf; omega
  have := loopM_trace (f := fun s : Int × Int => match s with | (v2, v3) => palingref02_size_L1 v2 v3) (r := pw (kOf p)) (fun i => (pw i, p.bits + (i : Int))) (kOf p) (by omega) (fun i hi => by
    have h1 := pw_pos i
    have h2 := pw_le (k := i) (by omega)
    have e1 := wr64 (n := pw i * 2) (by omega) (by omega)
    have e2 := wr64 (n := p.bits + (i : Int) + 1) (by omega) (by omega)
    have hlt : p.bits + (i : Int) < 32 := by omega
    simp only [palingref02_size_L1, hlt, decide_true, if_true, e1, e2]
    rw [pw_succ]
    simp [Int.add_assoc]) (by
    have hn : ¬ p.bits + (kOf p : Int) < 32 := by omega
    simp [palingref02_size_L1, hn])
  have e0 : (pw 0, p.bits + ((0 : Nat) : Int)) = ((1 : Int), p.bits) := by simp [pw]
  rw [e0] at this
  simp only [palingref02_size, this, Option.bind_some]
theorem r02First_spec {p : Api_Prefix} (h : PreOk p) : palingref02_First p = some (firstA p) := by
  have h1 := first_le h
  have hp := pw_pos (kOf p)
  have hq := pw_le (kOf_le h)
  have ha0 := h.a0; have ha1 := h.a1
  have hd : p.addr / pw (kOf p) * pw (kOf p) = firstA p := by
    unfold firstA
    have := Int.emod_add_mul_ediv p.addr (pw (kOf p))
    rw [Int.mul_comm] at this
    omega
  have e1 := wr64 (n := p.addr) (by omega) (by omega)
  have hdiv : Int.tdiv p.addr (pw (kOf p)) = p.addr / pw (kOf p) := Int.tdiv_eq_ediv_of_nonneg (by omega)
  have hd0 : 0 ≤ p.addr / pw (kOf p) := Int.ediv_nonneg (by omega) (by omega)
  have hd1 : p.addr / pw (kOf p) ≤ p.addr := Int.ediv_le_self _ (by omega)
  have e2 := wr64 (n := p.addr / pw (kOf p)) (by omega) (by omega)
  have e3 := wr64 (n := firstA p) (by omega) (by omega)
  have e4 := wr32 (n := firstA p) (by omega) (by omega)
  have hne : ¬ pw (kOf p) = 0 := by omega
  simp only [palingref02_First, r02Right_spec h, r02size_spec h, bind_ite, Option.bind_some, dif1, dif2, dif3, dif4, dif5, dif6, dif7, dnot, ibeq, ibne, decide_eq_true_eq, if_not2, ge_iff_le, gt_iff_lt, fst_ret, Bool.false_eq_true, decide_false, Bool.not_true, hne, ne_eq, not_false_eq_true, if_true, e1, hdiv, e2, hd, e3, e4, if_false]
theorem r02Last_spec {p : Api_Prefix} (h : PreOk p) : palingref02_Last p = some (lastA p) := by
  have h1 := first_le h
  have hp := pw_pos (kOf p)
  have hq := pw_le (kOf_le h)
  have hl : lastA p = firstA p + (pw (kOf p) - 1) := rfl
  have e1 := wr64 (n := firstA p) (by omega) (by omega)
  have e2 := wr64 (n := firstA p + pw (kOf p)) (by omega) (by omega)
  have e3 := wr64 (n := firstA p + pw (kOf p) - 1) (by omega) (by omega)
  have e4 := wr32 (n := firstA p + pw (kOf p) - 1) (by omega) (by omega)
  simp only [palingref02_Last, r02Right_spec h, r02size_spec h, r02First_spec h, bind_ite, Option.bind_some, dif1, dif2, dif3, dif4, dif5, dif6, dif7, dnot, ibeq, ibne, decide_eq_true_eq, if_not2, ge_iff_le, gt_iff_lt, fst_ret, Bool.false_eq_true, decide_false, Bool.not_true, if_false, e1, e2, e3, e4]
  congr 1; omega
theorem r02Has_spec {p : Api_Prefix} {a : Int} (h : PreOk p) : palingref02_Has p a = some (decide (HasP p a)) := by
  simp only [palingref02_Has, r02Right_spec h, r02First_spec h, r02Last_spec h, bind_ite, Option.bind_some, dif1, dif2, dif3, dif4, dif5, dif6, dif7, dnot, ibeq, ibne, decide_eq_true_eq, if_not2, ge_iff_le, gt_iff_lt, fst_ret, Bool.false_eq_true, decide_false, if_true]
  exact sdec (by unfold HasP; simp)

section
variable {n : Api_Net}
end
end Go.Eng
