/- Plain laws of chapter 23 (owners): what is assigned: OwnersAll. -/
import Derived.Test.YtakginbgngjhkaaEngPN
import Derived.Test.YtakginbgngjhkaaEngPB
import Derived.Test.YtakginbgngjhkaaEngP23
set_option linter.unusedVariables false
set_option linter.unusedSectionVars false
set_option linter.unusedSimpArgs false
namespace Go.Eng
open Go Classical
attribute [local congr] ite_cg

theorem and_low_u64 {x : Int} {k : Nat} (h1 : 0 ≤ x) (h2 : x < 18446744073709551616) (hk : k ≤ 64) : bits_and .u64 x (2 ^ k - 1 : Nat) = x % (2 ^ k : Nat) := by
  have hp := Nat.two_pow_pos k
  have hle : 2 ^ k ≤ 18446744073709551616 := Nat.pow_le_pow_right (n := 2) (by decide) hk
  unfold bits_and
  rw [ofInt_nat _ _ h1, ofInt_nat _ _ (by omega), BitVec.toNat_and, BitVec.toNat_ofNat, BitVec.toNat_ofNat]
  simp only [IntKind.bits, Int.toNat_natCast]
  rw [Nat.mod_eq_of_lt (by omega), Nat.mod_eq_of_lt (by omega), Nat.and_two_pow_sub_one_eq_mod]
  have hm : x.toNat % 2 ^ k < 2 ^ k := Nat.mod_lt _ hp
  have hmod : ((x.toNat % 2 ^ k : Nat) : Int) = x % (2 ^ k : Nat) := by rw [Int.natCast_emod]; congr 1; omega
  have := wr64u (n := ((x.toNat % 2 ^ k : Nat) : Int)) (by omega) (by omega)
  unfold wr_u64 at this
  rw [this, hmod]
theorem mul1_spec {N : Nat} (hN : N ≤ 1000) : math_bits_Mul 1 (N : Int) = some (0, (N : Int)) := by
  have a1 : bits_and .u64 (N : Int) 4294967295 = N := by
    have := and_low_u64 (x := (N : Int)) (k := 32) (by omega) (by omega) (by decide)
    have e : ((2 ^ 32 - 1 : Nat) : Int) = 4294967295 := by decide
    rw [e] at this; rw [this]; omega
  have a2 : bits_and .u64 1 4294967295 = 1 := by decide
  have f1 : Int.fdiv (N : Int) (2 ^ 32) = 0 := by rw [Int.fdiv_eq_ediv_of_nonneg _ (by decide)]; omega
  have f2 : Int.fdiv 1 (2 ^ 32) = 0 := by decide
  have w0 : wr_u64 0 = 0 := by decide
  have w1 := wr64u (n := (N : Int)) (by omega) (by omega)
  have a0 : bits_and .u64 0 4294967295 = 0 := by decide
  have f3 : Int.fdiv 0 (2 ^ 32) = 0 := by decide
  simp only [math_bits_Mul, math_bits_Mul64, a1, a2, f1, f2, Int.zero_mul, Int.mul_zero, Int.one_mul, Int.mul_one, w0, w1, Int.zero_add, Int.add_zero, f3, a0, Option.bind_some]
theorem Repeat_spec {N : Nat} (hN : N ≤ 1000) : slices_Repeat_int [-1] (N : Int) = some (List.replicate N (-1), N) := by
  have w1 := wr64u (n := (N : Int)) (by omega) (by omega)
  have w2 := wr64 (n := (N : Int)) (by omega) (by omega)
  have u1 : wr_u64 ((([-1] : List Int).length : Nat) : Int) = 1 := by decide
  have c0 : ¬ (N : Int) < 0 := by omega
  have c1 : ¬ (0 : Int) > 0 := by decide
  have c2 : ¬ (N : Int) > 9223372036854775807 := by omega
  have hm : mkok 8 (N : Int) (N : Int) = true := by unfold mkok; exact decide_eq_true ⟨by omega, by omega, by omega, by omega⟩
  obtain ⟨r, e, h1⟩ := loopM_rule (f := fun s : (List Int) × Int => match s with | (l9, v10) => slices_Repeat_int_L1 (0, (N : Int)) l9 v10)
    (fun s => ∃ v : Nat, s.2 = (v : Int) ∧ v ≤ N ∧ (0 < N → 0 < v) ∧ s.1 = List.replicate v (-1) ++ List.replicate (N - v) 0) (fun r => r = List.replicate N (-1)) (fun s => (N - s.2).toNat)
    (s := (List.take 0 (List.replicate (Int.toNat (N : Int)) (0 : Int)) ++ (List.take (min (List.length [(-1 : Int)]) ((List.length (List.replicate (Int.toNat (N : Int)) (0 : Int))) - 0)) [(-1 : Int)] ++ List.drop (0 + (min (List.length [(-1 : Int)]) ((List.length (List.replicate (Int.toNat (N : Int)) (0 : Int))) - 0))) (List.replicate (Int.toNat (N : Int)) (0 : Int))), (((min (List.length [(-1 : Int)]) ((List.length (List.replicate (Int.toNat (N : Int)) (0 : Int))) - 0)) : Nat) : Int))) (fun s hI => by
      obtain ⟨l, i⟩ := s
      obtain ⟨v, hv, vN, v0, hl⟩ := hI
      simp only at hv hl ⊢
      subst hv; subst hl
      have hlen : (List.replicate v (-1 : Int) ++ List.replicate (N - v) 0).length = N := by simp; omega
      by_cases c : (v : Int) < (N : Int)
      · have s1 : slok (List.replicate v (-1 : Int) ++ List.replicate (N - v) 0).length (v : Int) ((List.replicate v (-1 : Int) ++ List.replicate (N - v) 0).length : Int) = true := by rw [slok_dec, hlen]; exact decide_eq_true ⟨by omega, by omega, by omega⟩
        have s2 : slok (List.replicate v (-1 : Int) ++ List.replicate (N - v) 0).length 0 (v : Int) = true := by rw [slok_dec, hlen]; exact decide_eq_true ⟨by omega, by omega, by omega⟩
        have hd : List.drop (Int.toNat 0) (List.take (Int.toNat (v : Int)) (List.replicate v (-1 : Int) ++ List.replicate (N - v) 0)) = List.replicate v (-1) := by
          simp
        have hmin : min (List.length (List.replicate v (-1 : Int))) (Int.toNat ((List.replicate v (-1 : Int) ++ List.replicate (N - v) 0).length : Int) - Int.toNat (v : Int)) = min v (N - v) := by rw [hlen]; simp
        have hw := wr64 (n := (v : Int) + ((min v (N - v) : Nat) : Int)) (by omega) (by omega)
        have c' : (v : Int) < ((Int.toNat (N : Int) : Nat) : Int) := by omega
        have pv := v0 (by omega)
        refine ⟨.inl (List.replicate (v + min v (N - v)) (-1) ++ List.replicate (N - (v + min v (N - v))) 0, ((v + min v (N - v) : Nat) : Int)), ?_, ⟨v + min v (N - v), rfl, by omega, by omega, rfl⟩, by simp only; omega⟩
        simp only [slices_Repeat_int_L1, w2, c', s1, s2, hd, hmin, hw, decide_true, if_true]
        congr 3
        · have e1 : List.take (Int.toNat (v : Int)) (List.replicate v (-1 : Int) ++ List.replicate (N - v) 0) = List.replicate v (-1) := by simp
          have e2 : List.take (min v (N - v)) (List.replicate v (-1 : Int)) = List.replicate (min v (N - v)) (-1) := by rw [List.take_replicate]; congr 1; omega
          have e3 : List.drop (Int.toNat (v : Int) + min v (N - v)) (List.replicate v (-1 : Int) ++ List.replicate (N - v) 0) = List.replicate (N - (v + min v (N - v))) 0 := by
            rw [List.drop_append, List.drop_of_length_le (by simp), List.drop_replicate]
            simp; omega
          rw [e1, e2, e3, ← List.append_assoc, List.replicate_append_replicate]
        
      · have : v = N := by omega
        subst this
        have c' : ¬ (v : Int) < ((Int.toNat (v : Int) : Nat) : Int) := by omega
        exact ⟨.inr (List.replicate v (-1) ++ List.replicate (v - v) 0), by simp only [slices_Repeat_int_L1, w2, c', decide_false, Bool.false_eq_true, if_false], by simp⟩)
    ⟨min 1 N, by simp, by omega, by omega, by
      cases N with
      | zero => rfl
      | succ N => simp⟩ (by simp only; omega)
  subst h1
  simp only [slices_Repeat_int, c0, u1, w1, mul1_spec hN, c1, c2, w2, hm, decide_false, Bool.false_eq_true, if_false, if_true, Option.bind_some]
  rw [e]
  simp only [Option.bind_some, Int.toNat_natCast]

/-! ### What is assigned -/
section
variable {n : Api_Net}
/-- The port that a tenant names at a place. -/
noncomputable def namedI (n : Api_Net) (t : Api_Tenant) (k : Int) : Int := portI n (devI n (getI t.devs k)) (getI t.ports k)
/-- A tenant that may be, as far as it matters here. -/
structure TenOk (t : Api_Tenant) : Prop where
  name : t.name.size ≤ 300
  devs : t.devs.length ≤ 40
  ports : t.ports.length ≤ 40
  dn : ∀ s ∈ t.devs, s.size ≤ 300
  pn : ∀ s ∈ t.ports, s.size ≤ 300
def BndT (l : List Api_Tenant) : Prop := l.length ≤ 40 ∧ ∀ t ∈ l, TenOk t
theorem Great14_spec {l : List Api_Tenant} : palinglaw14_Great l = some (decide (¬ BndT l)) := by
  unfold palinglaw14_Great
  by_cases h0 : l.length ≤ 40
  case neg =>
    have : (l.length : Int) > 40 := by omega
    have h2 : ¬ BndT l := fun h => h0 h.1
    simp [this, h2]
  have h0' : ¬ (l.length : Int) > 40 := by omega
  simp only [h0', decide_false, Bool.false_eq_true, if_false]
  rw [loop_each (f := palinglaw14_Great_L1 l) l (fun _ t => TenOk t) (.inl ()) (.inr ()) (by unfold Few; omega) (fun i i0 i1 hi => by
    have hw := wr64 (n := i + 1) (by omega) (by omega)
    by_cases c1 : (getI l i).name.size ≤ 300
    case neg =>
      have : ((getI l i).name.size : Int) > 300 := by omega
      have h2 : ¬ TenOk (getI l i) := fun h => c1 h.name
      simp [palinglaw14_Great_L1, i1, nth_getI hi, this, h2]
    by_cases c2 : (getI l i).devs.length ≤ 40
    case neg =>
      have q1 : ¬ ((getI l i).name.size : Int) > 300 := by omega
      have : ((getI l i).devs.length : Int) > 40 := by omega
      have h2 : ¬ TenOk (getI l i) := fun h => c2 h.devs
      simp only [palinglaw14_Great_L1, i1, nth_getI hi, q1, this, h2, decide_true, decide_false, Bool.false_eq_true, if_true, if_false, Option.bind_some]
    by_cases c3 : (getI l i).ports.length ≤ 40
    case neg =>
      have q1 : ¬ ((getI l i).name.size : Int) > 300 := by omega
      have q2 : ¬ ((getI l i).devs.length : Int) > 40 := by omega
      have : ((getI l i).ports.length : Int) > 40 := by omega
      have h2 : ¬ TenOk (getI l i) := fun h => c3 h.ports
      simp only [palinglaw14_Great_L1, i1, nth_getI hi, q1, q2, this, h2, decide_true, decide_false, Bool.false_eq_true, if_true, if_false, Option.bind_some]
    have q1 : ¬ ((getI l i).name.size : Int) > 300 := by omega
    have q2 : ¬ ((getI l i).devs.length : Int) > 40 := by omega
    have q3 : ¬ ((getI l i).ports.length : Int) > 40 := by omega
    have e2 := loop_each (f := palinglaw14_Great_L2 l i) (getI l i).devs (fun _ s => s.size ≤ 300) (Sum.inl () : Unit ⊕ Unit) (.inr ()) (by unfold Few; omega) (fun j j0 j1 hj => by
      have hw := wr64 (n := j + 1) (by omega) (by omega)
      by_cases d : (getI (getI l i).devs j).size ≤ 300
      · have : ¬ ((getI (getI l i).devs j).size : Int) > 300 := by omega
        simp only [palinglaw14_Great_L2, nth_getI hi, j1, nth_getI hj, this, d, hw, decide_true, decide_false, Bool.false_eq_true, if_true, if_false, Option.bind_some]
      · have : ((getI (getI l i).devs j).size : Int) > 300 := by omega
        simp only [palinglaw14_Great_L2, nth_getI hi, j1, nth_getI hj, this, d, decide_true, if_true, if_false, Option.bind_some]) (by simp [palinglaw14_Great_L2, nth_getI hi])
    have e3 := loop_each (f := palinglaw14_Great_L3 l i) (getI l i).ports (fun _ s => s.size ≤ 300) (Sum.inl () : Unit ⊕ Unit) (.inr ()) (by unfold Few; omega) (fun j j0 j1 hj => by
      have hw := wr64 (n := j + 1) (by omega) (by omega)
      by_cases d : (getI (getI l i).ports j).size ≤ 300
      · have : ¬ ((getI (getI l i).ports j).size : Int) > 300 := by omega
        simp only [palinglaw14_Great_L3, nth_getI hi, j1, nth_getI hj, this, d, hw, decide_true, decide_false, Bool.false_eq_true, if_true, if_false, Option.bind_some]
      · have : ((getI (getI l i).ports j).size : Int) > 300 := by omega
        simp only [palinglaw14_Great_L3, nth_getI hi, j1, nth_getI hj, this, d, decide_true, if_true, if_false, Option.bind_some]) (by simp [palinglaw14_Great_L3, nth_getI hi])
    rw [eachP_mem (P := fun s : ByteArray => s.size ≤ 300)] at e2 e3
    simp only [palinglaw14_Great_L1, i1, nth_getI hi, q1, q2, q3, e2, e3, hw, decide_true, decide_false, Bool.false_eq_true, if_true, if_false, Option.bind_some]
    by_cases d1 : ∀ s ∈ (getI l i).devs, s.size ≤ 300
    · by_cases d2 : ∀ s ∈ (getI l i).ports, s.size ≤ 300
      · have : TenOk (getI l i) := ⟨c1, c2, c3, d1, d2⟩
        rw [if_pos d1, if_pos d2, if_pos this]; rfl
      · have : ¬ TenOk (getI l i) := fun h => d2 h.pn
        rw [if_pos d1, if_neg d2, if_neg this]; rfl
    · have : ¬ TenOk (getI l i) := fun h => d1 h.dn
      rw [if_neg d1, if_neg this]; rfl) (by simp [palinglaw14_Great_L1])]
  rw [eachP_mem (P := fun t : Api_Tenant => TenOk t)]
  by_cases h : ∀ t ∈ l, TenOk t
  · have : BndT l := ⟨h0, h⟩
    rw [if_pos h]; simp [this]
  · have : ¬ BndT l := fun g => h g.2
    rw [if_neg h]; simp [this]
theorem oddS_spec {l : List ByteArray} (hl : Few l) (hb : ∀ s ∈ l, s.size ≤ 1000000) : slices_ContainsFunc_string_Right_1 l = some (decide (∃ s ∈ l, ¬ NameP s)) := by
  unfold slices_ContainsFunc_string_Right_1 slices_IndexFunc_string_Right_1
  rw [loop_first l (fun s => ¬ NameP s) hl (fun i h0 h1 h2 => by
    have h3 : l.length ≤ 1000000 := hl
    have hw := wr64 (n := i + 1) (by omega) (by omega)
    simp only [slices_IndexFunc_string_Right_1_L1, policy_Right_1, num_Name_spec (hb _ (getI_mem h2)), h1, nth_getI h2, hw, decide_true, if_true, Option.bind_some]
    by_cases c : NameP (getI l i) <;> simp [c]) (by simp [slices_IndexFunc_string_Right_1_L1])]
  simp only [bind_ite, Option.bind_some, dif1, dif2, dif3, dif4, dif5, dif6, dif7, dnot, ibeq, ibne, decide_eq_true_eq, if_not2, ge_iff_le, gt_iff_lt, fst_ret, Bool.false_eq_true, decide_false]
  have := fstI_none_mem (l := l) (P := fun s => ¬ NameP s)
  by_cases h : 0 ≤ fstI l (fun s => ¬ NameP s)
  · have h2 : ∃ s ∈ l, ¬ NameP s := by
      apply Classical.byContradiction
      intro hn
      have := this.2 (fun x hx e => hn ⟨x, hx, e⟩); omega
    simp [h, h2]
  · have h2 : ¬ ∃ s ∈ l, ¬ NameP s := fun ⟨s, q1, q2⟩ => this.1 (by omega) s q1 q2
    simp [h, h2]
/-- A tenant that may be. -/
def TenP (t : Api_Tenant) : Prop := NameP t.name ∧ t.devs.length = t.ports.length ∧ 0 < t.devs.length ∧ t.devs.length ≤ 16 ∧ (∀ s ∈ t.devs, NameP s) ∧ (∀ s ∈ t.ports, NameP s)
theorem policy_Right_spec {t : Api_Tenant} (ht : TenOk t) : policy_Right t = some (decide (TenP t)) := by
  have f1 : Few t.devs := by have := ht.devs; unfold Few; omega
  have f2 : Few t.ports := by have := ht.ports; unfold Few; omega
  have b1 : t.name.size ≤ 1000000 := by have := ht.name; omega
  have o1 := oddS_spec f1 (fun s hs => by have := ht.dn s hs; omega)
  have o2 := oddS_spec f2 (fun s hs => by have := ht.pn s hs; omega)
  simp only [policy_Right, num_Name_spec b1, o1, o2, bind_ite, Option.bind_some, dif1, dif2, dif3, dif4, dif5, dif6, dif7, dnot, ibeq, ibne, decide_eq_true_eq, if_not2, ge_iff_le, gt_iff_lt, fst_ret, Bool.false_eq_true, decide_false]
  have hN : TenP t ↔ NameP t.name ∧ t.devs.length = t.ports.length ∧ 0 < t.devs.length ∧ t.devs.length ≤ 16 ∧ (∀ s ∈ t.devs, NameP s) ∧ (∀ s ∈ t.ports, NameP s) := Iff.rfl
  refine sdec ?_
  rw [hN]
  have e1 : (¬ ∃ s ∈ t.devs, ¬ NameP s) ↔ ∀ s ∈ t.devs, NameP s := ⟨fun h s hs => Classical.byContradiction fun q => h ⟨s, hs, q⟩, fun h ⟨s, hs, q⟩ => q (h s hs)⟩
  have e2 : (¬ ∃ s ∈ t.ports, ¬ NameP s) ↔ ∀ s ∈ t.ports, NameP s := ⟨fun h s hs => Classical.byContradiction fun q => h ⟨s, hs, q⟩, fun h ⟨s, hs, q⟩ => q (h s hs)⟩
  rw [e1, e2]
  have e3 : ((t.devs.length : Int) = t.ports.length) ↔ t.devs.length = t.ports.length := by omega
  have e4 : (0 : Int) < t.devs.length ↔ 0 < t.devs.length := by omega
  have e5 : (t.devs.length : Int) ≤ 16 ↔ t.devs.length ≤ 16 := by omega
  rw [e3, e4, e5]
end
end Go.Eng
