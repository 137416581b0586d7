/- Part of the proof of AuditOrder: plain laws of the printed mirrors. No conditions. -/
import Derived.Test.YtdlaaoajcoogbaaGreatDoorEngGP1
import Derived.Test.YtdlaaoajcoogbaaGreatDoorEngGPNa
set_option linter.unusedVariables false
set_option linter.unusedSectionVars false
set_option linter.unusedSimpArgs false
namespace Go.Eng
open Go Classical
attribute [local congr] ite_cg
section
end
end Go.Eng

set_option linter.unusedVariables false
set_option linter.unusedSectionVars false
set_option linter.unusedSimpArgs false
namespace Go.Eng
open Go Classical
attribute [local congr] ite_cg
section
end
end Go.Eng

set_option linter.unusedVariables false
set_option linter.unusedSectionVars false
set_option linter.unusedSimpArgs false
namespace Go.Eng
open Go Classical
attribute [local congr] ite_cg

/-! ### Items deleted -/
theorem filter_none_lt {α : Type} [Inhabited α] {l : List α} {K : α → Bool} {i : Int} (h0 : 0 ≤ i) (h1 : i ≤ l.length) (h : ∀ j, inL l j → j < i → K (getI l j) = true) : l.take i.toNat = (l.take i.toNat).filter K := by
  symm; rw [List.filter_eq_self]
  intro x hx
  obtain ⟨k, hk, hlt, rfl⟩ := mem_take_getI.1 hx
  exact h k hk hlt
theorem take_succ_getI {α : Type} [Inhabited α] {l : List α} {i : Int} (h : inL l i) : l.take (i + 1).toNat = l.take i.toNat ++ [getI l i] := by
  have h0 := h.1
  rw [show (i + 1).toNat = i.toNat + 1 from by omega, List.take_add_one, getI_get? h]; rfl
theorem del_loop {α : Type} [Inhabited α] (l : List α) (K : α → Bool) {f : List α × Int × Int → Option ((List α × Int × Int) ⊕ (List α × Int))} (hb : Few l)
    (h1 : ∀ a i j, a.length = l.length → 0 ≤ i → i < j → inL l j → inL l i → getI a j = getI l j → f (a, i, j) = some (.inl (if K (getI l j) = true then (a.set i.toNat (getI l j), i + 1, j + 1) else (a, i, j + 1))))
    (h2 : ∀ a i, a.length = l.length → f (a, i, l.length) = some (.inr (a, i))) {i0 : Int} (hi0 : inL l i0) (hk : K (getI l i0) = false) (hlt : ∀ j, inL l j → j < i0 → K (getI l j) = true) :
    ∃ a i, loopM f (l, i0, i0 + 1) = some (a, i) ∧ a.length = l.length ∧ 0 ≤ i ∧ i ≤ l.length ∧ a.take i.toNat = l.filter K := by
  have hb' : l.length ≤ 1000000 := hb
  obtain ⟨r, e, q1, q2, q3, q4⟩ := loopM_rule (f := f)
    (fun s => s.1.length = l.length ∧ 0 ≤ s.2.1 ∧ s.2.1 < s.2.2 ∧ s.2.2 ≤ l.length ∧ s.1.take s.2.1.toNat = (l.take s.2.2.toNat).filter K ∧ ∀ j, inL l j → s.2.2 ≤ j → getI s.1 j = getI l j)
    (fun r => r.1.length = l.length ∧ 0 ≤ r.2 ∧ r.2 ≤ l.length ∧ r.1.take r.2.toNat = l.filter K) (fun s => (l.length - s.2.2).toNat) (s := (l, i0, i0 + 1)) (fun s hI => by
      obtain ⟨a, i, j⟩ := s
      obtain ⟨ha, i0, ij, jl, ht, hd⟩ := hI
      simp only at ha i0 ij jl ht hd ⊢
      by_cases hj : j = l.length
      · subst hj
        refine ⟨_, h2 a i ha, ha, i0, by omega, ?_⟩
        simpa using ht
      · have ji : inL l j := ⟨by omega, by omega⟩
        have ii : inL l i := ⟨by omega, by omega⟩
        refine ⟨_, h1 a i j ha i0 ij ji ii (hd j ji (Int.le_refl _)), ?_⟩
        by_cases hK : K (getI l j) = true
        · simp only [hK, if_true]
          have ii' : inL a i := ⟨i0, by omega⟩
          refine ⟨⟨by simpa using ha, by omega, by omega, by omega, ?_, fun k hk hjk => ?_⟩, by omega⟩
          · rw [take_succ_getI (inL_set.2 ii'), take_succ_getI ji, List.filter_append, ← ht, getI_set ii' ii', if_pos rfl, List.take_set_of_le (by omega)]
            simp [hK]
          · rw [getI_set ii' ⟨hk.1, by have := hk.2; omega⟩, if_neg (by omega)]
            exact hd k hk (by omega)
        · rw [if_neg hK]
          refine ⟨⟨ha, i0, by simp only; omega, by simp only; omega, ?_, fun k hk hjk => hd k hk (by simp only at hjk; omega)⟩, by simp only; omega⟩
          simp only
          rw [take_succ_getI ji, List.filter_append, ← ht]
          simp [hK]) ⟨rfl, hi0.1, by simp only; omega, by have := hi0.2; simp only; omega, by
        simp only
        rw [take_succ_getI hi0, List.filter_append, ← filter_none_lt hi0.1 (by have := hi0.2; omega) hlt]
        simp [hk], fun j _ _ => rfl⟩ (by have := hi0.1; have := hi0.2; simp only; omega)
  exact ⟨r.1, r.2, e, q1, q2, q3, q4⟩

/-! ### Ports that may be gone out at -/
section
variable {n : Api_Net} {fw : List Bool}
structure FwOk (n : Api_Net) (fw : List Bool) : Prop where
  right : RightP n
  len : fw.length = n.links.length
theorem FwOk.link (h : FwOk n fw) {p : Int} (hp : inL n.ports p) : (getI n.ports p).link = -1 ∨ inL fw (getI n.ports p).link := by
  rcases (h.right.ports p hp).2.2.2.2.2.2.2.2 with h1 | h1
  · exact .inl h1
  · right
    have := h1.1
    unfold inL at this ⊢
    rw [h.len]; exact this
end
end Go.Eng
