/- Chapter 47 (audit): the order of notes: AuditOrder. -/
import Derived.Test.YtdlaaoajcoogbaaGreatDoorEngA2
set_option linter.unusedVariables false
set_option linter.unusedSectionVars false
set_option linter.unusedSimpArgs false
namespace Go.Eng
open Go Classical
attribute [local congr] ite_cg
section
variable {α : Type}
theorem cntA_app {a b : List α} {P : α → Prop} : cntA (a ++ b) P = cntA a P + cntA b P := by unfold cntA; rw [List.filter_append, List.length_append]
theorem cntA_all {l : List α} {P : α → Prop} (h : ∀ x ∈ l, P x) : cntA l P = l.length := by
  unfold cntA; rw [List.filter_eq_self.2 (fun x hx => decide_eq_true (h x hx))]
theorem cntA_none {l : List α} {P : α → Prop} (h : ∀ x ∈ l, ¬ P x) : cntA l P = 0 := by
  unfold cntA; rw [List.length_eq_zero_iff, List.filter_eq_nil_iff]
  intro x hx; simpa using h x hx
theorem cntA_congr {l : List α} {P Q : α → Prop} (h : ∀ x ∈ l, P x ↔ Q x) : cntA l P = cntA l Q := by
  unfold cntA; congr 1
  exact List.filter_congr fun x hx => decide_eq_decide.2 (h x hx)
end
theorem audit_Count_spec {l : List Audit_Note} {k : Int} (hl : l.length ≤ 1000000) : audit_Count l k = some ((cntA l (fun x => x.kind = k) : Nat) : Int) := by
  unfold audit_Count
  rw [loop_cnt (f := fun s : Int × Int => match s with | (v3, v4) => audit_Count_L1 l k v3 v4) l (fun x => x.kind = k) hl (fun i v hi v0 v1 => by
    have il : inL l (i : Int) := ⟨by omega, by omega⟩
    show audit_Count_L1 l k v (i : Int) = _
    unfold audit_Count_L1
    rw [if_pos (decide_eq_true (by omega)), nth_getI il, Option.bind_some, wr64 (by omega) (by omega), wr64 (by omega) (by omega)]
    by_cases c : (getI l (i : Int)).kind = k
    · rw [if_pos (by simpa using c), if_pos c]; rfl
    · rw [if_neg (by simpa using c), if_neg c]; rfl) (fun v => by
    show audit_Count_L1 l k v (l.length : Int) = _
    unfold audit_Count_L1
    rw [if_neg (by simp)]), Option.bind_some]
/-! ### The order -/
section
variable {n : Api_Net}
theorem m_sh {N : Nat} {x : Audit_Note} (h : x ∈ cat (shG n) N) : x.kind = 1 := by
  obtain ⟨i, hi, h⟩ := mem_cat.1 h
  unfold shG at h
  split at h
  · rw [List.mem_singleton] at h; rw [h]
  · cases h
theorem k_lo {i : Int} {x : Audit_Note} (h : x ∈ loG n i) : x.kind = 2 ∧ x.a = i ∧ x.b ∈ vlansP (getI n.ports i) ∧ ¬ (crossI n i x.b).2.2 = true ∧ 0 ≤ (getI n.ports i).link := by
  unfold loG at h
  split at h
  · cases h
  · rename_i hl
    obtain ⟨j, hj, h⟩ := mem_cat.1 h
    unfold lopV at h
    split at h
    · cases h
    · rename_i hc
      rw [List.mem_singleton] at h; rw [h]
      exact ⟨rfl, rfl, getI_mem ⟨by omega, by omega⟩, hc, by omega⟩
theorem m_lo {N : Nat} {x : Audit_Note} (h : x ∈ cat (loG n) N) : x.kind = 2 := by
  obtain ⟨i, hi, h⟩ := mem_cat.1 h
  exact (k_lo h).1
theorem m_ln {N : Nat} {x : Audit_Note} (h : x ∈ cat (lnG n) N) : x.kind = 3 := by
  obtain ⟨i, hi, h⟩ := mem_cat.1 h
  unfold lnG at h
  split at h
  · rw [List.mem_singleton] at h; rw [h]
  · cases h
theorem m_si {N : Nat} {x : Audit_Note} (h : x ∈ cat (siG n) N) : x.kind = 4 := by
  obtain ⟨i, hi, h⟩ := mem_cat.1 h
  unfold siG at h
  split at h
  · rw [List.mem_singleton] at h; rw [h]
  · cases h
theorem m_un {N : Nat} {x : Audit_Note} (h : x ∈ cat (unG n) N) : x.kind = 5 := by
  obtain ⟨i, hi, h⟩ := mem_cat.1 h
  unfold unG at h
  split at h
  · cases h
  · rw [List.mem_singleton] at h; rw [h]
theorem m_pi {N : Nat} {x : Audit_Note} (h : x ∈ cat (piG n) N) : x.kind = 6 := by
  obtain ⟨i, hi, h⟩ := mem_cat.1 h
  unfold piG at h
  split at h
  · rw [List.mem_singleton] at h; rw [h]
  · cases h
theorem m_ba {N : Nat} {x : Audit_Note} (h : x ∈ cat (baG n) N) : x.kind = 7 := by
  obtain ⟨i, hi, h⟩ := mem_cat.1 h
  unfold baG at h
  split at h
  · rw [List.mem_singleton] at h; rw [h]
  · cases h
theorem k_le {i : Int} {x : Audit_Note} (h : x ∈ leG n i) : x.kind = 8 ∧ x.a = i := by
  unfold leG at h
  obtain ⟨j, hj, h⟩ := mem_cat.1 h
  unfold leV at h
  split at h
  · rw [List.mem_singleton] at h; rw [h]; exact ⟨rfl, rfl⟩
  · cases h
theorem m_le {N : Nat} {x : Audit_Note} (h : x ∈ cat (leG n) N) : x.kind = 8 := by
  obtain ⟨i, hi, h⟩ := mem_cat.1 h
  exact (k_le h).1
theorem m_tr {N : Nat} {x : Audit_Note} (h : x ∈ cat (trG n) N) : x.kind = 9 := by
  obtain ⟨i, hi, h⟩ := mem_cat.1 h
  unfold trG at h
  split at h
  · rw [List.mem_singleton] at h; rw [h]
  · cases h
section
variable (hr : RightP n)
include hr
end
end
end Go.Eng
