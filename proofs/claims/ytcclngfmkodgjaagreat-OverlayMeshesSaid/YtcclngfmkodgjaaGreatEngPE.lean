/- Plain laws of lists held against one another. -/
import Derived.Test.YtcclngfmkodgjaaGreatEngGP1
set_option linter.unusedVariables false
set_option linter.unusedSectionVars false
set_option linter.unusedSimpArgs false
namespace Go.Eng
open Go Classical
attribute [local congr] ite_cg
theorem seqB_dec {x y : ByteArray} : seqB x y = decide (x = y) := by
  unfold seqB
  rw [Bool.eq_iff_iff]
  simp only [beq_iff_eq, decide_eq_true_eq]
  constructor
  · intro h
    rw [ByteArray.toList_eq, ByteArray.toList_eq] at h
    obtain ⟨⟨x⟩⟩ := x
    obtain ⟨⟨y⟩⟩ := y
    simpa using h
  · intro h; rw [h]

theorem list_eqI {α : Type} [Inhabited α] {l r : List α} : l = r ↔ l.length = r.length ∧ EachP l (fun i x => x = getI r i) := by
  constructor
  · intro h; subst h; exact ⟨rfl, fun i hi => rfl⟩
  · rintro ⟨h, he⟩
    apply List.ext_getElem h
    intro i h1 h2
    have := he i ⟨by omega, by omega⟩
    rwa [getI_nat (List.getElem?_eq_getElem h1), getI_nat (List.getElem?_eq_getElem h2)] at this
theorem loop_eq {α : Type} [Inhabited α] {f : Int → Option (Int ⊕ (Unit ⊕ Unit))} (l r : List α) (hl : l.length = r.length) (hb : Few l)
    (h1 : ∀ i : Int, 0 ≤ i → i < l.length → inL l i → inL r i → f i = some (if getI l i = getI r i then .inl (i + 1) else .inr (.inl ()))) (h2 : f l.length = some (.inr (.inr ()))) :
    loopM f 0 = if l = r then some (.inr ()) else some (.inl ()) := by
  rw [loop_each l (fun i x => x = getI r i) (.inl ()) (.inr ()) hb (fun i a b c => h1 i a b c ⟨a, by omega⟩) h2]
  simp only [list_eqI, hl, true_and]
end Go.Eng
