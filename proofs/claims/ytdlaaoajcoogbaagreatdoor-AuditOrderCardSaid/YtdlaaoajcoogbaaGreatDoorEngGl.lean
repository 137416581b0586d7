/- A package-level array of texts that is never written: what a row's list gives. -/
import Derived.Test.YtdlaaoajcoogbaaGreatDoorEng15
import Derived.Lib.LaidTab
set_option linter.unusedVariables false
set_option linter.unusedSectionVars false
namespace Go.Eng
open Go
variable {D : Den} [Gl D]
def strData {H : Type} (ws : List ByteArray) : DataW H := .agg (ws.map fun w => .lit (.string w.data.toList))
theorem cells_of_strs {H : Type} {enc : TypeId × Value → H} {P : Program} {w : World} {base : Nat} {sp : Nat → Bool} {held : Bool} {fuel : Nat} {t e : TypeId} {n : Nat} {cs : List Value} {ws : List ByteArray} {p : List MemPlace}
    (ht : P.underlying t = some (.array n e)) (he : P.underlying e = some .string) (hce : P.cellsOf e = 1)
    (h : DataW.trod enc P w base sp held fuel t cs = some (strData ws, p)) : ∀ (i : Nat) (s : ByteArray), ws[i]? = some s → cs[i]? = some (.string s) := by
  cases fuel with
  | zero => simp [DataW.trod] at h
  | succ fuel =>
    simp only [DataW.trod, ht, hce, Nat.mul_one] at h
    split at h
    · rename_i hl
      obtain ⟨xs, hm, hx⟩ := Option.map_eq_some_iff.1 h
      have hxs : xs.map (·.1) = ws.map fun s => (DataW.lit (.string s.data.toList) : DataW H) := by
        have := congrArg Prod.fst hx
        simpa [strData] using this
      have hxl : xs.length = n := by simpa using Lib.mapM_length hm
      intro i s hs
      have h2 : (xs.map (·.1))[i]? = some (DataW.lit (.string s.data.toList) : DataW H) := by rw [hxs]; simp [hs]
      have hi : i < n := by
        have := (List.getElem?_eq_some_iff.1 h2).1
        simp at this; omega
      obtain ⟨b, hb, hf⟩ := Lib.mapM_at hm i i (by simp [hi])
      obtain ⟨z, hc, rfl, _⟩ := DataW.trod_string he hf
      have h1 : cs[i]? = some (.string z) := by
        have := congrArg (·[0]?) hc
        simpa [List.getElem?_take, List.getElem?_drop] using this
      rw [h1]
      simp only [List.getElem?_map, hb, Option.map_some, Option.some.injEq, DataW.lit.injEq, Lit.string.injEq] at h2
      have : z = s := by
        apply ByteArray.ext
        exact Array.ext' h2
      rw [this]
    · cases h
theorem gl_head {U : Univ D} {P : Program} {W : World} {name : String} {ws : List ByteArray} {g : Nat} {t e : TypeId} {n : Nat} (hne : ws ≠ [])
    (hg : P.globalNamed name = some g) (hty : (P.globals[g]?).map (·.type) = some t) (ht : P.underlying t = some (.array n e)) (he : P.underlying e = some .string) (hce : P.cellsOf e = 1)
    (h : laidMet P [(name, strData ws)] W) : PRep U W (E0 W).S (.pointer (some ⟨g, 0, none⟩)) (.rp (ws.map fun w => (.v (.string w) : AV D)) 0) := by
  obtain ⟨ps, ⟨g', t', cs, fuel, p, q, hg', ht', hvar, hd, _, _⟩, _⟩ := h
  obtain rfl := Option.some.inj (hg.symm.trans hg')
  obtain rfl := Option.some.inj (hty.symm.trans ht')
  have hcell : ∀ (i : Nat) (s : ByteArray), ws[i]? = some s → W.cell? ⟨g, i, none⟩ = some (.string s) := fun i s hs => by
    have h1 := World.var?_cell hg hvar i
    have h2 := cells_of_strs ht he hce hd i s hs
    rw [h1, ← h2, Array.getElem?_toList]
  have hS : (E0 W).S g := by
    show g < W.heap.size
    obtain ⟨s, r, rfl⟩ : ∃ s r, ws = s :: r := by cases ws with
      | nil => exact absurd rfl hne
      | cons s r => exact ⟨s, r, rfl⟩
    have h0 := hcell 0 s rfl
    apply Decidable.byContradiction
    intro hn
    have : W.heap[g]? = none := Array.getElem?_eq_none (by omega)
    simp [World.cell?, this] at h0
  show PRep U W (E0 W).S (.pointer (some ⟨g, 0 + 0, none⟩)) _
  refine .rp _ 0 g 0 (fun k => .string (ws.getD k ByteArray.empty)) hS (fun k c hk => ?_) (fun k c hk => ?_)
  · rw [List.getElem?_map] at hk
    obtain ⟨s, hs, _⟩ := Option.map_eq_some_iff.1 hk
    rw [Nat.zero_add, hcell k s hs]
    simp [List.getD, hs]
  · rw [List.getElem?_map] at hk
    obtain ⟨s, hs, rfl⟩ := Option.map_eq_some_iff.1 hk
    have : ws.getD k ByteArray.empty = s := by simp [List.getD, hs]
    rw [this]; exact .v _
end Go.Eng
