/- Chapter 16 (ports): devices and ports put on both sides: PortsPuts. -/
import Derived.Test.YtcclngfmkodgjaaGreatEngY3
import Derived.Test.YtcclngfmkodgjaaGreatEngGPR4
import Derived.Test.YtcclngfmkodgjaaGreatEngGR15
set_option linter.unusedVariables false
set_option linter.unusedSectionVars false
set_option linter.unusedSimpArgs false
namespace Go.Eng
open Go Classical
attribute [local congr] ite_cg
section
variable {n : Api_Net} {l : Api_Line} {k : Int} {LP : Prop}
theorem fits_is (hs : SmN n) (hR : palingref11_Right l = some (decide LP) ∨ l.kind ≠ k) : palingref16_Fits n l k = some (decide (l.kind = k ∧ LP ∧ RightP n)) := by
  unfold palingref16_Fits
  by_cases hk : l.kind = k
  case neg => rw [if_neg (by simpa using hk), decide_eq_false (fun h => hk h.1)]
  have hR := hR.resolve_right (fun h => h hk)
  rw [if_pos (by simpa using hk), hR, Option.bind_some]
  by_cases hL : LP
  case neg => rw [if_neg (by simpa using hL), decide_eq_false (fun h => hL h.2.1)]
  rw [if_pos (decide_eq_true hL), rRight_spec hs, Option.bind_some]
  exact sdec ⟨fun h => ⟨hk, hL, h⟩, fun h => h.2.2⟩
abbrev DvT := (List Api_Device) × (List Api_Port) × (List Api_Link) × (List Api_Domain) × (List Api_Static) × (List Api_Flood) × (List Api_Vrf) × (List Api_Irb) × Nat × Nat × Nat × Nat × Int
def badV (e : Int) : DvT := ([], [], [], [], [], [], [], [], 0, 0, 0, 0, e)
theorem rsame_none : palingref15_Same ⟨[], [], [], [], [], [], [], []⟩ ⟨[], [], [], [], [], [], [], []⟩ = some true := by kernel_rfl
theorem lnOk_of (hl : l.Ok) (hz : ∀ x ∈ sizesL l, x ≤ 300) : LnOk l := by
  have z1 : (l.dev.size : Int) ≤ 300 := hz _ (by simp [sizesL])
  have z2 : (l.port.size : Int) ≤ 300 := hz _ (by simp [sizesL])
  have z3 : (l.tagged.length : Int) ≤ 300 := hz _ (by simp [sizesL])
  have z4 : (l.addrs.length : Int) ≤ 300 := hz _ (by simp [sizesL])
  obtain ⟨o1, o2, o3, o4, o5, o6, o7, o8, o9, o10, o11, o12, o13, o14, o15, o16, o17⟩ := hl
  have i64 : ∀ {v : Int}, okI .i64 v → -9223372036854775808 ≤ v ∧ v < 9223372036854775808 := fun h => by
    have h1 := h.1
    have h2 := h.2
    have e1 : IntKind.i64.min = -9223372036854775808 := by decide
    have e2 : IntKind.i64.max = 9223372036854775807 := by decide
    omega
  have u32 : ∀ {v : Int}, okI .u32 v → 0 ≤ v ∧ v < 4294967296 := fun h => by
    have h1 := h.1
    have h2 := h.2
    have e1 : IntKind.u32.min = 0 := by decide
    have e2 : IntKind.u32.max = 4294967295 := by decide
    omega
  exact ⟨by omega, by omega, i64 o11, i64 o12, i64 o13, okU64 o8, u32 o9, fun x hx => i64 (o14.2 x hx), fun x hx => u32 (o17.1.2 x hx), by unfold Few; omega, by unfold Few; omega⟩
end
end Go.Eng
