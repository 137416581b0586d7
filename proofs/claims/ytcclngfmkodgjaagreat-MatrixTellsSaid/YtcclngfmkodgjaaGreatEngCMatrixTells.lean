/- MatrixTells holds: for every input the call returns true and leaves its arguments as they were. No conditions. -/
/- Part of the proof of MatrixTells: printed mirrors of the functions, or their contracts. No conditions. -/
import Derived.Test.YtcclngfmkodgjaaGreatMAE
import Derived.Test.YtcclngfmkodgjaaGreatEngZ8
import Derived.Test.YtcclngfmkodgjaaGreatRows
import Derived.WalkKit
import Derived.ProofKit
import Derived.OpenShut
import Derived.JoinedCond
import Derived.SizedLaws
namespace Go.Proofs.YtcclngfmkodgjaaGreat.matrixTells
open Go.ChangeShapes Go.WideShapes Go.ChangeAt Go.RowKit Go.Eng
set_option linter.unusedVariables false
set_option maxRecDepth 100000
theorem own : ownKnob Tryz.prog.godebug = none := by kernel_rfl
theorem ZjB (H : Type) (enc : TypeId × Value → H) (W : World) (base : Nat) (args : Array Value) (ds gs : List (DataW H)) (before : List MemPlace)
    (hval : ∀ (j : Nat) t v, Tryz.f5.params[j]? = some t → args[j]? = some v → Value.okWide Tryz.prog W .any base t v)
    (hW : DataW.Whole enc Tryz.prog Tryz.f5.params.toList Rows.matrixTellsSpec.vars false W args.toList ds gs before) :
    Calls Tryz.prog 5 args W fun e W' => ∃ v, e = .returned v ∧ Rows.matrixTellsSpec.post enc Tryz.prog Tryz.f5 false true false false W args v W' := by
  have hW' := hW
  have hlt := hW.lt
  obtain ⟨p, q, hA0, hV, rfl, hfz, hnd⟩ := hW
  have hA : DataW.TrodAll enc Tryz.prog W 0 (fun _ => true) true Tryz.f5.params.toList args.toList ds p := hA0
  have hA2 := hA
  rw [Tryz.params5] at hA2 hval
  obtain ⟨v0, vs0, d0, ds0, p0, q0, hargs, rfl, rfl, h0, r0⟩ := trodAll_cons hA2
  obtain ⟨v1, vs1, d1, ds1, p1, q1, rfl, rfl, rfl, h1, r1⟩ := trodAll_cons r0
  obtain ⟨v2, vs2, d2, ds2, p2, q2, rfl, rfl, rfl, h2, r2⟩ := trodAll_cons r1
  obtain ⟨v3, vs3, d3, ds3, p3, q3, rfl, rfl, rfl, h3, r3⟩ := trodAll_cons r2
  obtain ⟨rfl, rfl, rfl⟩ := trodAll_nil r3
  obtain rfl : args = #[v0, v1, v2, v3] := by cases args; simp_all
  obtain ⟨rfl, rfl⟩ := trodVars_none hV
  obtain ⟨x0, e0, o0⟩ := Ze5 Tryz.underlying31 (Z7Y (S := (E0 W).S) (fun b h => h)) (hval 0 31 v0 rfl rfl) h0
  obtain ⟨x1, e1, o1⟩ := Z7h (U := UU) (S := (E0 W).S) (by kernel_rfl) (Xr (U := UU) Tryz.underlying34 (by kernel_rfl) (fun b h => h) (Z1E (fun b h => h))) (hval 1 34 v1 rfl rfl) h1
  obtain ⟨x2, e2, o2⟩ := Z7h (U := UU) (S := (E0 W).S) (by kernel_rfl) (ZX Tryz.underlying3) (hval 2 3 v2 rfl rfl) h2
  obtain ⟨x3, e3, o3⟩ := Z7h (U := UU) (S := (E0 W).S) (by kernel_rfl) (Xr (U := UU) Tryz.underlying53 (by kernel_rfl) (fun b h => h) (Zg6 (fun b h => h))) (hval 3 53 v3 rfl rfl) h3
  refine (Ze3 (Zg5 (matrixTells x0 x1 x2 x3 o0 o1 o2 o3)) (args := #[v0, v1, v2, v3]) (fun g r h => by cases h) (Z4W e0 (Z4W e1 (Z4W e2 (Z4W e3 Ze6))))).mono fun e W' ⟨v, E', he, _, hr, hb, hz⟩ => ?_
  have hv := Z0b hr
  subst hv; subst he
  exact ⟨_, rfl, Ze8 (pv := []) hW' (fun _ _ _ => (trodAll_cons_mk (shut_bool Tryz.underlying4 _) trodAll_mk0)) (fun sp hs => Z9E (by kernel_rfl) hb (by kernel_rfl) hA (fun x hx => hlt x (by simpa using hx)) (fun x hx => hs x (by simpa using hx))) (fun _ _ => rfl) rfl
    (hb.frame _) hz (ok_one (by kernel_rfl) rfl (okWide_bool_mk Tryz.underlying4 _))⟩
theorem ZjC (os : Os) (started : os.Started) (H : Type) (enc : TypeId × Value → H) :
    ReturnsInHanded {} Tryz.checked os 5 .any (Rows.matrixTellsSpec.pre6 enc Tryz.prog Tryz.f5 Rows.matrixTellsRow.domain false) (Rows.matrixTellsSpec.post enc Tryz.prog Tryz.f5 false true false false) := by
  refine returnsInHanded_of_change (C := Tryz.checked) own started (by kernel_rfl) Tryz.func5
    (ChangeSpec.witness6 (enc := enc) (C := Tryz.checked) false ⟨#[], #[.agg #[.slice none 0 0, .slice none 0 0, .slice none 0 0, .slice none 0 0, .slice none 0 0, .slice none 0 0, .slice none 0 0, .slice none 0 0], .slice none 0 0, .int .i64 0, .slice none 0 0], []⟩ 8 (by kernel_rfl) (by kernel_rfl) (by kernel_rfl) (by kernel_rfl)) ?_
  intro W base args ds gs before hval hW _ _
  exact ZjB H enc W base args ds gs before hval hW
theorem proved : Rows.MatrixTellsSaid :=
  OpenClaim.holds_of_wide 5 Tryz.f5 rfl rfl rfl rfl rfl rfl rfl ⟨rfl, rfl, rfl, rfl, rfl⟩ rfl rfl rfl rfl rfl (by kernel_rfl) Tryz.func5 (by kernel_rfl)
    (of_decide_eq_true (by kernel_rfl)) (by unfold Func.isWrapper; first | (rw [if_pos (by decide +kernel)]; kernel_rfl) | (rw [if_neg (by decide +kernel)]; exact ⟨rfl, rfl⟩))
    (fun os started H enc _ => ZjC os started H enc)
end Go.Proofs.YtcclngfmkodgjaaGreat.matrixTells

