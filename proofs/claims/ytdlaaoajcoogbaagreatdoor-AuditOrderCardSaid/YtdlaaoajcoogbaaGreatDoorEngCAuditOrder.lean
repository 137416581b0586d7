/- AuditOrder holds: for every input the call returns true and leaves its arguments as they were. No conditions. -/
/- Part of the proof of AuditOrder: printed mirrors of the functions, or their contracts. No conditions. -/
import Derived.Test.YtdlaaoajcoogbaaGreatDoorMAE
import Derived.Test.YtdlaaoajcoogbaaGreatDoorEngA3
import Derived.Test.YtdlaaoajcoogbaaGreatDoorEngGl
import Derived.Test.YtdlaaoajcoogbaaGreatDoorCards
import Derived.Test.YtdlaaoajcoogbaaGreatDoorTie
import Derived.Deep.DeepHandedRow
import Derived.Lib.LaidTab
import Derived.WalkKit
import Derived.ProofKit
import Derived.OpenShut
import Derived.JoinedCond
import Derived.SizedLaws
namespace Go.Proofs.YtdlaaoajcoogbaaGreatDoor.auditOrder
open Go.ChangeShapes Go.WideShapes Go.ChangeAt Go.RowKit Go.Eng
set_option linter.unusedVariables false
set_option maxRecDepth 100000
theorem gNm : Tryz.prog.globalNamed "paling/audit.words" = some 0 := by kernel_rfl
theorem gTy : (Tryz.prog.globals[0]?).map (·.type) = some 71 := by kernel_rfl
theorem glok {W : World} (h : laidMetH Tryz.prog Rows.auditOrderRow.laid W) : GlOk UU W := fun g r hg => by
  have h' : laidMet Tryz.prog [("paling/audit.words", strData [(⟨#[]⟩ : ByteArray), (⟨#[115, 104, 105, 102, 116, 101, 100]⟩ : ByteArray), (⟨#[108, 111, 112, 115, 105, 100, 101, 100]⟩ : ByteArray), (⟨#[108, 111, 110, 101, 108, 121]⟩ : ByteArray), (⟨#[115, 105, 108, 101, 110, 116]⟩ : ByteArray), (⟨#[117, 110, 117, 115, 101, 100]⟩ : ByteArray), (⟨#[112, 105, 110, 110, 101, 100]⟩ : ByteArray), (⟨#[98, 97, 114, 101]⟩ : ByteArray), (⟨#[108, 101, 97, 100, 105, 110, 103]⟩ : ByteArray), (⟨#[116, 114, 117, 110, 107]⟩ : ByteArray)])] W := h
  cases g with
  | zero =>
    have e : some (([(⟨#[]⟩ : ByteArray), (⟨#[115, 104, 105, 102, 116, 101, 100]⟩ : ByteArray), (⟨#[108, 111, 112, 115, 105, 100, 101, 100]⟩ : ByteArray), (⟨#[108, 111, 110, 101, 108, 121]⟩ : ByteArray), (⟨#[115, 105, 108, 101, 110, 116]⟩ : ByteArray), (⟨#[117, 110, 117, 115, 101, 100]⟩ : ByteArray), (⟨#[112, 105, 110, 110, 101, 100]⟩ : ByteArray), (⟨#[98, 97, 114, 101]⟩ : ByteArray), (⟨#[108, 101, 97, 100, 105, 110, 103]⟩ : ByteArray), (⟨#[116, 114, 117, 110, 107]⟩ : ByteArray)] : List ByteArray).map fun w => (.v (.string w) : AV DD)) = some r := hg
    rw [← Option.some.inj e]
    exact gl_head (by simp) gNm gTy Tryz.underlying71 Tryz.underlying9 (by kernel_rfl) h'
  | succ g => cases hg
theorem own : ownKnob Tryz.prog.godebug = none := by kernel_rfl
theorem contract (H : Type) (enc : TypeId × Value → H) (W : World) (base : Nat) (args : Array Value) (ds gs : List (DataW H)) (before : List MemPlace)
    (hval : ∀ (j : Nat) t v, Tryz.f5.params[j]? = some t → args[j]? = some v → Value.okWide Tryz.prog W .any base t v)
    (hW : DataW.Whole enc Tryz.prog Tryz.f5.params.toList Rows.auditOrderSpec.vars false W args.toList ds gs before) (hL : laidMetH Tryz.prog Rows.auditOrderRow.laid W) :
    Calls Tryz.prog 5 args W fun e W' => ∃ v, e = .returned v ∧ Rows.auditOrderSpec.post enc Tryz.prog Tryz.f5 false true false false W args v W' := by
  have hW' := hW
  have hlt := hW.lt
  obtain ⟨p, q, hA0, hV, rfl, hfz, hnd⟩ := hW
  have hA : DataW.TrodAll enc Tryz.prog W 0 (fun _ => true) true Tryz.f5.params.toList args.toList ds p := hA0
  have hA2 := hA
  rw [Tryz.params5] at hA2 hval
  obtain ⟨v0, vs0, d0, ds0, p0, q0, hargs, rfl, rfl, h0, r0⟩ := trodAll_cons hA2
  obtain ⟨rfl, rfl, rfl⟩ := trodAll_nil r0
  obtain rfl : args = #[v0] := by cases args; simp_all
  obtain ⟨rfl, rfl⟩ := trodVars_none hV
  obtain ⟨x0, e0, o0⟩ := arg_struct Tryz.underlying31 (ent31 (S := (E0 W).S) (fun b h => h)) (hval 0 31 v0 rfl rfl) h0
  refine (calls_out (k_palinglaw47_AuditOrder (auditOrder x0 o0)) (args := #[v0]) (glok hL) (prepL_cons e0 prepL_nil)).mono fun e W' ⟨v, E', he, _, hr, hb, hz⟩ => ?_
  have hv := rep_bool hr
  subst hv; subst he
  exact ⟨_, rfl, post_same_old (pv := []) hW' (fun _ _ _ => (trodAll_cons_mk (shut_bool Tryz.underlying4 _) trodAll_mk0)) (fun sp hs => trodAll_stays (by kernel_rfl) hb (by kernel_rfl) hA (fun x hx => hlt x (by simpa using hx)) (fun x hx => hs x (by simpa using hx))) (fun _ _ => rfl) rfl
    (hb.frame _) hz (ok_one (by kernel_rfl) rfl (okWide_bool_mk Tryz.underlying4 _))⟩
noncomputable def laidWorld (os : Os) : World :=
  { World.holding Tryz.prog os ⟨#[], #[], []⟩ with heap := (World.holding Tryz.prog os ⟨#[], #[], []⟩).heap.modify 0 fun
      | .cells _ t frozen => .cells #[.string ⟨#[]⟩, .string ⟨#[115, 104, 105, 102, 116, 101, 100]⟩, .string ⟨#[108, 111, 112, 115, 105, 100, 101, 100]⟩, .string ⟨#[108, 111, 110, 101, 108, 121]⟩, .string ⟨#[115, 105, 108, 101, 110, 116]⟩, .string ⟨#[117, 110, 117, 115, 101, 100]⟩, .string ⟨#[112, 105, 110, 110, 101, 100]⟩, .string ⟨#[98, 97, 114, 101]⟩, .string ⟨#[108, 101, 97, 100, 105, 110, 103]⟩, .string ⟨#[116, 114, 117, 110, 107]⟩] t frozen
      | o => o }
theorem laid_met (os : Os) : laidMet Tryz.prog Rows.auditOrderRow.laid ((laidWorld os).forCall (fun _ _ => 0) ⟨#[], #[.agg #[.slice none 0 0, .slice none 0 0, .slice none 0 0, .slice none 0 0, .slice none 0 0, .slice none 0 0, .slice none 0 0, .slice none 0 0]], []⟩).memory :=
  laidMet_of_run' 8 (by kernel_rfl) (by kernel_rfl)
theorem reads (os : Os) {H : Type} (enc : TypeId × Value → H) : ∃ x, DataW.whole enc Tryz.prog ((laidWorld os).forCall (fun _ _ => 0) ⟨#[], #[.agg #[.slice none 0 0, .slice none 0 0, .slice none 0 0, .slice none 0 0, .slice none 0 0, .slice none 0 0, .slice none 0 0, .slice none 0 0]], []⟩).memory Tryz.f5.params.toList Rows.auditOrderSpec.vars false (#[.agg #[.slice none 0 0, .slice none 0 0, .slice none 0 0, .slice none 0 0, .slice none 0 0, .slice none 0 0, .slice none 0 0, .slice none 0 0]] : Array Value).toList 8 = some x :=
  Option.isSome_iff_exists.1 (by kernel_rfl)
theorem lifted (os : Os) (started : os.Started) (H : Type) (enc : TypeId × Value → H) (F : Stop.Interp) :
    ReturnsInHanded {} Tryz.checked os 5 .any ((OpenSpec.ofChange Rows.auditOrderSpec).preRow enc Tryz.prog Tryz.f5 Rows.auditOrderRow.domain false Rows.auditOrderRow.laid) (((OpenSpec.ofChange Rows.auditOrderSpec).at F).post enc Tryz.prog Tryz.f5 false true false false) := by
  obtain ⟨x, hx⟩ := reads os enc
  refine returnsInHanded_of_row (C := Tryz.checked) (s := OpenSpec.ofChange Rows.auditOrderSpec) own started (by kernel_rfl) Tryz.func5
    (witness_row_at (enc := enc) (C := Tryz.checked) false (laidWorld os) #[.agg #[.slice none 0 0, .slice none 0 0, .slice none 0 0, .slice none 0 0, .slice none 0 0, .slice none 0 0, .slice none 0 0, .slice none 0 0]] rfl (by kernel_rfl) (by kernel_rfl) (by kernel_rfl)
      (OpenSpec.preRow_of_cond 8 hx (by rfl) (fun k hk => by cases hk) (by kernel_rfl) (laid_met os))) ?_
  intro W base args ds gs before hval hW _ _ hz hL _ _
  exact contract H enc W base args ds gs before hval hW hL
theorem said : Rows.AuditOrderSaid :=
  OpenClaim.holds_of_cond 5 Tryz.f5 rfl rfl rfl rfl rfl rfl rfl ⟨rfl, rfl, rfl, rfl, rfl⟩ rfl rfl rfl rfl rfl (by kernel_rfl) Tryz.func5 (by kernel_rfl)
    (of_decide_eq_true (by kernel_rfl)) (by unfold Func.isWrapper; first | (rw [if_pos (by decide +kernel)]; kernel_rfl) | (rw [if_neg (by decide +kernel)]; exact ⟨rfl, rfl⟩))
    (fun os started H enc _ F => by rw [OpenClaim.pre_eq_preRow]; exact lifted os started H enc F)
theorem plain (f : FuncId) (fn : Func) (hf : Tryz.pinned.checked.prog.funcNamed "paling/palinglaw47.AuditOrder" = some f) (hfn : Tryz.pinned.checked.prog.funcs[f]? = some fn) :
    false = Tryz.pinned.checked.prog.looks [] ∧ ∀ (j : Nat) t, fn.params[j]? = some t → Tryz.pinned.checked.prog.wantsStandIn t = false := by
  obtain rfl : f = 5 := Option.some.inj ((show Tryz.prog.funcNamed "paling/palinglaw47.AuditOrder" = some 5 by kernel_rfl).symm.trans hf) |>.symm
  obtain rfl : fn = Tryz.f5 := (Option.some.inj (Tryz.func5.symm.trans hfn)).symm
  refine ⟨by kernel_rfl, fun j t ht => ?_⟩
  rw [Tryz.params5] at ht
  have hm : t = 31 := by simpa using Array.mem_of_getElem? ht
  subst hm
  exact (show Tryz.prog.wantsStandIn 31 = false by kernel_rfl)
theorem proved : Rows.AuditOrderCardSaid :=
  Claim7.holds_tied_plain_at .later [] _ _ _ _ said (fun _ h => by cases h) (by kernel_rfl) (fun _ h => by cases h) auditOrder_row_tie rfl ⟨rfl, rfl⟩ (by kernel_rfl) rfl plain (by kernel_rfl)
end Go.Proofs.YtdlaaoajcoogbaaGreatDoor.auditOrder

