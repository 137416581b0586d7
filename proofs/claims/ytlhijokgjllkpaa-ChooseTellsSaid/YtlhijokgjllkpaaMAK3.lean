/- Part of the proof of ChooseTells: printed mirrors of the functions, or their contracts. No conditions. -/
import Derived.Test.YtlhijokgjllkpaaMAK2
set_option linter.unusedVariables false
set_option maxRecDepth 100000
namespace Go.Eng
open Go Go.Proofs
theorem k_names_Same_1 {a1 : Api_Port} {a2 : Api_Port} {r : Bool} (h : names_Same_1 a1 a2 = some r) :
    CallsOK Try.prog UU 80 [.agg (c36 a1), .agg (c36 a2)] [] (.v (.bool r)) [] := by
  unfold names_Same_1 at h
  rcases ite_out h with ⟨h3, h⟩ | ⟨h3, h⟩
  · rcases ite_out h with ⟨h4, h⟩ | ⟨h4, h⟩
    · rcases ite_out h with ⟨h5, h⟩ | ⟨h5, h⟩
      · rcases ite_out h with ⟨h6, h⟩ | ⟨h6, h⟩
        · rcases ite_out h with ⟨h7, h⟩ | ⟨h7, h⟩
          · rcases ite_out h with ⟨h8, h⟩ | ⟨h8, h⟩
            · obtain ⟨r9, h10, h⟩ := bind_out h
              injection h with h; subst h; exact runFn_sound mixedOrders Try.func80 rfl (keep := none) (π := [.dec true, .dec true, .dec true, .dec true, .dec true, .dec true, .callv (.v (.bool r9))]) (hrun := by kernel_rfl) (hps := pc (h3) <| pc (h4) <| pc (h5) <| pc (h6) <| pc (h7) <| pc (h8) <| pc (k_slices_Equal_int h10) <| pn)
            · injection h with h; subst h; exact runFn_sound mixedOrders Try.func80 rfl (keep := none) (π := [.dec true, .dec true, .dec true, .dec true, .dec true, .dec false]) (hrun := by kernel_rfl) (hps := pc (h3) <| pc (h4) <| pc (h5) <| pc (h6) <| pc (h7) <| pc (h8) <| pn)
          · injection h with h; subst h; exact runFn_sound mixedOrders Try.func80 rfl (keep := none) (π := [.dec true, .dec true, .dec true, .dec true, .dec false]) (hrun := by kernel_rfl) (hps := pc (h3) <| pc (h4) <| pc (h5) <| pc (h6) <| pc (h7) <| pn)
        · injection h with h; subst h; exact runFn_sound mixedOrders Try.func80 rfl (keep := none) (π := [.dec true, .dec true, .dec true, .dec false]) (hrun := by kernel_rfl) (hps := pc (h3) <| pc (h4) <| pc (h5) <| pc (h6) <| pn)
      · injection h with h; subst h; exact runFn_sound mixedOrders Try.func80 rfl (keep := none) (π := [.dec true, .dec true, .dec false]) (hrun := by kernel_rfl) (hps := pc (h3) <| pc (h4) <| pc (h5) <| pn)
    · injection h with h; subst h; exact runFn_sound mixedOrders Try.func80 rfl (keep := none) (π := [.dec true, .dec false]) (hrun := by kernel_rfl) (hps := pc (h3) <| pc (h4) <| pn)
  · injection h with h; subst h; exact runFn_sound mixedOrders Try.func80 rfl (keep := none) (π := [.dec false]) (hrun := by kernel_rfl) (hps := pc (h3) <| pn)

theorem k_slices_EqualFunc_Port_Same_1_L1 {a1 : List Api_Port} {a2 : List Api_Port} : LoopOK Try.prog UU 0 32 (subC (codeOf Try.f79) [1, 1, 0, 1, 0, 0]) (ρ := Unit ⊕ Unit) (slices_EqualFunc_Port_Same_1_L1 a1 a2)
    (fun v4 : Int => ([(1, .sl 36 a2), (2, .fn (.func 80) [] []), (6, .v (.bool false)), (15, .sl 36 a1), (16, .v (.int .i64 (a1.length : Int))), (17, .v (.int .i64 v4))] : Fr DD)) (fun v4 : Int => ([] : Heap DD)) (fun r => match r with | Sum.inl _ => .ret | Sum.inr _ => .exit 0) (fun r => match r with | Sum.inl _ => [(6, .v (.bool false))] | Sum.inr _ => [(6, .v (.bool false))]) (fun r => match r with | Sum.inl _ => [] | Sum.inr _ => []) := by
  refine loop_sound3 (fun s q h => ?_) (fun r => ?_)
  · replace h : slices_EqualFunc_Port_Same_1_L1 a1 a2 s = some q := h; revert h; revert s; intro v4 h
    unfold slices_EqualFunc_Port_Same_1_L1 at h
    rcases ite_out h with ⟨h5, h⟩ | ⟨h5, h⟩
    · obtain ⟨x6, h7, h⟩ := bind_out h
      obtain ⟨x8, h9, h⟩ := bind_out h
      obtain ⟨r10, h11, h⟩ := bind_out h
      rcases ite_out h with ⟨h12, h⟩ | ⟨h12, h⟩
      · injection h with h; subst h; exact runLp_sound mixedOrders (live := [6]) (ids := []) (π := [.dec true, .row (c36 x6), .row (c36 x8), .callv (.v (.bool r10)), .dec true]) (hx := by kernel_rfl) (hps := pc (h5) <| pc (ob36 h7) <| pc (ob36 h9) <| pc (k_names_Same_1 h11) <| pc (h12) <| pn)
      · injection h with h; subst h; exact runLp_sound mixedOrders (live := [1, 2, 6, 15, 16, 17]) (ids := []) (π := [.dec true, .row (c36 x6), .row (c36 x8), .callv (.v (.bool r10)), .dec false]) (hx := by kernel_rfl) (hps := pc (h5) <| pc (ob36 h7) <| pc (ob36 h9) <| pc (k_names_Same_1 h11) <| pc (h12) <| pn)
    · injection h with h; subst h; exact runLp_sound mixedOrders (live := [6]) (ids := []) (π := [.dec false]) (hx := by kernel_rfl) (hps := pc (h5) <| pn)
  · rcases r with _ | _ <;> exact Ex.noConfusion

theorem k_slices_EqualFunc_Port_Same_1 {a1 : List Api_Port} {a2 : List Api_Port} {r : Bool} (h : slices_EqualFunc_Port_Same_1 a1 a2 = some r) :
    CallsOK Try.prog UU 79 [.sl 36 a1, .sl 36 a2, .fn (.func 80) [] []] [] (.v (.bool r)) [] := by
  unfold slices_EqualFunc_Port_Same_1 at h
  rcases ite_out h with ⟨h3, h⟩ | ⟨h3, h⟩
  · injection h with h; subst h; exact runFn_sound mixedOrders Try.func79 rfl (keep := none) (π := [.dec true]) (hrun := by kernel_rfl) (hps := pc (h3) <| pn)
  · obtain ⟨r14, h13, h⟩ := bind_out h
    rcases r14 with _ | _
    · injection h with h; subst h; exact runFn_sound mixedOrders Try.func79 rfl (keep := none) (π := [.dec false, .sum [1, 2, 6, 15, 16, 17] [] .ret [(6, .v (.bool false))] []]) (hrun := by kernel_rfl) (hps := pc (h3) <| pc (k_slices_EqualFunc_Port_Same_1_L1 _ _ h13) <| pn)
    · injection h with h; subst h; exact runFn_sound mixedOrders Try.func79 rfl (keep := none) (π := [.dec false, .sum [1, 2, 6, 15, 16, 17] [] (.exit 0) [(6, .v (.bool false))] []]) (hrun := by kernel_rfl) (hps := pc (h3) <| pc (k_slices_EqualFunc_Port_Same_1_L1 _ _ h13) <| pn)

theorem k_names_Same_2 {a1 : Api_Domain} {a2 : Api_Domain} {r : Bool} (h : names_Same_2 a1 a2 = some r) :
    CallsOK Try.prog UU 83 [.agg (c56 a1), .agg (c56 a2)] [] (.v (.bool r)) [] := by
  unfold names_Same_2 at h
  rcases ite_out h with ⟨h3, h⟩ | ⟨h3, h⟩
  · rcases ite_out h with ⟨h4, h⟩ | ⟨h4, h⟩
    · rcases ite_out h with ⟨h5, h⟩ | ⟨h5, h⟩
      · rcases ite_out h with ⟨h6, h⟩ | ⟨h6, h⟩
        · rcases ite_out h with ⟨h7, h⟩ | ⟨h7, h⟩
          · obtain ⟨r8, h9, h⟩ := bind_out h
            injection h with h; subst h; exact runFn_sound mixedOrders Try.func83 rfl (keep := none) (π := [.dec true, .dec true, .dec true, .dec true, .dec true, .callv (.v (.bool r8))]) (hrun := by kernel_rfl) (hps := pc (h3) <| pc (h4) <| pc (h5) <| pc (h6) <| pc (h7) <| pc (k_slices_Equal_int h9) <| pn)
          · injection h with h; subst h; exact runFn_sound mixedOrders Try.func83 rfl (keep := none) (π := [.dec true, .dec true, .dec true, .dec true, .dec false]) (hrun := by kernel_rfl) (hps := pc (h3) <| pc (h4) <| pc (h5) <| pc (h6) <| pc (h7) <| pn)
        · injection h with h; subst h; exact runFn_sound mixedOrders Try.func83 rfl (keep := none) (π := [.dec true, .dec true, .dec true, .dec false]) (hrun := by kernel_rfl) (hps := pc (h3) <| pc (h4) <| pc (h5) <| pc (h6) <| pn)
      · injection h with h; subst h; exact runFn_sound mixedOrders Try.func83 rfl (keep := none) (π := [.dec true, .dec true, .dec false]) (hrun := by kernel_rfl) (hps := pc (h3) <| pc (h4) <| pc (h5) <| pn)
    · injection h with h; subst h; exact runFn_sound mixedOrders Try.func83 rfl (keep := none) (π := [.dec true, .dec false]) (hrun := by kernel_rfl) (hps := pc (h3) <| pc (h4) <| pn)
  · injection h with h; subst h; exact runFn_sound mixedOrders Try.func83 rfl (keep := none) (π := [.dec false]) (hrun := by kernel_rfl) (hps := pc (h3) <| pn)

theorem k_slices_EqualFunc_Domain_Same_2_L1 {a1 : List Api_Domain} {a2 : List Api_Domain} : LoopOK Try.prog UU 0 32 (subC (codeOf Try.f82) [1, 1, 0, 1, 0, 0]) (ρ := Unit ⊕ Unit) (slices_EqualFunc_Domain_Same_2_L1 a1 a2)
    (fun v4 : Int => ([(1, .sl 56 a2), (2, .fn (.func 83) [] []), (6, .v (.bool false)), (15, .sl 56 a1), (16, .v (.int .i64 (a1.length : Int))), (17, .v (.int .i64 v4))] : Fr DD)) (fun v4 : Int => ([] : Heap DD)) (fun r => match r with | Sum.inl _ => .ret | Sum.inr _ => .exit 0) (fun r => match r with | Sum.inl _ => [(6, .v (.bool false))] | Sum.inr _ => [(6, .v (.bool false))]) (fun r => match r with | Sum.inl _ => [] | Sum.inr _ => []) := by
  refine loop_sound3 (fun s q h => ?_) (fun r => ?_)
  · replace h : slices_EqualFunc_Domain_Same_2_L1 a1 a2 s = some q := h; revert h; revert s; intro v4 h
    unfold slices_EqualFunc_Domain_Same_2_L1 at h
    rcases ite_out h with ⟨h5, h⟩ | ⟨h5, h⟩
    · obtain ⟨x6, h7, h⟩ := bind_out h
      obtain ⟨x8, h9, h⟩ := bind_out h
      obtain ⟨r10, h11, h⟩ := bind_out h
      rcases ite_out h with ⟨h12, h⟩ | ⟨h12, h⟩
      · injection h with h; subst h; exact runLp_sound mixedOrders (live := [6]) (ids := []) (π := [.dec true, .row (c56 x6), .row (c56 x8), .callv (.v (.bool r10)), .dec true]) (hx := by kernel_rfl) (hps := pc (h5) <| pc (ob56 h7) <| pc (ob56 h9) <| pc (k_names_Same_2 h11) <| pc (h12) <| pn)
      · injection h with h; subst h; exact runLp_sound mixedOrders (live := [1, 2, 6, 15, 16, 17]) (ids := []) (π := [.dec true, .row (c56 x6), .row (c56 x8), .callv (.v (.bool r10)), .dec false]) (hx := by kernel_rfl) (hps := pc (h5) <| pc (ob56 h7) <| pc (ob56 h9) <| pc (k_names_Same_2 h11) <| pc (h12) <| pn)
    · injection h with h; subst h; exact runLp_sound mixedOrders (live := [6]) (ids := []) (π := [.dec false]) (hx := by kernel_rfl) (hps := pc (h5) <| pn)
  · rcases r with _ | _ <;> exact Ex.noConfusion

theorem k_slices_EqualFunc_Domain_Same_2 {a1 : List Api_Domain} {a2 : List Api_Domain} {r : Bool} (h : slices_EqualFunc_Domain_Same_2 a1 a2 = some r) :
    CallsOK Try.prog UU 82 [.sl 56 a1, .sl 56 a2, .fn (.func 83) [] []] [] (.v (.bool r)) [] := by
  unfold slices_EqualFunc_Domain_Same_2 at h
  rcases ite_out h with ⟨h3, h⟩ | ⟨h3, h⟩
  · injection h with h; subst h; exact runFn_sound mixedOrders Try.func82 rfl (keep := none) (π := [.dec true]) (hrun := by kernel_rfl) (hps := pc (h3) <| pn)
  · obtain ⟨r14, h13, h⟩ := bind_out h
    rcases r14 with _ | _
    · injection h with h; subst h; exact runFn_sound mixedOrders Try.func82 rfl (keep := none) (π := [.dec false, .sum [1, 2, 6, 15, 16, 17] [] .ret [(6, .v (.bool false))] []]) (hrun := by kernel_rfl) (hps := pc (h3) <| pc (k_slices_EqualFunc_Domain_Same_2_L1 _ _ h13) <| pn)
    · injection h with h; subst h; exact runFn_sound mixedOrders Try.func82 rfl (keep := none) (π := [.dec false, .sum [1, 2, 6, 15, 16, 17] [] (.exit 0) [(6, .v (.bool false))] []]) (hrun := by kernel_rfl) (hps := pc (h3) <| pc (k_slices_EqualFunc_Domain_Same_2_L1 _ _ h13) <| pn)

theorem k_slices_Equal_uint32_L1 {a1 : List Int} {a2 : List Int} : LoopOK Try.prog UU 0 26 (subC (codeOf Try.f86) [1, 1, 0, 1, 0, 0]) (ρ := Unit ⊕ Unit) (slices_Equal_uint32_L1 a1 a2)
    (fun v4 : Int => ([(0, .sl 52 a1), (1, .sl 52 a2), (4, .v (.bool false)), (12, .v (.int .i64 (a1.length : Int))), (13, .v (.int .i64 v4))] : Fr DD)) (fun v4 : Int => ([] : Heap DD)) (fun r => match r with | Sum.inl _ => .ret | Sum.inr _ => .exit 0) (fun r => match r with | Sum.inl _ => [(4, .v (.bool false))] | Sum.inr _ => [(4, .v (.bool false))]) (fun r => match r with | Sum.inl _ => [] | Sum.inr _ => []) := by
  refine loop_sound3 (fun s q h => ?_) (fun r => ?_)
  · replace h : slices_Equal_uint32_L1 a1 a2 s = some q := h; revert h; revert s; intro v4 h
    unfold slices_Equal_uint32_L1 at h
    rcases ite_out h with ⟨h5, h⟩ | ⟨h5, h⟩
    · obtain ⟨x6, h7, h⟩ := bind_out h
      obtain ⟨x8, h9, h⟩ := bind_out h
      rcases ite_out h with ⟨h10, h⟩ | ⟨h10, h⟩
      · injection h with h; subst h; exact runLp_sound mixedOrders (live := [4]) (ids := []) (π := [.dec true, .row (c52 x6), .row (c52 x8), .dec true]) (hx := by kernel_rfl) (hps := pc (h5) <| pc (ob52 h7) <| pc (ob52 h9) <| pc (h10) <| pn)
      · injection h with h; subst h; exact runLp_sound mixedOrders (live := [0, 1, 4, 12, 13]) (ids := []) (π := [.dec true, .row (c52 x6), .row (c52 x8), .dec false]) (hx := by kernel_rfl) (hps := pc (h5) <| pc (ob52 h7) <| pc (ob52 h9) <| pc (h10) <| pn)
    · injection h with h; subst h; exact runLp_sound mixedOrders (live := [4]) (ids := []) (π := [.dec false]) (hx := by kernel_rfl) (hps := pc (h5) <| pn)
  · rcases r with _ | _ <;> exact Ex.noConfusion

theorem k_slices_Equal_uint32 {a1 : List Int} {a2 : List Int} {r : Bool} (h : slices_Equal_uint32 a1 a2 = some r) :
    CallsOK Try.prog UU 86 [.sl 52 a1, .sl 52 a2] [] (.v (.bool r)) [] := by
  unfold slices_Equal_uint32 at h
  rcases ite_out h with ⟨h3, h⟩ | ⟨h3, h⟩
  · injection h with h; subst h; exact runFn_sound mixedOrders Try.func86 rfl (keep := none) (π := [.dec true]) (hrun := by kernel_rfl) (hps := pc (h3) <| pn)
  · obtain ⟨r12, h11, h⟩ := bind_out h
    rcases r12 with _ | _
    · injection h with h; subst h; exact runFn_sound mixedOrders Try.func86 rfl (keep := none) (π := [.dec false, .sum [0, 1, 4, 12, 13] [] .ret [(4, .v (.bool false))] []]) (hrun := by kernel_rfl) (hps := pc (h3) <| pc (k_slices_Equal_uint32_L1 _ _ h11) <| pn)
    · injection h with h; subst h; exact runFn_sound mixedOrders Try.func86 rfl (keep := none) (π := [.dec false, .sum [0, 1, 4, 12, 13] [] (.exit 0) [(4, .v (.bool false))] []]) (hrun := by kernel_rfl) (hps := pc (h3) <| pc (k_slices_Equal_uint32_L1 _ _ h11) <| pn)

theorem k_names_Same_3 {a1 : Api_Flood} {a2 : Api_Flood} {r : Bool} (h : names_Same_3 a1 a2 = some r) :
    CallsOK Try.prog UU 85 [.agg (c91 a1), .agg (c91 a2)] [] (.v (.bool r)) [] := by
  unfold names_Same_3 at h
  rcases ite_out h with ⟨h3, h⟩ | ⟨h3, h⟩
  · rcases ite_out h with ⟨h4, h⟩ | ⟨h4, h⟩
    · rcases ite_out h with ⟨h5, h⟩ | ⟨h5, h⟩
      · obtain ⟨r6, h7, h⟩ := bind_out h
        injection h with h; subst h; exact runFn_sound mixedOrders Try.func85 rfl (keep := none) (π := [.dec true, .dec true, .dec true, .callv (.v (.bool r6))]) (hrun := by kernel_rfl) (hps := pc (h3) <| pc (h4) <| pc (h5) <| pc (k_slices_Equal_uint32 h7) <| pn)
      · injection h with h; subst h; exact runFn_sound mixedOrders Try.func85 rfl (keep := none) (π := [.dec true, .dec true, .dec false]) (hrun := by kernel_rfl) (hps := pc (h3) <| pc (h4) <| pc (h5) <| pn)
    · injection h with h; subst h; exact runFn_sound mixedOrders Try.func85 rfl (keep := none) (π := [.dec true, .dec false]) (hrun := by kernel_rfl) (hps := pc (h3) <| pc (h4) <| pn)
  · injection h with h; subst h; exact runFn_sound mixedOrders Try.func85 rfl (keep := none) (π := [.dec false]) (hrun := by kernel_rfl) (hps := pc (h3) <| pn)

theorem k_slices_EqualFunc_Flood_Same_3_L1 {a1 : List Api_Flood} {a2 : List Api_Flood} : LoopOK Try.prog UU 0 32 (subC (codeOf Try.f84) [1, 1, 0, 1, 0, 0]) (ρ := Unit ⊕ Unit) (slices_EqualFunc_Flood_Same_3_L1 a1 a2)
    (fun v4 : Int => ([(1, .sl 91 a2), (2, .fn (.func 85) [] []), (6, .v (.bool false)), (15, .sl 91 a1), (16, .v (.int .i64 (a1.length : Int))), (17, .v (.int .i64 v4))] : Fr DD)) (fun v4 : Int => ([] : Heap DD)) (fun r => match r with | Sum.inl _ => .ret | Sum.inr _ => .exit 0) (fun r => match r with | Sum.inl _ => [(6, .v (.bool false))] | Sum.inr _ => [(6, .v (.bool false))]) (fun r => match r with | Sum.inl _ => [] | Sum.inr _ => []) := by
  refine loop_sound3 (fun s q h => ?_) (fun r => ?_)
  · replace h : slices_EqualFunc_Flood_Same_3_L1 a1 a2 s = some q := h; revert h; revert s; intro v4 h
    unfold slices_EqualFunc_Flood_Same_3_L1 at h
    rcases ite_out h with ⟨h5, h⟩ | ⟨h5, h⟩
    · obtain ⟨x6, h7, h⟩ := bind_out h
      obtain ⟨x8, h9, h⟩ := bind_out h
      obtain ⟨r10, h11, h⟩ := bind_out h
      rcases ite_out h with ⟨h12, h⟩ | ⟨h12, h⟩
      · injection h with h; subst h; exact runLp_sound mixedOrders (live := [6]) (ids := []) (π := [.dec true, .row (c91 x6), .row (c91 x8), .callv (.v (.bool r10)), .dec true]) (hx := by kernel_rfl) (hps := pc (h5) <| pc (ob91 h7) <| pc (ob91 h9) <| pc (k_names_Same_3 h11) <| pc (h12) <| pn)
      · injection h with h; subst h; exact runLp_sound mixedOrders (live := [1, 2, 6, 15, 16, 17]) (ids := []) (π := [.dec true, .row (c91 x6), .row (c91 x8), .callv (.v (.bool r10)), .dec false]) (hx := by kernel_rfl) (hps := pc (h5) <| pc (ob91 h7) <| pc (ob91 h9) <| pc (k_names_Same_3 h11) <| pc (h12) <| pn)
    · injection h with h; subst h; exact runLp_sound mixedOrders (live := [6]) (ids := []) (π := [.dec false]) (hx := by kernel_rfl) (hps := pc (h5) <| pn)
  · rcases r with _ | _ <;> exact Ex.noConfusion

theorem k_slices_EqualFunc_Flood_Same_3 {a1 : List Api_Flood} {a2 : List Api_Flood} {r : Bool} (h : slices_EqualFunc_Flood_Same_3 a1 a2 = some r) :
    CallsOK Try.prog UU 84 [.sl 91 a1, .sl 91 a2, .fn (.func 85) [] []] [] (.v (.bool r)) [] := by
  unfold slices_EqualFunc_Flood_Same_3 at h
  rcases ite_out h with ⟨h3, h⟩ | ⟨h3, h⟩
  · injection h with h; subst h; exact runFn_sound mixedOrders Try.func84 rfl (keep := none) (π := [.dec true]) (hrun := by kernel_rfl) (hps := pc (h3) <| pn)
  · obtain ⟨r14, h13, h⟩ := bind_out h
    rcases r14 with _ | _
    · injection h with h; subst h; exact runFn_sound mixedOrders Try.func84 rfl (keep := none) (π := [.dec false, .sum [1, 2, 6, 15, 16, 17] [] .ret [(6, .v (.bool false))] []]) (hrun := by kernel_rfl) (hps := pc (h3) <| pc (k_slices_EqualFunc_Flood_Same_3_L1 _ _ h13) <| pn)
    · injection h with h; subst h; exact runFn_sound mixedOrders Try.func84 rfl (keep := none) (π := [.dec false, .sum [1, 2, 6, 15, 16, 17] [] (.exit 0) [(6, .v (.bool false))] []]) (hrun := by kernel_rfl) (hps := pc (h3) <| pc (k_slices_EqualFunc_Flood_Same_3_L1 _ _ h13) <| pn)

theorem k_names_Same_4 {a1 : Api_Vrf} {a2 : Api_Vrf} {r : Bool} (h : names_Same_4 a1 a2 = some r) :
    CallsOK Try.prog UU 88 [.agg (c58 a1), .agg (c58 a2)] [] (.v (.bool r)) [] := by
  unfold names_Same_4 at h
  rcases ite_out h with ⟨h3, h⟩ | ⟨h3, h⟩
  · rcases ite_out h with ⟨h4, h⟩ | ⟨h4, h⟩
    · rcases ite_out h with ⟨h5, h⟩ | ⟨h5, h⟩
      · obtain ⟨r6, h7, h⟩ := bind_out h
        rcases ite_out h with ⟨h8, h⟩ | ⟨h8, h⟩
        · obtain ⟨r9, h10, h⟩ := bind_out h
          injection h with h; subst h; exact runFn_sound mixedOrders Try.func88 rfl (keep := none) (π := [.dec true, .dec true, .dec true, .callv (.v (.bool r6)), .dec true, .callv (.v (.bool r9))]) (hrun := by kernel_rfl) (hps := pc (h3) <| pc (h4) <| pc (h5) <| pc (k_slices_Equal_int h7) <| pc (h8) <| pc (k_slices_Equal_int h10) <| pn)
        · injection h with h; subst h; exact runFn_sound mixedOrders Try.func88 rfl (keep := none) (π := [.dec true, .dec true, .dec true, .callv (.v (.bool r6)), .dec false]) (hrun := by kernel_rfl) (hps := pc (h3) <| pc (h4) <| pc (h5) <| pc (k_slices_Equal_int h7) <| pc (h8) <| pn)
      · injection h with h; subst h; exact runFn_sound mixedOrders Try.func88 rfl (keep := none) (π := [.dec true, .dec true, .dec false]) (hrun := by kernel_rfl) (hps := pc (h3) <| pc (h4) <| pc (h5) <| pn)
    · injection h with h; subst h; exact runFn_sound mixedOrders Try.func88 rfl (keep := none) (π := [.dec true, .dec false]) (hrun := by kernel_rfl) (hps := pc (h3) <| pc (h4) <| pn)
  · injection h with h; subst h; exact runFn_sound mixedOrders Try.func88 rfl (keep := none) (π := [.dec false]) (hrun := by kernel_rfl) (hps := pc (h3) <| pn)

theorem k_slices_EqualFunc_Vrf_Same_4_L1 {a1 : List Api_Vrf} {a2 : List Api_Vrf} : LoopOK Try.prog UU 0 32 (subC (codeOf Try.f87) [1, 1, 0, 1, 0, 0]) (ρ := Unit ⊕ Unit) (slices_EqualFunc_Vrf_Same_4_L1 a1 a2)
    (fun v4 : Int => ([(1, .sl 58 a2), (2, .fn (.func 88) [] []), (6, .v (.bool false)), (15, .sl 58 a1), (16, .v (.int .i64 (a1.length : Int))), (17, .v (.int .i64 v4))] : Fr DD)) (fun v4 : Int => ([] : Heap DD)) (fun r => match r with | Sum.inl _ => .ret | Sum.inr _ => .exit 0) (fun r => match r with | Sum.inl _ => [(6, .v (.bool false))] | Sum.inr _ => [(6, .v (.bool false))]) (fun r => match r with | Sum.inl _ => [] | Sum.inr _ => []) := by
  refine loop_sound3 (fun s q h => ?_) (fun r => ?_)
  · replace h : slices_EqualFunc_Vrf_Same_4_L1 a1 a2 s = some q := h; revert h; revert s; intro v4 h
    unfold slices_EqualFunc_Vrf_Same_4_L1 at h
    rcases ite_out h with ⟨h5, h⟩ | ⟨h5, h⟩
    · obtain ⟨x6, h7, h⟩ := bind_out h
      obtain ⟨x8, h9, h⟩ := bind_out h
      obtain ⟨r10, h11, h⟩ := bind_out h
      rcases ite_out h with ⟨h12, h⟩ | ⟨h12, h⟩
      · injection h with h; subst h; exact runLp_sound mixedOrders (live := [6]) (ids := []) (π := [.dec true, .row (c58 x6), .row (c58 x8), .callv (.v (.bool r10)), .dec true]) (hx := by kernel_rfl) (hps := pc (h5) <| pc (ob58 h7) <| pc (ob58 h9) <| pc (k_names_Same_4 h11) <| pc (h12) <| pn)
      · injection h with h; subst h; exact runLp_sound mixedOrders (live := [1, 2, 6, 15, 16, 17]) (ids := []) (π := [.dec true, .row (c58 x6), .row (c58 x8), .callv (.v (.bool r10)), .dec false]) (hx := by kernel_rfl) (hps := pc (h5) <| pc (ob58 h7) <| pc (ob58 h9) <| pc (k_names_Same_4 h11) <| pc (h12) <| pn)
    · injection h with h; subst h; exact runLp_sound mixedOrders (live := [6]) (ids := []) (π := [.dec false]) (hx := by kernel_rfl) (hps := pc (h5) <| pn)
  · rcases r with _ | _ <;> exact Ex.noConfusion

theorem k_slices_EqualFunc_Vrf_Same_4 {a1 : List Api_Vrf} {a2 : List Api_Vrf} {r : Bool} (h : slices_EqualFunc_Vrf_Same_4 a1 a2 = some r) :
    CallsOK Try.prog UU 87 [.sl 58 a1, .sl 58 a2, .fn (.func 88) [] []] [] (.v (.bool r)) [] := by
  unfold slices_EqualFunc_Vrf_Same_4 at h
  rcases ite_out h with ⟨h3, h⟩ | ⟨h3, h⟩
  · injection h with h; subst h; exact runFn_sound mixedOrders Try.func87 rfl (keep := none) (π := [.dec true]) (hrun := by kernel_rfl) (hps := pc (h3) <| pn)
  · obtain ⟨r14, h13, h⟩ := bind_out h
    rcases r14 with _ | _
    · injection h with h; subst h; exact runFn_sound mixedOrders Try.func87 rfl (keep := none) (π := [.dec false, .sum [1, 2, 6, 15, 16, 17] [] .ret [(6, .v (.bool false))] []]) (hrun := by kernel_rfl) (hps := pc (h3) <| pc (k_slices_EqualFunc_Vrf_Same_4_L1 _ _ h13) <| pn)
    · injection h with h; subst h; exact runFn_sound mixedOrders Try.func87 rfl (keep := none) (π := [.dec false, .sum [1, 2, 6, 15, 16, 17] [] (.exit 0) [(6, .v (.bool false))] []]) (hrun := by kernel_rfl) (hps := pc (h3) <| pc (k_slices_EqualFunc_Vrf_Same_4_L1 _ _ h13) <| pn)

theorem k_names_Same {a1 : Api_Net} {a2 : Api_Net} {r : Bool} (h : names_Same a1 a2 = some r) :
    CallsOK Try.prog UU 27 [.agg (c31 a1), .agg (c31 a2)] [] (.v (.bool r)) [] := by
  unfold names_Same at h
  obtain ⟨r3, h4, h⟩ := bind_out h
  rcases ite_out h with ⟨h5, h⟩ | ⟨h5, h⟩
  · obtain ⟨r6, h7, h⟩ := bind_out h
    rcases ite_out h with ⟨h8, h⟩ | ⟨h8, h⟩
    · obtain ⟨r9, h10, h⟩ := bind_out h
      rcases ite_out h with ⟨h11, h⟩ | ⟨h11, h⟩
      · obtain ⟨r12, h13, h⟩ := bind_out h
        rcases ite_out h with ⟨h14, h⟩ | ⟨h14, h⟩
        · obtain ⟨r15, h16, h⟩ := bind_out h
          rcases ite_out h with ⟨h17, h⟩ | ⟨h17, h⟩
          · obtain ⟨r18, h19, h⟩ := bind_out h
            rcases ite_out h with ⟨h20, h⟩ | ⟨h20, h⟩
            · obtain ⟨r21, h22, h⟩ := bind_out h
              rcases ite_out h with ⟨h23, h⟩ | ⟨h23, h⟩
              · obtain ⟨r24, h25, h⟩ := bind_out h
                injection h with h; subst h; exact runFn_sound mixedOrders Try.func27 rfl (keep := none) (π := [.callv (.v (.bool r3)), .dec true, .callv (.v (.bool r6)), .dec true, .callv (.v (.bool r9)), .dec true, .callv (.v (.bool r12)), .dec true, .callv (.v (.bool r15)), .dec true, .callv (.v (.bool r18)), .dec true, .callv (.v (.bool r21)), .dec true, .callv (.v (.bool r24))]) (hrun := by kernel_rfl) (hps := pc (k_slices_Equal_Device h4) <| pc (h5) <| pc (k_slices_Equal_Link h7) <| pc (h8) <| pc (k_slices_Equal_Static h10) <| pc (h11) <| pc (k_slices_Equal_Irb h13) <| pc (h14) <| pc (k_slices_EqualFunc_Port_Same_1 h16) <| pc (h17) <| pc (k_slices_EqualFunc_Domain_Same_2 h19) <| pc (h20) <| pc (k_slices_EqualFunc_Flood_Same_3 h22) <| pc (h23) <| pc (k_slices_EqualFunc_Vrf_Same_4 h25) <| pn)
              · injection h with h; subst h; exact runFn_sound mixedOrders Try.func27 rfl (keep := none) (π := [.callv (.v (.bool r3)), .dec true, .callv (.v (.bool r6)), .dec true, .callv (.v (.bool r9)), .dec true, .callv (.v (.bool r12)), .dec true, .callv (.v (.bool r15)), .dec true, .callv (.v (.bool r18)), .dec true, .callv (.v (.bool r21)), .dec false]) (hrun := by kernel_rfl) (hps := pc (k_slices_Equal_Device h4) <| pc (h5) <| pc (k_slices_Equal_Link h7) <| pc (h8) <| pc (k_slices_Equal_Static h10) <| pc (h11) <| pc (k_slices_Equal_Irb h13) <| pc (h14) <| pc (k_slices_EqualFunc_Port_Same_1 h16) <| pc (h17) <| pc (k_slices_EqualFunc_Domain_Same_2 h19) <| pc (h20) <| pc (k_slices_EqualFunc_Flood_Same_3 h22) <| pc (h23) <| pn)
            · injection h with h; subst h; exact runFn_sound mixedOrders Try.func27 rfl (keep := none) (π := [.callv (.v (.bool r3)), .dec true, .callv (.v (.bool r6)), .dec true, .callv (.v (.bool r9)), .dec true, .callv (.v (.bool r12)), .dec true, .callv (.v (.bool r15)), .dec true, .callv (.v (.bool r18)), .dec false]) (hrun := by kernel_rfl) (hps := pc (k_slices_Equal_Device h4) <| pc (h5) <| pc (k_slices_Equal_Link h7) <| pc (h8) <| pc (k_slices_Equal_Static h10) <| pc (h11) <| pc (k_slices_Equal_Irb h13) <| pc (h14) <| pc (k_slices_EqualFunc_Port_Same_1 h16) <| pc (h17) <| pc (k_slices_EqualFunc_Domain_Same_2 h19) <| pc (h20) <| pn)
          · injection h with h; subst h; exact runFn_sound mixedOrders Try.func27 rfl (keep := none) (π := [.callv (.v (.bool r3)), .dec true, .callv (.v (.bool r6)), .dec true, .callv (.v (.bool r9)), .dec true, .callv (.v (.bool r12)), .dec true, .callv (.v (.bool r15)), .dec false]) (hrun := by kernel_rfl) (hps := pc (k_slices_Equal_Device h4) <| pc (h5) <| pc (k_slices_Equal_Link h7) <| pc (h8) <| pc (k_slices_Equal_Static h10) <| pc (h11) <| pc (k_slices_Equal_Irb h13) <| pc (h14) <| pc (k_slices_EqualFunc_Port_Same_1 h16) <| pc (h17) <| pn)
        · injection h with h; subst h; exact runFn_sound mixedOrders Try.func27 rfl (keep := none) (π := [.callv (.v (.bool r3)), .dec true, .callv (.v (.bool r6)), .dec true, .callv (.v (.bool r9)), .dec true, .callv (.v (.bool r12)), .dec false]) (hrun := by kernel_rfl) (hps := pc (k_slices_Equal_Device h4) <| pc (h5) <| pc (k_slices_Equal_Link h7) <| pc (h8) <| pc (k_slices_Equal_Static h10) <| pc (h11) <| pc (k_slices_Equal_Irb h13) <| pc (h14) <| pn)
      · injection h with h; subst h; exact runFn_sound mixedOrders Try.func27 rfl (keep := none) (π := [.callv (.v (.bool r3)), .dec true, .callv (.v (.bool r6)), .dec true, .callv (.v (.bool r9)), .dec false]) (hrun := by kernel_rfl) (hps := pc (k_slices_Equal_Device h4) <| pc (h5) <| pc (k_slices_Equal_Link h7) <| pc (h8) <| pc (k_slices_Equal_Static h10) <| pc (h11) <| pn)
    · injection h with h; subst h; exact runFn_sound mixedOrders Try.func27 rfl (keep := none) (π := [.callv (.v (.bool r3)), .dec true, .callv (.v (.bool r6)), .dec false]) (hrun := by kernel_rfl) (hps := pc (k_slices_Equal_Device h4) <| pc (h5) <| pc (k_slices_Equal_Link h7) <| pc (h8) <| pn)
  · injection h with h; subst h; exact runFn_sound mixedOrders Try.func27 rfl (keep := none) (π := [.callv (.v (.bool r3)), .dec false]) (hrun := by kernel_rfl) (hps := pc (k_slices_Equal_Device h4) <| pc (h5) <| pn)

theorem k_palingref15_tops_L1 {a1 : Api_Net} {a2 : Api_Net} : LoopOK Try.prog UU 0 115 (subC (codeOf Try.f89) [1, 1, 0, 1, 0, 0]) (ρ := Unit ⊕ Unit) (palingref15_tops_L1 a1 a2)
    (fun v7 : Int => ([(2, .op 0 1 0 0), (3, .op 1 1 0 0), (4, .v (.bool false)), (5, .v (.int .i64 v7))] : Fr DD)) (fun v7 : Int => ([.box 31 (c31 a1) false, .box 31 (c31 a2) false] : Heap DD)) (fun r => match r with | Sum.inl _ => .ret | Sum.inr _ => .exit 0) (fun r => match r with | Sum.inl _ => [(4, .v (.bool false))] | Sum.inr _ => [(2, .op 0 1 0 0), (3, .op 1 1 0 0), (4, .v (.bool false))]) (fun r => match r with | Sum.inl _ => [] | Sum.inr _ => [.box 31 (c31 a1) false, .box 31 (c31 a2) false]) := by
  refine loop_sound3 (fun s q h => ?_) (fun r => ?_)
  · replace h : palingref15_tops_L1 a1 a2 s = some q := h; revert h; revert s; intro v7 h
    unfold palingref15_tops_L1 at h
    rcases ite_out h with ⟨h8, h⟩ | ⟨h8, h⟩
    · obtain ⟨x9, h10, h⟩ := bind_out h
      obtain ⟨x11, h12, h⟩ := bind_out h
      rcases ite_out h with ⟨h13, h⟩ | ⟨h13, h⟩
      · injection h with h; subst h; exact runLp_sound mixedOrders (live := [4]) (ids := []) (π := [.dec true, .row (c54 x9), .row (c54 x11), .dec true]) (hx := by kernel_rfl) (hps := pc (h8) <| pc (ob54 h10) <| pc (ob54 h12) <| pc (h13) <| pn)
      · injection h with h; subst h; exact runLp_sound mixedOrders (live := [2, 3, 4, 5]) (ids := [0, 1]) (π := [.dec true, .row (c54 x9), .row (c54 x11), .dec false]) (hx := by kernel_rfl) (hps := pc (h8) <| pc (ob54 h10) <| pc (ob54 h12) <| pc (h13) <| pn)
    · injection h with h; subst h; exact runLp_sound mixedOrders (live := [2, 3, 4]) (ids := [0, 1]) (π := [.dec false]) (hx := by kernel_rfl) (hps := pc (h8) <| pn)
  · rcases r with _ | _ <;> exact Ex.noConfusion

theorem k_palingref15_tops_L2 {a1 : Api_Net} {a2 : Api_Net} : LoopOK Try.prog UU 0 115 (subC (codeOf Try.f89) [1, 1, 1, 0, 1, 0, 0]) (ρ := Unit ⊕ Unit) (palingref15_tops_L2 a1 a2)
    (fun v16 : Int => ([(2, .op 0 1 0 0), (3, .op 1 1 0 0), (4, .v (.bool false)), (6, .v (.int .i64 v16))] : Fr DD)) (fun v16 : Int => ([.box 31 (c31 a1) false, .box 31 (c31 a2) false] : Heap DD)) (fun r => match r with | Sum.inl _ => .ret | Sum.inr _ => .exit 2) (fun r => match r with | Sum.inl _ => [(4, .v (.bool false))] | Sum.inr _ => [(2, .op 0 1 0 0), (3, .op 1 1 0 0), (4, .v (.bool false))]) (fun r => match r with | Sum.inl _ => [] | Sum.inr _ => [.box 31 (c31 a1) false, .box 31 (c31 a2) false]) := by
  refine loop_sound3 (fun s q h => ?_) (fun r => ?_)
  · replace h : palingref15_tops_L2 a1 a2 s = some q := h; revert h; revert s; intro v16 h
    unfold palingref15_tops_L2 at h
    rcases ite_out h with ⟨h17, h⟩ | ⟨h17, h⟩
    · obtain ⟨x18, h19, h⟩ := bind_out h
      obtain ⟨x20, h21, h⟩ := bind_out h
      rcases ite_out h with ⟨h22, h⟩ | ⟨h22, h⟩
      · injection h with h; subst h; exact runLp_sound mixedOrders (live := [4]) (ids := []) (π := [.dec true, .row (c41 x18), .row (c41 x20), .dec true]) (hx := by kernel_rfl) (hps := pc (h17) <| pc (ob41 h19) <| pc (ob41 h21) <| pc (h22) <| pn)
      · injection h with h; subst h; exact runLp_sound mixedOrders (live := [2, 3, 4, 6]) (ids := [0, 1]) (π := [.dec true, .row (c41 x18), .row (c41 x20), .dec false]) (hx := by kernel_rfl) (hps := pc (h17) <| pc (ob41 h19) <| pc (ob41 h21) <| pc (h22) <| pn)
    · injection h with h; subst h; exact runLp_sound mixedOrders (live := [2, 3, 4]) (ids := [0, 1]) (π := [.dec false]) (hx := by kernel_rfl) (hps := pc (h17) <| pn)
  · rcases r with _ | _ <;> exact Ex.noConfusion

theorem k_palingref15_tops_L3 {a1 : Api_Net} {a2 : Api_Net} : LoopOK Try.prog UU 0 115 (subC (codeOf Try.f89) [1, 1, 1, 1, 0, 1, 0, 0]) (ρ := Unit ⊕ Unit) (palingref15_tops_L3 a1 a2)
    (fun v25 : Int => ([(2, .op 0 1 0 0), (3, .op 1 1 0 0), (4, .v (.bool false)), (7, .v (.int .i64 v25))] : Fr DD)) (fun v25 : Int => ([.box 31 (c31 a1) false, .box 31 (c31 a2) false] : Heap DD)) (fun r => match r with | Sum.inl _ => .ret | Sum.inr _ => .exit 4) (fun r => match r with | Sum.inl _ => [(4, .v (.bool false))] | Sum.inr _ => [(2, .op 0 1 0 0), (3, .op 1 1 0 0), (4, .v (.bool false))]) (fun r => match r with | Sum.inl _ => [] | Sum.inr _ => [.box 31 (c31 a1) false, .box 31 (c31 a2) false]) := by
  refine loop_sound3 (fun s q h => ?_) (fun r => ?_)
  · replace h : palingref15_tops_L3 a1 a2 s = some q := h; revert h; revert s; intro v25 h
    unfold palingref15_tops_L3 at h
    rcases ite_out h with ⟨h26, h⟩ | ⟨h26, h⟩
    · obtain ⟨x27, h28, h⟩ := bind_out h
      obtain ⟨x29, h30, h⟩ := bind_out h
      rcases ite_out h with ⟨h31, h⟩ | ⟨h31, h⟩
      · injection h with h; subst h; exact runLp_sound mixedOrders (live := [4]) (ids := []) (π := [.dec true, .row (c102 x27), .row (c102 x29), .dec true]) (hx := by kernel_rfl) (hps := pc (h26) <| pc (ob102 h28) <| pc (ob102 h30) <| pc (h31) <| pn)
      · injection h with h; subst h; exact runLp_sound mixedOrders (live := [2, 3, 4, 7]) (ids := [0, 1]) (π := [.dec true, .row (c102 x27), .row (c102 x29), .dec false]) (hx := by kernel_rfl) (hps := pc (h26) <| pc (ob102 h28) <| pc (ob102 h30) <| pc (h31) <| pn)
    · injection h with h; subst h; exact runLp_sound mixedOrders (live := [2, 3, 4]) (ids := [0, 1]) (π := [.dec false]) (hx := by kernel_rfl) (hps := pc (h26) <| pn)
  · rcases r with _ | _ <;> exact Ex.noConfusion

theorem k_palingref15_tops_L4 {a1 : Api_Net} {a2 : Api_Net} : LoopOK Try.prog UU 0 115 (subC (codeOf Try.f89) [1, 1, 1, 1, 1, 0, 1, 0, 0]) (ρ := Unit ⊕ Unit) (palingref15_tops_L4 a1 a2)
    (fun v34 : Int => ([(2, .op 0 1 0 0), (3, .op 1 1 0 0), (4, .v (.bool false)), (8, .v (.int .i64 v34))] : Fr DD)) (fun v34 : Int => ([.box 31 (c31 a1) false, .box 31 (c31 a2) false] : Heap DD)) (fun r => match r with | Sum.inl _ => .ret | Sum.inr _ => .exit 6) (fun r => match r with | Sum.inl _ => [(4, .v (.bool false))] | Sum.inr _ => [(4, .v (.bool false))]) (fun r => match r with | Sum.inl _ => [] | Sum.inr _ => []) := by
  refine loop_sound3 (fun s q h => ?_) (fun r => ?_)
  · replace h : palingref15_tops_L4 a1 a2 s = some q := h; revert h; revert s; intro v34 h
    unfold palingref15_tops_L4 at h
    rcases ite_out h with ⟨h35, h⟩ | ⟨h35, h⟩
    · obtain ⟨x36, h37, h⟩ := bind_out h
      obtain ⟨x38, h39, h⟩ := bind_out h
      rcases ite_out h with ⟨h40, h⟩ | ⟨h40, h⟩
      · injection h with h; subst h; exact runLp_sound mixedOrders (live := [4]) (ids := []) (π := [.dec true, .row (c74 x36), .row (c74 x38), .dec true]) (hx := by kernel_rfl) (hps := pc (h35) <| pc (ob74 h37) <| pc (ob74 h39) <| pc (h40) <| pn)
      · injection h with h; subst h; exact runLp_sound mixedOrders (live := [2, 3, 4, 8]) (ids := [0, 1]) (π := [.dec true, .row (c74 x36), .row (c74 x38), .dec false]) (hx := by kernel_rfl) (hps := pc (h35) <| pc (ob74 h37) <| pc (ob74 h39) <| pc (h40) <| pn)
    · injection h with h; subst h; exact runLp_sound mixedOrders (live := [4]) (ids := []) (π := [.dec false]) (hx := by kernel_rfl) (hps := pc (h35) <| pn)
  · rcases r with _ | _ <;> exact Ex.noConfusion

theorem k_palingref15_tops {a1 : Api_Net} {a2 : Api_Net} {r : Bool} (h : palingref15_tops a1 a2 = some r) :
    CallsOK Try.prog UU 89 [.agg (c31 a1), .agg (c31 a2)] [] (.v (.bool r)) [] := by
  unfold palingref15_tops at h
  rcases ite_out h with ⟨h3, h⟩ | ⟨h3, h⟩
  · injection h with h; subst h; exact runFn_sound mixedOrders Try.func89 rfl (keep := none) (π := [.dec true]) (hrun := by kernel_rfl) (hps := pc (h3) <| pn)
  · rcases ite_out h with ⟨h4, h⟩ | ⟨h4, h⟩
    · injection h with h; subst h; exact runFn_sound mixedOrders Try.func89 rfl (keep := none) (π := [.dec false, .dec true]) (hrun := by kernel_rfl) (hps := pc (h3) <| pc (h4) <| pn)
    · rcases ite_out h with ⟨h5, h⟩ | ⟨h5, h⟩
      · injection h with h; subst h; exact runFn_sound mixedOrders Try.func89 rfl (keep := none) (π := [.dec false, .dec false, .dec true]) (hrun := by kernel_rfl) (hps := pc (h3) <| pc (h4) <| pc (h5) <| pn)
      · rcases ite_out h with ⟨h6, h⟩ | ⟨h6, h⟩
        · injection h with h; subst h; exact runFn_sound mixedOrders Try.func89 rfl (keep := none) (π := [.dec false, .dec false, .dec false, .dec true]) (hrun := by kernel_rfl) (hps := pc (h3) <| pc (h4) <| pc (h5) <| pc (h6) <| pn)
        · obtain ⟨r15, h14, h⟩ := bind_out h
          rcases r15 with _ | _
          · injection h with h; subst h; exact runFn_sound mixedOrders Try.func89 rfl (keep := none) (π := [.dec false, .dec false, .dec false, .dec false, .sum [2, 3, 4, 5] [0, 1] .ret [(4, .v (.bool false))] []]) (hrun := by kernel_rfl) (hps := pc (h3) <| pc (h4) <| pc (h5) <| pc (h6) <| pc (k_palingref15_tops_L1 _ _ h14) <| pn)
          · obtain ⟨r24, h23, h⟩ := bind_out h
            rcases r24 with _ | _
            · injection h with h; subst h; exact runFn_sound mixedOrders Try.func89 rfl (keep := none) (π := [.dec false, .dec false, .dec false, .dec false, .sum [2, 3, 4, 5] [0, 1] (.exit 0) [(2, .op 0 1 0 0), (3, .op 1 1 0 0), (4, .v (.bool false))] [.box 31 (c31 a1) false, .box 31 (c31 a2) false], .sum [2, 3, 4, 6] [0, 1] .ret [(4, .v (.bool false))] []]) (hrun := by kernel_rfl) (hps := pc (h3) <| pc (h4) <| pc (h5) <| pc (h6) <| pc (k_palingref15_tops_L1 _ _ h14) <| pc (k_palingref15_tops_L2 _ _ h23) <| pn)
            · obtain ⟨r33, h32, h⟩ := bind_out h
              rcases r33 with _ | _
              · injection h with h; subst h; exact runFn_sound mixedOrders Try.func89 rfl (keep := none) (π := [.dec false, .dec false, .dec false, .dec false, .sum [2, 3, 4, 5] [0, 1] (.exit 0) [(2, .op 0 1 0 0), (3, .op 1 1 0 0), (4, .v (.bool false))] [.box 31 (c31 a1) false, .box 31 (c31 a2) false], .sum [2, 3, 4, 6] [0, 1] (.exit 2) [(2, .op 0 1 0 0), (3, .op 1 1 0 0), (4, .v (.bool false))] [.box 31 (c31 a1) false, .box 31 (c31 a2) false], .sum [2, 3, 4, 7] [0, 1] .ret [(4, .v (.bool false))] []]) (hrun := by kernel_rfl) (hps := pc (h3) <| pc (h4) <| pc (h5) <| pc (h6) <| pc (k_palingref15_tops_L1 _ _ h14) <| pc (k_palingref15_tops_L2 _ _ h23) <| pc (k_palingref15_tops_L3 _ _ h32) <| pn)
              · obtain ⟨r42, h41, h⟩ := bind_out h
                rcases r42 with _ | _
                · injection h with h; subst h; exact runFn_sound mixedOrders Try.func89 rfl (keep := none) (π := [.dec false, .dec false, .dec false, .dec false, .sum [2, 3, 4, 5] [0, 1] (.exit 0) [(2, .op 0 1 0 0), (3, .op 1 1 0 0), (4, .v (.bool false))] [.box 31 (c31 a1) false, .box 31 (c31 a2) false], .sum [2, 3, 4, 6] [0, 1] (.exit 2) [(2, .op 0 1 0 0), (3, .op 1 1 0 0), (4, .v (.bool false))] [.box 31 (c31 a1) false, .box 31 (c31 a2) false], .sum [2, 3, 4, 7] [0, 1] (.exit 4) [(2, .op 0 1 0 0), (3, .op 1 1 0 0), (4, .v (.bool false))] [.box 31 (c31 a1) false, .box 31 (c31 a2) false], .sum [2, 3, 4, 8] [0, 1] .ret [(4, .v (.bool false))] []]) (hrun := by kernel_rfl) (hps := pc (h3) <| pc (h4) <| pc (h5) <| pc (h6) <| pc (k_palingref15_tops_L1 _ _ h14) <| pc (k_palingref15_tops_L2 _ _ h23) <| pc (k_palingref15_tops_L3 _ _ h32) <| pc (k_palingref15_tops_L4 _ _ h41) <| pn)
                · injection h with h; subst h; exact runFn_sound mixedOrders Try.func89 rfl (keep := none) (π := [.dec false, .dec false, .dec false, .dec false, .sum [2, 3, 4, 5] [0, 1] (.exit 0) [(2, .op 0 1 0 0), (3, .op 1 1 0 0), (4, .v (.bool false))] [.box 31 (c31 a1) false, .box 31 (c31 a2) false], .sum [2, 3, 4, 6] [0, 1] (.exit 2) [(2, .op 0 1 0 0), (3, .op 1 1 0 0), (4, .v (.bool false))] [.box 31 (c31 a1) false, .box 31 (c31 a2) false], .sum [2, 3, 4, 7] [0, 1] (.exit 4) [(2, .op 0 1 0 0), (3, .op 1 1 0 0), (4, .v (.bool false))] [.box 31 (c31 a1) false, .box 31 (c31 a2) false], .sum [2, 3, 4, 8] [0, 1] (.exit 6) [(4, .v (.bool false))] []]) (hrun := by kernel_rfl) (hps := pc (h3) <| pc (h4) <| pc (h5) <| pc (h6) <| pc (k_palingref15_tops_L1 _ _ h14) <| pc (k_palingref15_tops_L2 _ _ h23) <| pc (k_palingref15_tops_L3 _ _ h32) <| pc (k_palingref15_tops_L4 _ _ h41) <| pn)

theorem k_palingref03_Ints_L1 {a1 : List Int} {a2 : List Int} : LoopOK Try.prog UU 0 26 (subC (codeOf Try.f41) [1, 1, 0, 1, 0, 0]) (ρ := Unit ⊕ Unit) (palingref03_Ints_L1 a1 a2)
    (fun v4 : Int => ([(0, .sl 3 a1), (1, .sl 3 a2), (4, .v (.bool false)), (5, .v (.int .i64 v4))] : Fr DD)) (fun v4 : Int => ([] : Heap DD)) (fun r => match r with | Sum.inl _ => .ret | Sum.inr _ => .exit 0) (fun r => match r with | Sum.inl _ => [(4, .v (.bool false))] | Sum.inr _ => [(4, .v (.bool false))]) (fun r => match r with | Sum.inl _ => [] | Sum.inr _ => []) := by
  refine loop_sound3 (fun s q h => ?_) (fun r => ?_)
  · replace h : palingref03_Ints_L1 a1 a2 s = some q := h; revert h; revert s; intro v4 h
    unfold palingref03_Ints_L1 at h
    rcases ite_out h with ⟨h5, h⟩ | ⟨h5, h⟩
    · obtain ⟨x6, h7, h⟩ := bind_out h
      obtain ⟨x8, h9, h⟩ := bind_out h
      rcases ite_out h with ⟨h10, h⟩ | ⟨h10, h⟩
      · injection h with h; subst h; exact runLp_sound mixedOrders (live := [4]) (ids := []) (π := [.dec true, .row (c3 x6), .row (c3 x8), .dec true]) (hx := by kernel_rfl) (hps := pc (h5) <| pc (ob3 h7) <| pc (ob3 h9) <| pc (h10) <| pn)
      · injection h with h; subst h; exact runLp_sound mixedOrders (live := [0, 1, 4, 5]) (ids := []) (π := [.dec true, .row (c3 x6), .row (c3 x8), .dec false]) (hx := by kernel_rfl) (hps := pc (h5) <| pc (ob3 h7) <| pc (ob3 h9) <| pc (h10) <| pn)
    · injection h with h; subst h; exact runLp_sound mixedOrders (live := [4]) (ids := []) (π := [.dec false]) (hx := by kernel_rfl) (hps := pc (h5) <| pn)
  · rcases r with _ | _ <;> exact Ex.noConfusion

theorem k_palingref03_Ints {a1 : List Int} {a2 : List Int} {r : Bool} (h : palingref03_Ints a1 a2 = some r) :
    CallsOK Try.prog UU 41 [.sl 3 a1, .sl 3 a2] [] (.v (.bool r)) [] := by
  unfold palingref03_Ints at h
  rcases ite_out h with ⟨h3, h⟩ | ⟨h3, h⟩
  · injection h with h; subst h; exact runFn_sound mixedOrders Try.func41 rfl (keep := none) (π := [.dec true]) (hrun := by kernel_rfl) (hps := pc (h3) <| pn)
  · obtain ⟨r12, h11, h⟩ := bind_out h
    rcases r12 with _ | _
    · injection h with h; subst h; exact runFn_sound mixedOrders Try.func41 rfl (keep := none) (π := [.dec false, .sum [0, 1, 4, 5] [] .ret [(4, .v (.bool false))] []]) (hrun := by kernel_rfl) (hps := pc (h3) <| pc (k_palingref03_Ints_L1 _ _ h11) <| pn)
    · injection h with h; subst h; exact runFn_sound mixedOrders Try.func41 rfl (keep := none) (π := [.dec false, .sum [0, 1, 4, 5] [] (.exit 0) [(4, .v (.bool false))] []]) (hrun := by kernel_rfl) (hps := pc (h3) <| pc (k_palingref03_Ints_L1 _ _ h11) <| pn)

theorem k_palingref03_Addrs_L1 {a1 : List Int} {a2 : List Int} : LoopOK Try.prog UU 0 26 (subC (codeOf Try.f90) [1, 1, 0, 1, 0, 0]) (ρ := Unit ⊕ Unit) (palingref03_Addrs_L1 a1 a2)
    (fun v4 : Int => ([(0, .sl 52 a1), (1, .sl 52 a2), (4, .v (.bool false)), (5, .v (.int .i64 v4))] : Fr DD)) (fun v4 : Int => ([] : Heap DD)) (fun r => match r with | Sum.inl _ => .ret | Sum.inr _ => .exit 0) (fun r => match r with | Sum.inl _ => [(4, .v (.bool false))] | Sum.inr _ => [(4, .v (.bool false))]) (fun r => match r with | Sum.inl _ => [] | Sum.inr _ => []) := by
  refine loop_sound3 (fun s q h => ?_) (fun r => ?_)
  · replace h : palingref03_Addrs_L1 a1 a2 s = some q := h; revert h; revert s; intro v4 h
    unfold palingref03_Addrs_L1 at h
    rcases ite_out h with ⟨h5, h⟩ | ⟨h5, h⟩
    · obtain ⟨x6, h7, h⟩ := bind_out h
      obtain ⟨x8, h9, h⟩ := bind_out h
      rcases ite_out h with ⟨h10, h⟩ | ⟨h10, h⟩
      · injection h with h; subst h; exact runLp_sound mixedOrders (live := [4]) (ids := []) (π := [.dec true, .row (c52 x6), .row (c52 x8), .dec true]) (hx := by kernel_rfl) (hps := pc (h5) <| pc (ob52 h7) <| pc (ob52 h9) <| pc (h10) <| pn)
      · injection h with h; subst h; exact runLp_sound mixedOrders (live := [0, 1, 4, 5]) (ids := []) (π := [.dec true, .row (c52 x6), .row (c52 x8), .dec false]) (hx := by kernel_rfl) (hps := pc (h5) <| pc (ob52 h7) <| pc (ob52 h9) <| pc (h10) <| pn)
    · injection h with h; subst h; exact runLp_sound mixedOrders (live := [4]) (ids := []) (π := [.dec false]) (hx := by kernel_rfl) (hps := pc (h5) <| pn)
  · rcases r with _ | _ <;> exact Ex.noConfusion

theorem k_palingref03_Addrs {a1 : List Int} {a2 : List Int} {r : Bool} (h : palingref03_Addrs a1 a2 = some r) :
    CallsOK Try.prog UU 90 [.sl 52 a1, .sl 52 a2] [] (.v (.bool r)) [] := by
  unfold palingref03_Addrs at h
  rcases ite_out h with ⟨h3, h⟩ | ⟨h3, h⟩
  · injection h with h; subst h; exact runFn_sound mixedOrders Try.func90 rfl (keep := none) (π := [.dec true]) (hrun := by kernel_rfl) (hps := pc (h3) <| pn)
  · obtain ⟨r12, h11, h⟩ := bind_out h
    rcases r12 with _ | _
    · injection h with h; subst h; exact runFn_sound mixedOrders Try.func90 rfl (keep := none) (π := [.dec false, .sum [0, 1, 4, 5] [] .ret [(4, .v (.bool false))] []]) (hrun := by kernel_rfl) (hps := pc (h3) <| pc (k_palingref03_Addrs_L1 _ _ h11) <| pn)
    · injection h with h; subst h; exact runFn_sound mixedOrders Try.func90 rfl (keep := none) (π := [.dec false, .sum [0, 1, 4, 5] [] (.exit 0) [(4, .v (.bool false))] []]) (hrun := by kernel_rfl) (hps := pc (h3) <| pc (k_palingref03_Addrs_L1 _ _ h11) <| pn)

theorem k_palingref15_Same_L1 {a1 : Api_Net} {a2 : Api_Net} : LoopOK Try.prog UU 0 276 (subC (codeOf Try.f28) [1, 1, 0, 1, 0, 0]) (ρ := Unit ⊕ Unit) (palingref15_Same_L1 a1 a2)
    (fun v10 : Int => ([(2, .op 0 1 0 0), (3, .op 1 1 0 0), (4, .v (.bool false)), (5, .v (.int .i64 v10))] : Fr DD)) (fun v10 : Int => ([.box 31 (c31 a1) false, .box 31 (c31 a2) false] : Heap DD)) (fun r => match r with | Sum.inl _ => .ret | Sum.inr _ => .exit 0) (fun r => match r with | Sum.inl _ => [(4, .v (.bool false))] | Sum.inr _ => [(2, .op 0 1 0 0), (3, .op 1 1 0 0), (4, .v (.bool false))]) (fun r => match r with | Sum.inl _ => [] | Sum.inr _ => [.box 31 (c31 a1) false, .box 31 (c31 a2) false]) := by
  refine loop_sound3 (fun s q h => ?_) (fun r => ?_)
  · replace h : palingref15_Same_L1 a1 a2 s = some q := h; revert h; revert s; intro v10 h
    unfold palingref15_Same_L1 at h
    rcases ite_out h with ⟨h11, h⟩ | ⟨h11, h⟩
    · obtain ⟨x12, h13, h⟩ := bind_out h
      obtain ⟨x14, h15, h⟩ := bind_out h
      rcases ite_out h with ⟨h16, h⟩ | ⟨h16, h⟩
      · injection h with h; subst h; exact runLp_sound mixedOrders (live := [4]) (ids := []) (π := [.dec true, .row (c36 x12), .row (c36 x14), .dec true]) (hx := by kernel_rfl) (hps := pc (h11) <| pc (ob36 h13) <| pc (ob36 h15) <| pc (h16) <| pn)
      · rcases ite_out h with ⟨h17, h⟩ | ⟨h17, h⟩
        · injection h with h; subst h; exact runLp_sound mixedOrders (live := [4]) (ids := []) (π := [.dec true, .row (c36 x12), .row (c36 x14), .dec false, .dec true]) (hx := by kernel_rfl) (hps := pc (h11) <| pc (ob36 h13) <| pc (ob36 h15) <| pc (h16) <| pc (h17) <| pn)
        · rcases ite_out h with ⟨h18, h⟩ | ⟨h18, h⟩
          · injection h with h; subst h; exact runLp_sound mixedOrders (live := [4]) (ids := []) (π := [.dec true, .row (c36 x12), .row (c36 x14), .dec false, .dec false, .dec true]) (hx := by kernel_rfl) (hps := pc (h11) <| pc (ob36 h13) <| pc (ob36 h15) <| pc (h16) <| pc (h17) <| pc (h18) <| pn)
          · rcases ite_out h with ⟨h19, h⟩ | ⟨h19, h⟩
            · injection h with h; subst h; exact runLp_sound mixedOrders (live := [4]) (ids := []) (π := [.dec true, .row (c36 x12), .row (c36 x14), .dec false, .dec false, .dec false, .dec true]) (hx := by kernel_rfl) (hps := pc (h11) <| pc (ob36 h13) <| pc (ob36 h15) <| pc (h16) <| pc (h17) <| pc (h18) <| pc (h19) <| pn)
            · rcases ite_out h with ⟨h20, h⟩ | ⟨h20, h⟩
              · injection h with h; subst h; exact runLp_sound mixedOrders (live := [4]) (ids := []) (π := [.dec true, .row (c36 x12), .row (c36 x14), .dec false, .dec false, .dec false, .dec false, .dec true]) (hx := by kernel_rfl) (hps := pc (h11) <| pc (ob36 h13) <| pc (ob36 h15) <| pc (h16) <| pc (h17) <| pc (h18) <| pc (h19) <| pc (h20) <| pn)
              · rcases ite_out h with ⟨h21, h⟩ | ⟨h21, h⟩
                · injection h with h; subst h; exact runLp_sound mixedOrders (live := [4]) (ids := []) (π := [.dec true, .row (c36 x12), .row (c36 x14), .dec false, .dec false, .dec false, .dec false, .dec false, .dec true]) (hx := by kernel_rfl) (hps := pc (h11) <| pc (ob36 h13) <| pc (ob36 h15) <| pc (h16) <| pc (h17) <| pc (h18) <| pc (h19) <| pc (h20) <| pc (h21) <| pn)
                · obtain ⟨r22, h23, h⟩ := bind_out h
                  rcases ite_out h with ⟨h24, h⟩ | ⟨h24, h⟩
                  · injection h with h; subst h; exact runLp_sound mixedOrders (live := [4]) (ids := []) (π := [.dec true, .row (c36 x12), .row (c36 x14), .dec false, .dec false, .dec false, .dec false, .dec false, .dec false, .callv (.v (.bool r22)), .dec true]) (hx := by kernel_rfl) (hps := pc (h11) <| pc (ob36 h13) <| pc (ob36 h15) <| pc (h16) <| pc (h17) <| pc (h18) <| pc (h19) <| pc (h20) <| pc (h21) <| pc (k_palingref03_Ints h23) <| pc (h24) <| pn)
                  · injection h with h; subst h; exact runLp_sound mixedOrders (live := [2, 3, 4, 5]) (ids := [0, 1]) (π := [.dec true, .row (c36 x12), .row (c36 x14), .dec false, .dec false, .dec false, .dec false, .dec false, .dec false, .callv (.v (.bool r22)), .dec false]) (hx := by kernel_rfl) (hps := pc (h11) <| pc (ob36 h13) <| pc (ob36 h15) <| pc (h16) <| pc (h17) <| pc (h18) <| pc (h19) <| pc (h20) <| pc (h21) <| pc (k_palingref03_Ints h23) <| pc (h24) <| pn)
    · injection h with h; subst h; exact runLp_sound mixedOrders (live := [2, 3, 4]) (ids := [0, 1]) (π := [.dec false]) (hx := by kernel_rfl) (hps := pc (h11) <| pn)
  · rcases r with _ | _ <;> exact Ex.noConfusion

theorem k_palingref15_Same_L2 {a1 : Api_Net} {a2 : Api_Net} : LoopOK Try.prog UU 0 276 (subC (codeOf Try.f28) [1, 1, 1, 0, 1, 0, 0]) (ρ := Unit ⊕ Unit) (palingref15_Same_L2 a1 a2)
    (fun v27 : Int => ([(2, .op 0 1 0 0), (3, .op 1 1 0 0), (4, .v (.bool false)), (8, .v (.int .i64 v27))] : Fr DD)) (fun v27 : Int => ([.box 31 (c31 a1) false, .box 31 (c31 a2) false] : Heap DD)) (fun r => match r with | Sum.inl _ => .ret | Sum.inr _ => .exit 2) (fun r => match r with | Sum.inl _ => [(4, .v (.bool false))] | Sum.inr _ => [(2, .op 0 1 0 0), (3, .op 1 1 0 0), (4, .v (.bool false))]) (fun r => match r with | Sum.inl _ => [] | Sum.inr _ => [.box 31 (c31 a1) false, .box 31 (c31 a2) false]) := by
  refine loop_sound3 (fun s q h => ?_) (fun r => ?_)
  · replace h : palingref15_Same_L2 a1 a2 s = some q := h; revert h; revert s; intro v27 h
    unfold palingref15_Same_L2 at h
    rcases ite_out h with ⟨h28, h⟩ | ⟨h28, h⟩
    · obtain ⟨x29, h30, h⟩ := bind_out h
      obtain ⟨x31, h32, h⟩ := bind_out h
      rcases ite_out h with ⟨h33, h⟩ | ⟨h33, h⟩
      · injection h with h; subst h; exact runLp_sound mixedOrders (live := [4]) (ids := []) (π := [.dec true, .row (c56 x29), .row (c56 x31), .dec true]) (hx := by kernel_rfl) (hps := pc (h28) <| pc (ob56 h30) <| pc (ob56 h32) <| pc (h33) <| pn)
      · rcases ite_out h with ⟨h34, h⟩ | ⟨h34, h⟩
        · injection h with h; subst h; exact runLp_sound mixedOrders (live := [4]) (ids := []) (π := [.dec true, .row (c56 x29), .row (c56 x31), .dec false, .dec true]) (hx := by kernel_rfl) (hps := pc (h28) <| pc (ob56 h30) <| pc (ob56 h32) <| pc (h33) <| pc (h34) <| pn)
        · rcases ite_out h with ⟨h35, h⟩ | ⟨h35, h⟩
          · injection h with h; subst h; exact runLp_sound mixedOrders (live := [4]) (ids := []) (π := [.dec true, .row (c56 x29), .row (c56 x31), .dec false, .dec false, .dec true]) (hx := by kernel_rfl) (hps := pc (h28) <| pc (ob56 h30) <| pc (ob56 h32) <| pc (h33) <| pc (h34) <| pc (h35) <| pn)
          · rcases ite_out h with ⟨h36, h⟩ | ⟨h36, h⟩
            · injection h with h; subst h; exact runLp_sound mixedOrders (live := [4]) (ids := []) (π := [.dec true, .row (c56 x29), .row (c56 x31), .dec false, .dec false, .dec false, .dec true]) (hx := by kernel_rfl) (hps := pc (h28) <| pc (ob56 h30) <| pc (ob56 h32) <| pc (h33) <| pc (h34) <| pc (h35) <| pc (h36) <| pn)
            · rcases ite_out h with ⟨h37, h⟩ | ⟨h37, h⟩
              · injection h with h; subst h; exact runLp_sound mixedOrders (live := [4]) (ids := []) (π := [.dec true, .row (c56 x29), .row (c56 x31), .dec false, .dec false, .dec false, .dec false, .dec true]) (hx := by kernel_rfl) (hps := pc (h28) <| pc (ob56 h30) <| pc (ob56 h32) <| pc (h33) <| pc (h34) <| pc (h35) <| pc (h36) <| pc (h37) <| pn)
              · obtain ⟨r38, h39, h⟩ := bind_out h
                rcases ite_out h with ⟨h40, h⟩ | ⟨h40, h⟩
                · injection h with h; subst h; exact runLp_sound mixedOrders (live := [4]) (ids := []) (π := [.dec true, .row (c56 x29), .row (c56 x31), .dec false, .dec false, .dec false, .dec false, .dec false, .callv (.v (.bool r38)), .dec true]) (hx := by kernel_rfl) (hps := pc (h28) <| pc (ob56 h30) <| pc (ob56 h32) <| pc (h33) <| pc (h34) <| pc (h35) <| pc (h36) <| pc (h37) <| pc (k_palingref03_Ints h39) <| pc (h40) <| pn)
                · injection h with h; subst h; exact runLp_sound mixedOrders (live := [2, 3, 4, 8]) (ids := [0, 1]) (π := [.dec true, .row (c56 x29), .row (c56 x31), .dec false, .dec false, .dec false, .dec false, .dec false, .callv (.v (.bool r38)), .dec false]) (hx := by kernel_rfl) (hps := pc (h28) <| pc (ob56 h30) <| pc (ob56 h32) <| pc (h33) <| pc (h34) <| pc (h35) <| pc (h36) <| pc (h37) <| pc (k_palingref03_Ints h39) <| pc (h40) <| pn)
    · injection h with h; subst h; exact runLp_sound mixedOrders (live := [2, 3, 4]) (ids := [0, 1]) (π := [.dec false]) (hx := by kernel_rfl) (hps := pc (h28) <| pn)
  · rcases r with _ | _ <;> exact Ex.noConfusion

theorem k_palingref15_Same_L3 {a1 : Api_Net} {a2 : Api_Net} : LoopOK Try.prog UU 0 276 (subC (codeOf Try.f28) [1, 1, 1, 1, 0, 1, 0, 0]) (ρ := Unit ⊕ Unit) (palingref15_Same_L3 a1 a2)
    (fun v43 : Int => ([(2, .op 0 1 0 0), (3, .op 1 1 0 0), (4, .v (.bool false)), (11, .v (.int .i64 v43))] : Fr DD)) (fun v43 : Int => ([.box 31 (c31 a1) false, .box 31 (c31 a2) false] : Heap DD)) (fun r => match r with | Sum.inl _ => .ret | Sum.inr _ => .exit 4) (fun r => match r with | Sum.inl _ => [(4, .v (.bool false))] | Sum.inr _ => [(2, .op 0 1 0 0), (3, .op 1 1 0 0), (4, .v (.bool false))]) (fun r => match r with | Sum.inl _ => [] | Sum.inr _ => [.box 31 (c31 a1) false, .box 31 (c31 a2) false]) := by
  refine loop_sound3 (fun s q h => ?_) (fun r => ?_)
  · replace h : palingref15_Same_L3 a1 a2 s = some q := h; revert h; revert s; intro v43 h
    unfold palingref15_Same_L3 at h
    rcases ite_out h with ⟨h44, h⟩ | ⟨h44, h⟩
    · obtain ⟨x45, h46, h⟩ := bind_out h
      obtain ⟨x47, h48, h⟩ := bind_out h
      rcases ite_out h with ⟨h49, h⟩ | ⟨h49, h⟩
      · injection h with h; subst h; exact runLp_sound mixedOrders (live := [4]) (ids := []) (π := [.dec true, .row (c91 x45), .row (c91 x47), .dec true]) (hx := by kernel_rfl) (hps := pc (h44) <| pc (ob91 h46) <| pc (ob91 h48) <| pc (h49) <| pn)
      · rcases ite_out h with ⟨h50, h⟩ | ⟨h50, h⟩
        · injection h with h; subst h; exact runLp_sound mixedOrders (live := [4]) (ids := []) (π := [.dec true, .row (c91 x45), .row (c91 x47), .dec false, .dec true]) (hx := by kernel_rfl) (hps := pc (h44) <| pc (ob91 h46) <| pc (ob91 h48) <| pc (h49) <| pc (h50) <| pn)
        · rcases ite_out h with ⟨h51, h⟩ | ⟨h51, h⟩
          · injection h with h; subst h; exact runLp_sound mixedOrders (live := [4]) (ids := []) (π := [.dec true, .row (c91 x45), .row (c91 x47), .dec false, .dec false, .dec true]) (hx := by kernel_rfl) (hps := pc (h44) <| pc (ob91 h46) <| pc (ob91 h48) <| pc (h49) <| pc (h50) <| pc (h51) <| pn)
          · obtain ⟨r52, h53, h⟩ := bind_out h
            rcases ite_out h with ⟨h54, h⟩ | ⟨h54, h⟩
            · injection h with h; subst h; exact runLp_sound mixedOrders (live := [4]) (ids := []) (π := [.dec true, .row (c91 x45), .row (c91 x47), .dec false, .dec false, .dec false, .callv (.v (.bool r52)), .dec true]) (hx := by kernel_rfl) (hps := pc (h44) <| pc (ob91 h46) <| pc (ob91 h48) <| pc (h49) <| pc (h50) <| pc (h51) <| pc (k_palingref03_Addrs h53) <| pc (h54) <| pn)
            · injection h with h; subst h; exact runLp_sound mixedOrders (live := [2, 3, 4, 11]) (ids := [0, 1]) (π := [.dec true, .row (c91 x45), .row (c91 x47), .dec false, .dec false, .dec false, .callv (.v (.bool r52)), .dec false]) (hx := by kernel_rfl) (hps := pc (h44) <| pc (ob91 h46) <| pc (ob91 h48) <| pc (h49) <| pc (h50) <| pc (h51) <| pc (k_palingref03_Addrs h53) <| pc (h54) <| pn)
    · injection h with h; subst h; exact runLp_sound mixedOrders (live := [2, 3, 4]) (ids := [0, 1]) (π := [.dec false]) (hx := by kernel_rfl) (hps := pc (h44) <| pn)
  · rcases r with _ | _ <;> exact Ex.noConfusion

theorem k_palingref15_Same_L4 {a1 : Api_Net} {a2 : Api_Net} : LoopOK Try.prog UU 0 276 (subC (codeOf Try.f28) [1, 1, 1, 1, 1, 0, 1, 0, 0]) (ρ := Unit ⊕ Unit) (palingref15_Same_L4 a1 a2)
    (fun v57 : Int => ([(2, .op 0 1 0 0), (3, .op 1 1 0 0), (4, .v (.bool false)), (14, .v (.int .i64 v57))] : Fr DD)) (fun v57 : Int => ([.box 31 (c31 a1) false, .box 31 (c31 a2) false] : Heap DD)) (fun r => match r with | Sum.inl _ => .ret | Sum.inr _ => .exit 6) (fun r => match r with | Sum.inl _ => [(4, .v (.bool false))] | Sum.inr _ => [(4, .v (.bool false))]) (fun r => match r with | Sum.inl _ => [] | Sum.inr _ => []) := by
  refine loop_sound3 (fun s q h => ?_) (fun r => ?_)
  · replace h : palingref15_Same_L4 a1 a2 s = some q := h; revert h; revert s; intro v57 h
    unfold palingref15_Same_L4 at h
    rcases ite_out h with ⟨h58, h⟩ | ⟨h58, h⟩
    · obtain ⟨x59, h60, h⟩ := bind_out h
      obtain ⟨x61, h62, h⟩ := bind_out h
      rcases ite_out h with ⟨h63, h⟩ | ⟨h63, h⟩
      · injection h with h; subst h; exact runLp_sound mixedOrders (live := [4]) (ids := []) (π := [.dec true, .row (c58 x59), .row (c58 x61), .dec true]) (hx := by kernel_rfl) (hps := pc (h58) <| pc (ob58 h60) <| pc (ob58 h62) <| pc (h63) <| pn)
      · rcases ite_out h with ⟨h64, h⟩ | ⟨h64, h⟩
        · injection h with h; subst h; exact runLp_sound mixedOrders (live := [4]) (ids := []) (π := [.dec true, .row (c58 x59), .row (c58 x61), .dec false, .dec true]) (hx := by kernel_rfl) (hps := pc (h58) <| pc (ob58 h60) <| pc (ob58 h62) <| pc (h63) <| pc (h64) <| pn)
        · rcases ite_out h with ⟨h65, h⟩ | ⟨h65, h⟩
          · injection h with h; subst h; exact runLp_sound mixedOrders (live := [4]) (ids := []) (π := [.dec true, .row (c58 x59), .row (c58 x61), .dec false, .dec false, .dec true]) (hx := by kernel_rfl) (hps := pc (h58) <| pc (ob58 h60) <| pc (ob58 h62) <| pc (h63) <| pc (h64) <| pc (h65) <| pn)
          · obtain ⟨r66, h67, h⟩ := bind_out h
            rcases ite_out h with ⟨h68, h⟩ | ⟨h68, h⟩
            · injection h with h; subst h; exact runLp_sound mixedOrders (live := [4]) (ids := []) (π := [.dec true, .row (c58 x59), .row (c58 x61), .dec false, .dec false, .dec false, .callv (.v (.bool r66)), .dec true]) (hx := by kernel_rfl) (hps := pc (h58) <| pc (ob58 h60) <| pc (ob58 h62) <| pc (h63) <| pc (h64) <| pc (h65) <| pc (k_palingref03_Ints h67) <| pc (h68) <| pn)
            · obtain ⟨r69, h70, h⟩ := bind_out h
              rcases ite_out h with ⟨h71, h⟩ | ⟨h71, h⟩
              · injection h with h; subst h; exact runLp_sound mixedOrders (live := [4]) (ids := []) (π := [.dec true, .row (c58 x59), .row (c58 x61), .dec false, .dec false, .dec false, .callv (.v (.bool r66)), .dec false, .callv (.v (.bool r69)), .dec true]) (hx := by kernel_rfl) (hps := pc (h58) <| pc (ob58 h60) <| pc (ob58 h62) <| pc (h63) <| pc (h64) <| pc (h65) <| pc (k_palingref03_Ints h67) <| pc (h68) <| pc (k_palingref03_Ints h70) <| pc (h71) <| pn)
              · injection h with h; subst h; exact runLp_sound mixedOrders (live := [2, 3, 4, 14]) (ids := [0, 1]) (π := [.dec true, .row (c58 x59), .row (c58 x61), .dec false, .dec false, .dec false, .callv (.v (.bool r66)), .dec false, .callv (.v (.bool r69)), .dec false]) (hx := by kernel_rfl) (hps := pc (h58) <| pc (ob58 h60) <| pc (ob58 h62) <| pc (h63) <| pc (h64) <| pc (h65) <| pc (k_palingref03_Ints h67) <| pc (h68) <| pc (k_palingref03_Ints h70) <| pc (h71) <| pn)
    · injection h with h; subst h; exact runLp_sound mixedOrders (live := [4]) (ids := []) (π := [.dec false]) (hx := by kernel_rfl) (hps := pc (h58) <| pn)
  · rcases r with _ | _ <;> exact Ex.noConfusion

theorem k_palingref15_Same {a1 : Api_Net} {a2 : Api_Net} {r : Bool} (h : palingref15_Same a1 a2 = some r) :
    CallsOK Try.prog UU 28 [.agg (c31 a1), .agg (c31 a2)] [] (.v (.bool r)) [] := by
  unfold palingref15_Same at h
  obtain ⟨r3, h4, h⟩ := bind_out h
  rcases ite_out h with ⟨h5, h⟩ | ⟨h5, h⟩
  · injection h with h; subst h; exact runFn_sound mixedOrders Try.func28 rfl (keep := none) (π := [.callv (.v (.bool r3)), .dec true]) (hrun := by kernel_rfl) (hps := pc (k_palingref15_tops h4) <| pc (h5) <| pn)
  · rcases ite_out h with ⟨h6, h⟩ | ⟨h6, h⟩
    · injection h with h; subst h; exact runFn_sound mixedOrders Try.func28 rfl (keep := none) (π := [.callv (.v (.bool r3)), .dec false, .dec true]) (hrun := by kernel_rfl) (hps := pc (k_palingref15_tops h4) <| pc (h5) <| pc (h6) <| pn)
    · rcases ite_out h with ⟨h7, h⟩ | ⟨h7, h⟩
      · injection h with h; subst h; exact runFn_sound mixedOrders Try.func28 rfl (keep := none) (π := [.callv (.v (.bool r3)), .dec false, .dec false, .dec true]) (hrun := by kernel_rfl) (hps := pc (k_palingref15_tops h4) <| pc (h5) <| pc (h6) <| pc (h7) <| pn)
      · rcases ite_out h with ⟨h8, h⟩ | ⟨h8, h⟩
        · injection h with h; subst h; exact runFn_sound mixedOrders Try.func28 rfl (keep := none) (π := [.callv (.v (.bool r3)), .dec false, .dec false, .dec false, .dec true]) (hrun := by kernel_rfl) (hps := pc (k_palingref15_tops h4) <| pc (h5) <| pc (h6) <| pc (h7) <| pc (h8) <| pn)
        · rcases ite_out h with ⟨h9, h⟩ | ⟨h9, h⟩
          · injection h with h; subst h; exact runFn_sound mixedOrders Try.func28 rfl (keep := none) (π := [.callv (.v (.bool r3)), .dec false, .dec false, .dec false, .dec false, .dec true]) (hrun := by kernel_rfl) (hps := pc (k_palingref15_tops h4) <| pc (h5) <| pc (h6) <| pc (h7) <| pc (h8) <| pc (h9) <| pn)
          · obtain ⟨r26, h25, h⟩ := bind_out h
            rcases r26 with _ | _
            · injection h with h; subst h; exact runFn_sound mixedOrders Try.func28 rfl (keep := none) (π := [.callv (.v (.bool r3)), .dec false, .dec false, .dec false, .dec false, .dec false, .sum [2, 3, 4, 5] [0, 1] .ret [(4, .v (.bool false))] []]) (hrun := by kernel_rfl) (hps := pc (k_palingref15_tops h4) <| pc (h5) <| pc (h6) <| pc (h7) <| pc (h8) <| pc (h9) <| pc (k_palingref15_Same_L1 _ _ h25) <| pn)
            · obtain ⟨r42, h41, h⟩ := bind_out h
              rcases r42 with _ | _
              · injection h with h; subst h; exact runFn_sound mixedOrders Try.func28 rfl (keep := none) (π := [.callv (.v (.bool r3)), .dec false, .dec false, .dec false, .dec false, .dec false, .sum [2, 3, 4, 5] [0, 1] (.exit 0) [(2, .op 0 1 0 0), (3, .op 1 1 0 0), (4, .v (.bool false))] [.box 31 (c31 a1) false, .box 31 (c31 a2) false], .sum [2, 3, 4, 8] [0, 1] .ret [(4, .v (.bool false))] []]) (hrun := by kernel_rfl) (hps := pc (k_palingref15_tops h4) <| pc (h5) <| pc (h6) <| pc (h7) <| pc (h8) <| pc (h9) <| pc (k_palingref15_Same_L1 _ _ h25) <| pc (k_palingref15_Same_L2 _ _ h41) <| pn)
              · obtain ⟨r56, h55, h⟩ := bind_out h
                rcases r56 with _ | _
                · injection h with h; subst h; exact runFn_sound mixedOrders Try.func28 rfl (keep := none) (π := [.callv (.v (.bool r3)), .dec false, .dec false, .dec false, .dec false, .dec false, .sum [2, 3, 4, 5] [0, 1] (.exit 0) [(2, .op 0 1 0 0), (3, .op 1 1 0 0), (4, .v (.bool false))] [.box 31 (c31 a1) false, .box 31 (c31 a2) false], .sum [2, 3, 4, 8] [0, 1] (.exit 2) [(2, .op 0 1 0 0), (3, .op 1 1 0 0), (4, .v (.bool false))] [.box 31 (c31 a1) false, .box 31 (c31 a2) false], .sum [2, 3, 4, 11] [0, 1] .ret [(4, .v (.bool false))] []]) (hrun := by kernel_rfl) (hps := pc (k_palingref15_tops h4) <| pc (h5) <| pc (h6) <| pc (h7) <| pc (h8) <| pc (h9) <| pc (k_palingref15_Same_L1 _ _ h25) <| pc (k_palingref15_Same_L2 _ _ h41) <| pc (k_palingref15_Same_L3 _ _ h55) <| pn)
                · obtain ⟨r73, h72, h⟩ := bind_out h
                  rcases r73 with _ | _
                  · injection h with h; subst h; exact runFn_sound mixedOrders Try.func28 rfl (keep := none) (π := [.callv (.v (.bool r3)), .dec false, .dec false, .dec false, .dec false, .dec false, .sum [2, 3, 4, 5] [0, 1] (.exit 0) [(2, .op 0 1 0 0), (3, .op 1 1 0 0), (4, .v (.bool false))] [.box 31 (c31 a1) false, .box 31 (c31 a2) false], .sum [2, 3, 4, 8] [0, 1] (.exit 2) [(2, .op 0 1 0 0), (3, .op 1 1 0 0), (4, .v (.bool false))] [.box 31 (c31 a1) false, .box 31 (c31 a2) false], .sum [2, 3, 4, 11] [0, 1] (.exit 4) [(2, .op 0 1 0 0), (3, .op 1 1 0 0), (4, .v (.bool false))] [.box 31 (c31 a1) false, .box 31 (c31 a2) false], .sum [2, 3, 4, 14] [0, 1] .ret [(4, .v (.bool false))] []]) (hrun := by kernel_rfl) (hps := pc (k_palingref15_tops h4) <| pc (h5) <| pc (h6) <| pc (h7) <| pc (h8) <| pc (h9) <| pc (k_palingref15_Same_L1 _ _ h25) <| pc (k_palingref15_Same_L2 _ _ h41) <| pc (k_palingref15_Same_L3 _ _ h55) <| pc (k_palingref15_Same_L4 _ _ h72) <| pn)
                  · injection h with h; subst h; exact runFn_sound mixedOrders Try.func28 rfl (keep := none) (π := [.callv (.v (.bool r3)), .dec false, .dec false, .dec false, .dec false, .dec false, .sum [2, 3, 4, 5] [0, 1] (.exit 0) [(2, .op 0 1 0 0), (3, .op 1 1 0 0), (4, .v (.bool false))] [.box 31 (c31 a1) false, .box 31 (c31 a2) false], .sum [2, 3, 4, 8] [0, 1] (.exit 2) [(2, .op 0 1 0 0), (3, .op 1 1 0 0), (4, .v (.bool false))] [.box 31 (c31 a1) false, .box 31 (c31 a2) false], .sum [2, 3, 4, 11] [0, 1] (.exit 4) [(2, .op 0 1 0 0), (3, .op 1 1 0 0), (4, .v (.bool false))] [.box 31 (c31 a1) false, .box 31 (c31 a2) false], .sum [2, 3, 4, 14] [0, 1] (.exit 6) [(4, .v (.bool false))] []]) (hrun := by kernel_rfl) (hps := pc (k_palingref15_tops h4) <| pc (h5) <| pc (h6) <| pc (h7) <| pc (h8) <| pc (h9) <| pc (k_palingref15_Same_L1 _ _ h25) <| pc (k_palingref15_Same_L2 _ _ h41) <| pc (k_palingref15_Same_L3 _ _ h55) <| pc (k_palingref15_Same_L4 _ _ h72) <| pn)

theorem k_slices_Clone_Device {a1 : List Api_Device} {r : List Api_Device} (h : slices_Clone_Device a1 = some r) :
    CallsOK Try.prog UU 91 [.sl 54 a1] [] (.os 0 (List.length r)) [.arr 54 r (List.length r) false] := by
  unfold slices_Clone_Device at h
  rcases ite_out h with ⟨h1, h⟩ | ⟨h1, h⟩
  · injection h with h; subst h
    refine sn_split ?_ (fun e => ?_)
    · exact runFn_sound mixedOrders Try.func91 rfl (keep := some [1]) (π := [.obj [] (.arr 54 [] 0 false), .obj [] (.arr 54 a1 (List.length a1) false)]) (hrun := by kernel_rfl) (hps := pc (bs_ob 54 []) <| pc (app_ob 54 (n := 0) (l := []) (xs := a1) h1) <| pn)
    · subst e; exact runFn_sound mixedOrders Try.func91 rfl (keep := some [1]) (π := []) (hrun := by kernel_rfl) (hps := pn)
  · cases h

theorem k_slices_Clone_Port {a1 : List Api_Port} {r : List Api_Port} (h : slices_Clone_Port a1 = some r) :
    CallsOK Try.prog UU 92 [.sl 36 a1] [] (.os 0 (List.length r)) [.arr 36 r (List.length r) false] := by
  unfold slices_Clone_Port at h
  rcases ite_out h with ⟨h1, h⟩ | ⟨h1, h⟩
  · injection h with h; subst h
    refine sn_split ?_ (fun e => ?_)
    · exact runFn_sound mixedOrders Try.func92 rfl (keep := some [1]) (π := [.obj [] (.arr 36 [] 0 false), .obj [] (.arr 36 a1 (List.length a1) false)]) (hrun := by kernel_rfl) (hps := pc (bs_ob 36 []) <| pc (app_ob 36 (n := 0) (l := []) (xs := a1) h1) <| pn)
    · subst e; exact runFn_sound mixedOrders Try.func92 rfl (keep := some [1]) (π := []) (hrun := by kernel_rfl) (hps := pn)
  · cases h

theorem k_slices_Clone_Link {a1 : List Api_Link} {r : List Api_Link} (h : slices_Clone_Link a1 = some r) :
    CallsOK Try.prog UU 93 [.sl 41 a1] [] (.os 0 (List.length r)) [.arr 41 r (List.length r) false] := by
  unfold slices_Clone_Link at h
  rcases ite_out h with ⟨h1, h⟩ | ⟨h1, h⟩
  · injection h with h; subst h
    refine sn_split ?_ (fun e => ?_)
    · exact runFn_sound mixedOrders Try.func93 rfl (keep := some [1]) (π := [.obj [] (.arr 41 [] 0 false), .obj [] (.arr 41 a1 (List.length a1) false)]) (hrun := by kernel_rfl) (hps := pc (bs_ob 41 []) <| pc (app_ob 41 (n := 0) (l := []) (xs := a1) h1) <| pn)
    · subst e; exact runFn_sound mixedOrders Try.func93 rfl (keep := some [1]) (π := []) (hrun := by kernel_rfl) (hps := pn)
  · cases h

theorem k_slices_Clone_Domain {a1 : List Api_Domain} {r : List Api_Domain} (h : slices_Clone_Domain a1 = some r) :
    CallsOK Try.prog UU 94 [.sl 56 a1] [] (.os 0 (List.length r)) [.arr 56 r (List.length r) false] := by
  unfold slices_Clone_Domain at h
  rcases ite_out h with ⟨h1, h⟩ | ⟨h1, h⟩
  · injection h with h; subst h
    refine sn_split ?_ (fun e => ?_)
    · exact runFn_sound mixedOrders Try.func94 rfl (keep := some [1]) (π := [.obj [] (.arr 56 [] 0 false), .obj [] (.arr 56 a1 (List.length a1) false)]) (hrun := by kernel_rfl) (hps := pc (bs_ob 56 []) <| pc (app_ob 56 (n := 0) (l := []) (xs := a1) h1) <| pn)
    · subst e; exact runFn_sound mixedOrders Try.func94 rfl (keep := some [1]) (π := []) (hrun := by kernel_rfl) (hps := pn)
  · cases h

theorem k_slices_Clone_Static {a1 : List Api_Static} {r : List Api_Static} (h : slices_Clone_Static a1 = some r) :
    CallsOK Try.prog UU 95 [.sl 102 a1] [] (.os 0 (List.length r)) [.arr 102 r (List.length r) false] := by
  unfold slices_Clone_Static at h
  rcases ite_out h with ⟨h1, h⟩ | ⟨h1, h⟩
  · injection h with h; subst h
    refine sn_split ?_ (fun e => ?_)
    · exact runFn_sound mixedOrders Try.func95 rfl (keep := some [1]) (π := [.obj [] (.arr 102 [] 0 false), .obj [] (.arr 102 a1 (List.length a1) false)]) (hrun := by kernel_rfl) (hps := pc (bs_ob 102 []) <| pc (app_ob 102 (n := 0) (l := []) (xs := a1) h1) <| pn)
    · subst e; exact runFn_sound mixedOrders Try.func95 rfl (keep := some [1]) (π := []) (hrun := by kernel_rfl) (hps := pn)
  · cases h

theorem k_slices_Clone_Flood {a1 : List Api_Flood} {r : List Api_Flood} (h : slices_Clone_Flood a1 = some r) :
    CallsOK Try.prog UU 96 [.sl 91 a1] [] (.os 0 (List.length r)) [.arr 91 r (List.length r) false] := by
  unfold slices_Clone_Flood at h
  rcases ite_out h with ⟨h1, h⟩ | ⟨h1, h⟩
  · injection h with h; subst h
    refine sn_split ?_ (fun e => ?_)
    · exact runFn_sound mixedOrders Try.func96 rfl (keep := some [1]) (π := [.obj [] (.arr 91 [] 0 false), .obj [] (.arr 91 a1 (List.length a1) false)]) (hrun := by kernel_rfl) (hps := pc (bs_ob 91 []) <| pc (app_ob 91 (n := 0) (l := []) (xs := a1) h1) <| pn)
    · subst e; exact runFn_sound mixedOrders Try.func96 rfl (keep := some [1]) (π := []) (hrun := by kernel_rfl) (hps := pn)
  · cases h

theorem k_slices_Clone_Vrf {a1 : List Api_Vrf} {r : List Api_Vrf} (h : slices_Clone_Vrf a1 = some r) :
    CallsOK Try.prog UU 97 [.sl 58 a1] [] (.os 0 (List.length r)) [.arr 58 r (List.length r) false] := by
  unfold slices_Clone_Vrf at h
  rcases ite_out h with ⟨h1, h⟩ | ⟨h1, h⟩
  · injection h with h; subst h
    refine sn_split ?_ (fun e => ?_)
    · exact runFn_sound mixedOrders Try.func97 rfl (keep := some [1]) (π := [.obj [] (.arr 58 [] 0 false), .obj [] (.arr 58 a1 (List.length a1) false)]) (hrun := by kernel_rfl) (hps := pc (bs_ob 58 []) <| pc (app_ob 58 (n := 0) (l := []) (xs := a1) h1) <| pn)
    · subst e; exact runFn_sound mixedOrders Try.func97 rfl (keep := some [1]) (π := []) (hrun := by kernel_rfl) (hps := pn)
  · cases h

theorem k_slices_Clone_Irb {a1 : List Api_Irb} {r : List Api_Irb} (h : slices_Clone_Irb a1 = some r) :
    CallsOK Try.prog UU 98 [.sl 74 a1] [] (.os 0 (List.length r)) [.arr 74 r (List.length r) false] := by
  unfold slices_Clone_Irb at h
  rcases ite_out h with ⟨h1, h⟩ | ⟨h1, h⟩
  · injection h with h; subst h
    refine sn_split ?_ (fun e => ?_)
    · exact runFn_sound mixedOrders Try.func98 rfl (keep := some [1]) (π := [.obj [] (.arr 74 [] 0 false), .obj [] (.arr 74 a1 (List.length a1) false)]) (hrun := by kernel_rfl) (hps := pc (bs_ob 74 []) <| pc (app_ob 74 (n := 0) (l := []) (xs := a1) h1) <| pn)
    · subst e; exact runFn_sound mixedOrders Try.func98 rfl (keep := some [1]) (π := []) (hrun := by kernel_rfl) (hps := pn)
  · cases h

theorem k_slices_Clone_int {a1 : List Int} {r : List Int} (h : slices_Clone_int a1 = some r) :
    CallsOK Try.prog UU 99 [.sl 3 a1] [] (.os 0 (List.length r)) [.arr 3 r (List.length r) false] := by
  unfold slices_Clone_int at h
  rcases ite_out h with ⟨h1, h⟩ | ⟨h1, h⟩
  · injection h with h; subst h
    refine sn_split ?_ (fun e => ?_)
    · exact runFn_sound mixedOrders Try.func99 rfl (keep := some [1]) (π := [.obj [] (.arr 3 [] 0 false), .obj [] (.arr 3 a1 (List.length a1) false)]) (hrun := by kernel_rfl) (hps := pc (bs_ob 3 []) <| pc (app_ob 3 (n := 0) (l := []) (xs := a1) h1) <| pn)
    · subst e; exact runFn_sound mixedOrders Try.func99 rfl (keep := some [1]) (π := []) (hrun := by kernel_rfl) (hps := pn)
  · cases h

theorem k_slices_Clone_uint32 {a1 : List Int} {r : List Int} (h : slices_Clone_uint32 a1 = some r) :
    CallsOK Try.prog UU 100 [.sl 52 a1] [] (.os 0 (List.length r)) [.arr 52 r (List.length r) false] := by
  unfold slices_Clone_uint32 at h
  rcases ite_out h with ⟨h1, h⟩ | ⟨h1, h⟩
  · injection h with h; subst h
    refine sn_split ?_ (fun e => ?_)
    · exact runFn_sound mixedOrders Try.func100 rfl (keep := some [1]) (π := [.obj [] (.arr 52 [] 0 false), .obj [] (.arr 52 a1 (List.length a1) false)]) (hrun := by kernel_rfl) (hps := pc (bs_ob 52 []) <| pc (app_ob 52 (n := 0) (l := []) (xs := a1) h1) <| pn)
    · subst e; exact runFn_sound mixedOrders Try.func100 rfl (keep := some [1]) (π := []) (hrun := by kernel_rfl) (hps := pn)
  · cases h

end Go.Eng
