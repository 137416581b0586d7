/- Part of the proof of LookupWithin: printed mirrors of the functions, or their contracts. No conditions. -/
import Derived.Test.YthagnfgaibaokaaMAK
set_option linter.unusedVariables false
set_option maxRecDepth 100000
namespace Go.Eng
open Go Go.Proofs
theorem k_names_judge_few {a1 : Names_judge} {r : Bool} (h : names_judge_few a1 = some r) :
    CallsOK Try.prog UU 47 [.agg (c93 a1)] [] (.v (.bool r)) [] := by
  unfold names_judge_few at h
  rcases ite_out h with ⟨h2, h⟩ | ⟨h2, h⟩
  · rcases ite_out h with ⟨h3, h⟩ | ⟨h3, h⟩
    · rcases ite_out h with ⟨h4, h⟩ | ⟨h4, h⟩
      · rcases ite_out h with ⟨h5, h⟩ | ⟨h5, h⟩
        · rcases ite_out h with ⟨h6, h⟩ | ⟨h6, h⟩
          · rcases ite_out h with ⟨h7, h⟩ | ⟨h7, h⟩
            · rcases ite_out h with ⟨h8, h⟩ | ⟨h8, h⟩
              · injection h with h; subst h; exact runFn_sound mixedOrders Try.func47 rfl (keep := none) (π := [.dec true, .dec true, .dec true, .dec true, .dec true, .dec true, .dec true]) (hrun := by kernel_rfl) (hps := pc (h2) <| pc (h3) <| pc (h4) <| pc (h5) <| pc (h6) <| pc (h7) <| pc (h8) <| pn)
              · injection h with h; subst h; exact runFn_sound mixedOrders Try.func47 rfl (keep := none) (π := [.dec true, .dec true, .dec true, .dec true, .dec true, .dec true, .dec false]) (hrun := by kernel_rfl) (hps := pc (h2) <| pc (h3) <| pc (h4) <| pc (h5) <| pc (h6) <| pc (h7) <| pc (h8) <| pn)
            · injection h with h; subst h; exact runFn_sound mixedOrders Try.func47 rfl (keep := none) (π := [.dec true, .dec true, .dec true, .dec true, .dec true, .dec false]) (hrun := by kernel_rfl) (hps := pc (h2) <| pc (h3) <| pc (h4) <| pc (h5) <| pc (h6) <| pc (h7) <| pn)
          · injection h with h; subst h; exact runFn_sound mixedOrders Try.func47 rfl (keep := none) (π := [.dec true, .dec true, .dec true, .dec true, .dec false]) (hrun := by kernel_rfl) (hps := pc (h2) <| pc (h3) <| pc (h4) <| pc (h5) <| pc (h6) <| pn)
        · injection h with h; subst h; exact runFn_sound mixedOrders Try.func47 rfl (keep := none) (π := [.dec true, .dec true, .dec true, .dec false]) (hrun := by kernel_rfl) (hps := pc (h2) <| pc (h3) <| pc (h4) <| pc (h5) <| pn)
      · injection h with h; subst h; exact runFn_sound mixedOrders Try.func47 rfl (keep := none) (π := [.dec true, .dec true, .dec false]) (hrun := by kernel_rfl) (hps := pc (h2) <| pc (h3) <| pc (h4) <| pn)
    · injection h with h; subst h; exact runFn_sound mixedOrders Try.func47 rfl (keep := none) (π := [.dec true, .dec false]) (hrun := by kernel_rfl) (hps := pc (h2) <| pc (h3) <| pn)
  · injection h with h; subst h; exact runFn_sound mixedOrders Try.func47 rfl (keep := none) (π := [.dec false]) (hrun := by kernel_rfl) (hps := pc (h2) <| pn)

theorem k_names_place_Device {a1 : List Api_Device} {a2 : Int} {r : Bool} (h : names_place_Device a1 a2 = some r) :
    CallsOK Try.prog UU 59 [.sl 54 a1, .v (.int .i64 a2)] [] (.v (.bool r)) [] := by
  unfold names_place_Device at h
  rcases ite_out h with ⟨h3, h⟩ | ⟨h3, h⟩
  · injection h with h; subst h; exact runFn_sound mixedOrders Try.func59 rfl (keep := none) (π := [.dec true]) (hrun := by kernel_rfl) (hps := pc (h3) <| pn)
  · injection h with h; subst h; exact runFn_sound mixedOrders Try.func59 rfl (keep := none) (π := [.dec false]) (hrun := by kernel_rfl) (hps := pc (h3) <| pn)

theorem k_names_judge_domain_1 {a1 : Api_Domain} {a2 : Int} {a3 : Int} {r : Bool} (h : names_judge_domain_1 a1 a2 a3 = some r) :
    CallsOK Try.prog UU 162 [.agg (c56 a1), .rp (c3 a2) 0, .rp (c3 a3) 0] [] (.v (.bool r)) [] := by
  unfold names_judge_domain_1 at h
  rcases ite_out h with ⟨h4, h⟩ | ⟨h4, h⟩
  · injection h with h; subst h; exact runFn_sound mixedOrders Try.func162 rfl (keep := none) (π := [.dec true]) (hrun := by kernel_rfl) (hps := pc (h4) <| pn)
  · injection h with h; subst h; exact runFn_sound mixedOrders Try.func162 rfl (keep := none) (π := [.dec false]) (hrun := by kernel_rfl) (hps := pc (h4) <| pn)

theorem k_slices_IndexFunc_Domain_judge_domain_1_L1 {a1 : List Api_Domain} {a2 : Int} {a3 : Int} : LoopOK Try.prog UU 0 19 (subC (codeOf Try.f137) [1, 0, 1, 0, 0]) (ρ := Int ⊕ Unit) (slices_IndexFunc_Domain_judge_domain_1_L1 a1 a2 a3)
    (fun v4 : Int => ([(0, .sl 56 a1), (1, .fn (.func 162) [] [.rp (c3 a2) 0, .rp (c3 a3) 0]), (4, .v (.int .i64 0)), (7, .v (.int .i64 (a1.length : Int))), (8, .v (.int .i64 v4))] : Fr DD)) (fun v4 : Int => ([] : Heap DD)) (fun r => match r with | Sum.inl v12 => .ret | Sum.inr _ => .exit 0) (fun r => match r with | Sum.inl v12 => [(4, .v (.int .i64 v12))] | Sum.inr _ => [(4, .v (.int .i64 0))]) (fun r => match r with | Sum.inl v12 => [] | Sum.inr _ => []) := by
  refine loop_sound3 (fun s q h => ?_) (fun r => ?_)
  · replace h : slices_IndexFunc_Domain_judge_domain_1_L1 a1 a2 a3 s = some q := h; revert h; revert s; intro v4 h
    unfold slices_IndexFunc_Domain_judge_domain_1_L1 at h
    rcases ite_out h with ⟨h5, h⟩ | ⟨h5, h⟩
    · obtain ⟨x6, h7, h⟩ := bind_out h
      obtain ⟨r8, h9, h⟩ := bind_out h
      rcases ite_out h with ⟨h10, h⟩ | ⟨h10, h⟩
      · injection h with h; subst h; exact runLp_sound mixedOrders (live := [4]) (ids := []) (π := [.dec true, .row (c56 x6), .callv (.v (.bool r8)), .dec true]) (hx := by kernel_rfl) (hps := pc (h5) <| pc (ob56 h7) <| pc (k_names_judge_domain_1 h9) <| pc (h10) <| pn)
      · injection h with h; subst h; exact runLp_sound mixedOrders (live := [0, 1, 4, 7, 8]) (ids := []) (π := [.dec true, .row (c56 x6), .callv (.v (.bool r8)), .dec false]) (hx := by kernel_rfl) (hps := pc (h5) <| pc (ob56 h7) <| pc (k_names_judge_domain_1 h9) <| pc (h10) <| pn)
    · injection h with h; subst h; exact runLp_sound mixedOrders (live := [4]) (ids := []) (π := [.dec false]) (hx := by kernel_rfl) (hps := pc (h5) <| pn)
  · rcases r with _ | _ <;> exact Ex.noConfusion

theorem k_slices_IndexFunc_Domain_judge_domain_1 {a1 : List Api_Domain} {a2 : Int} {a3 : Int} {r : Int} (h : slices_IndexFunc_Domain_judge_domain_1 a1 a2 a3 = some r) :
    CallsOK Try.prog UU 137 [.sl 56 a1, .fn (.func 162) [] [.rp (c3 a2) 0, .rp (c3 a3) 0]] [] (.v (.int .i64 r)) [] := by
  unfold slices_IndexFunc_Domain_judge_domain_1 at h
  obtain ⟨r14, h13, h⟩ := bind_out h
  rcases r14 with v12 | _
  · injection h with h; subst h; exact runFn_sound mixedOrders Try.func137 rfl (keep := none) (π := [.sum [0, 1, 4, 7, 8] [] .ret [(4, .v (.int .i64 v12))] []]) (hrun := by kernel_rfl) (hps := pc (k_slices_IndexFunc_Domain_judge_domain_1_L1 _ _ h13) <| pn)
  · injection h with h; subst h; exact runFn_sound mixedOrders Try.func137 rfl (keep := none) (π := [.sum [0, 1, 4, 7, 8] [] (.exit 0) [(4, .v (.int .i64 0))] []]) (hrun := by kernel_rfl) (hps := pc (k_slices_IndexFunc_Domain_judge_domain_1_L1 _ _ h13) <| pn)

theorem k_names_judge_domain {a1 : Names_judge} {a2 : Int} {a3 : Int} {r : Int} (h : names_judge_domain a1 a2 a3 = some r) :
    CallsOK Try.prog UU 128 [.agg (c93 a1), .v (.int .i64 a2), .v (.int .i64 a3)] [] (.v (.int .i64 r)) [] := by
  unfold names_judge_domain at h
  obtain ⟨r4, h5, h⟩ := bind_out h
  injection h with h; subst h; exact runFn_sound mixedOrders Try.func128 rfl (keep := none) (π := [.callv (.v (.int .i64 r4))]) (hrun := by kernel_rfl) (hps := pc (k_slices_IndexFunc_Domain_judge_domain_1 h5) <| pn)

theorem k_names_place_Irb {a1 : List Api_Irb} {a2 : Int} {r : Bool} (h : names_place_Irb a1 a2 = some r) :
    CallsOK Try.prog UU 127 [.sl 74 a1, .v (.int .i64 a2)] [] (.v (.bool r)) [] := by
  unfold names_place_Irb at h
  rcases ite_out h with ⟨h3, h⟩ | ⟨h3, h⟩
  · injection h with h; subst h; exact runFn_sound mixedOrders Try.func127 rfl (keep := none) (π := [.dec true]) (hrun := by kernel_rfl) (hps := pc (h3) <| pn)
  · injection h with h; subst h; exact runFn_sound mixedOrders Try.func127 rfl (keep := none) (π := [.dec false]) (hrun := by kernel_rfl) (hps := pc (h3) <| pn)

theorem k_names_judge_bare {a1 : Names_judge} {a2 : Int} {a3 : Api_Domain} {r : Bool} (h : names_judge_bare a1 a2 a3 = some r) :
    CallsOK Try.prog UU 49 [.agg (c93 a1), .v (.int .i64 a2), .agg (c56 a3)] [] (.v (.bool r)) [] := by
  unfold names_judge_bare at h
  obtain ⟨r4, h5, h⟩ := bind_out h
  rcases ite_out h with ⟨h6, h⟩ | ⟨h6, h⟩
  · rcases ite_out h with ⟨h7, h⟩ | ⟨h7, h⟩
    · rcases ite_out h with ⟨h8, h⟩ | ⟨h8, h⟩
      · rcases ite_out h with ⟨h9, h⟩ | ⟨h9, h⟩
        · rcases ite_out h with ⟨h10, h⟩ | ⟨h10, h⟩
          · rcases ite_out h with ⟨h11, h⟩ | ⟨h11, h⟩
            · obtain ⟨r12, h13, h⟩ := bind_out h
              injection h with h; subst h; exact runFn_sound mixedOrders Try.func49 rfl (keep := none) (π := [.callv (.v (.bool r4)), .dec true, .dec true, .dec true, .dec true, .dec true, .dec true, .callv (.v (.int .i64 r12))]) (hrun := by kernel_rfl) (hps := pc (k_names_place_Device h5) <| pc (h6) <| pc (h7) <| pc (h8) <| pc (h9) <| pc (h10) <| pc (h11) <| pc (k_names_judge_domain h13) <| pn)
            · obtain ⟨r14, h15, h⟩ := bind_out h
              rcases ite_out h with ⟨h16, h⟩ | ⟨h16, h⟩
              · obtain ⟨x17, h18, h⟩ := bind_out h
                rcases ite_out h with ⟨h19, h⟩ | ⟨h19, h⟩
                · obtain ⟨r20, h21, h⟩ := bind_out h
                  injection h with h; subst h; exact runFn_sound mixedOrders Try.func49 rfl (keep := none) (π := [.callv (.v (.bool r4)), .dec true, .dec true, .dec true, .dec true, .dec true, .dec false, .callv (.v (.bool r14)), .dec true, .row (c74 x17), .dec true, .callv (.v (.int .i64 r20))]) (hrun := by kernel_rfl) (hps := pc (k_names_place_Device h5) <| pc (h6) <| pc (h7) <| pc (h8) <| pc (h9) <| pc (h10) <| pc (h11) <| pc (k_names_place_Irb h15) <| pc (h16) <| pc (ob74 h18) <| pc (h19) <| pc (k_names_judge_domain h21) <| pn)
                · injection h with h; subst h; exact runFn_sound mixedOrders Try.func49 rfl (keep := none) (π := [.callv (.v (.bool r4)), .dec true, .dec true, .dec true, .dec true, .dec true, .dec false, .callv (.v (.bool r14)), .dec true, .row (c74 x17), .dec false]) (hrun := by kernel_rfl) (hps := pc (k_names_place_Device h5) <| pc (h6) <| pc (h7) <| pc (h8) <| pc (h9) <| pc (h10) <| pc (h11) <| pc (k_names_place_Irb h15) <| pc (h16) <| pc (ob74 h18) <| pc (h19) <| pn)
              · injection h with h; subst h; exact runFn_sound mixedOrders Try.func49 rfl (keep := none) (π := [.callv (.v (.bool r4)), .dec true, .dec true, .dec true, .dec true, .dec true, .dec false, .callv (.v (.bool r14)), .dec false]) (hrun := by kernel_rfl) (hps := pc (k_names_place_Device h5) <| pc (h6) <| pc (h7) <| pc (h8) <| pc (h9) <| pc (h10) <| pc (h11) <| pc (k_names_place_Irb h15) <| pc (h16) <| pn)
          · injection h with h; subst h; exact runFn_sound mixedOrders Try.func49 rfl (keep := none) (π := [.callv (.v (.bool r4)), .dec true, .dec true, .dec true, .dec true, .dec false]) (hrun := by kernel_rfl) (hps := pc (k_names_place_Device h5) <| pc (h6) <| pc (h7) <| pc (h8) <| pc (h9) <| pc (h10) <| pn)
        · injection h with h; subst h; exact runFn_sound mixedOrders Try.func49 rfl (keep := none) (π := [.callv (.v (.bool r4)), .dec true, .dec true, .dec true, .dec false]) (hrun := by kernel_rfl) (hps := pc (k_names_place_Device h5) <| pc (h6) <| pc (h7) <| pc (h8) <| pc (h9) <| pn)
      · injection h with h; subst h; exact runFn_sound mixedOrders Try.func49 rfl (keep := none) (π := [.callv (.v (.bool r4)), .dec true, .dec true, .dec false]) (hrun := by kernel_rfl) (hps := pc (k_names_place_Device h5) <| pc (h6) <| pc (h7) <| pc (h8) <| pn)
    · injection h with h; subst h; exact runFn_sound mixedOrders Try.func49 rfl (keep := none) (π := [.callv (.v (.bool r4)), .dec true, .dec false]) (hrun := by kernel_rfl) (hps := pc (k_names_place_Device h5) <| pc (h6) <| pc (h7) <| pn)
  · injection h with h; subst h; exact runFn_sound mixedOrders Try.func49 rfl (keep := none) (π := [.callv (.v (.bool r4)), .dec false]) (hrun := by kernel_rfl) (hps := pc (k_names_place_Device h5) <| pc (h6) <| pn)

theorem k_names_all_Domain_judge_bare_L1 {a1 : List Api_Domain} {a2 : Names_judge} : LoopOK Try.prog UU 0 20 (subC (codeOf Try.f48) [1, 0, 1, 0, 0]) (ρ := Unit ⊕ Unit) (names_all_Domain_judge_bare_L1 a1 a2)
    (fun v3 : Int => ([(1, .fn (.func 49) [.agg (c93 a2)] []), (4, .v (.bool false)), (7, .sl 56 a1), (8, .v (.int .i64 (a1.length : Int))), (9, .v (.int .i64 v3))] : Fr DD)) (fun v3 : Int => ([] : Heap DD)) (fun r => match r with | Sum.inl _ => .ret | Sum.inr _ => .exit 0) (fun r => match r with | Sum.inl _ => [(4, .v (.bool false))] | Sum.inr _ => [(4, .v (.bool false))]) (fun r => match r with | Sum.inl _ => [] | Sum.inr _ => []) := by
  refine loop_sound3 (fun s q h => ?_) (fun r => ?_)
  · replace h : names_all_Domain_judge_bare_L1 a1 a2 s = some q := h; revert h; revert s; intro v3 h
    unfold names_all_Domain_judge_bare_L1 at h
    rcases ite_out h with ⟨h4, h⟩ | ⟨h4, h⟩
    · obtain ⟨x5, h6, h⟩ := bind_out h
      obtain ⟨r7, h8, h⟩ := bind_out h
      rcases ite_out h with ⟨h9, h⟩ | ⟨h9, h⟩
      · injection h with h; subst h; exact runLp_sound mixedOrders (live := [4]) (ids := []) (π := [.dec true, .row (c56 x5), .callv (.v (.bool r7)), .dec true]) (hx := by kernel_rfl) (hps := pc (h4) <| pc (ob56 h6) <| pc (k_names_judge_bare h8) <| pc (h9) <| pn)
      · injection h with h; subst h; exact runLp_sound mixedOrders (live := [1, 4, 7, 8, 9]) (ids := []) (π := [.dec true, .row (c56 x5), .callv (.v (.bool r7)), .dec false]) (hx := by kernel_rfl) (hps := pc (h4) <| pc (ob56 h6) <| pc (k_names_judge_bare h8) <| pc (h9) <| pn)
    · injection h with h; subst h; exact runLp_sound mixedOrders (live := [4]) (ids := []) (π := [.dec false]) (hx := by kernel_rfl) (hps := pc (h4) <| pn)
  · rcases r with _ | _ <;> exact Ex.noConfusion

theorem k_names_all_Domain_judge_bare {a1 : List Api_Domain} {a2 : Names_judge} {r : Bool} (h : names_all_Domain_judge_bare a1 a2 = some r) :
    CallsOK Try.prog UU 48 [.sl 56 a1, .fn (.func 49) [.agg (c93 a2)] []] [] (.v (.bool r)) [] := by
  unfold names_all_Domain_judge_bare at h
  obtain ⟨r11, h10, h⟩ := bind_out h
  rcases r11 with _ | _
  · injection h with h; subst h; exact runFn_sound mixedOrders Try.func48 rfl (keep := none) (π := [.sum [1, 4, 7, 8, 9] [] .ret [(4, .v (.bool false))] []]) (hrun := by kernel_rfl) (hps := pc (k_names_all_Domain_judge_bare_L1 _ _ h10) <| pn)
  · injection h with h; subst h; exact runFn_sound mixedOrders Try.func48 rfl (keep := none) (π := [.sum [1, 4, 7, 8, 9] [] (.exit 0) [(4, .v (.bool false))] []]) (hrun := by kernel_rfl) (hps := pc (k_names_all_Domain_judge_bare_L1 _ _ h10) <| pn)

theorem k_names_place_Domain {a1 : List Api_Domain} {a2 : Int} {r : Bool} (h : names_place_Domain a1 a2 = some r) :
    CallsOK Try.prog UU 65 [.sl 56 a1, .v (.int .i64 a2)] [] (.v (.bool r)) [] := by
  unfold names_place_Domain at h
  rcases ite_out h with ⟨h3, h⟩ | ⟨h3, h⟩
  · injection h with h; subst h; exact runFn_sound mixedOrders Try.func65 rfl (keep := none) (π := [.dec true]) (hrun := by kernel_rfl) (hps := pc (h3) <| pn)
  · injection h with h; subst h; exact runFn_sound mixedOrders Try.func65 rfl (keep := none) (π := [.dec false]) (hrun := by kernel_rfl) (hps := pc (h3) <| pn)

theorem k_names_judge_vtep {a1 : Names_judge} {a2 : Api_Domain} {r : Bool} (h : names_judge_vtep a1 a2 = some r) :
    CallsOK Try.prog UU 163 [.agg (c93 a1), .agg (c56 a2)] [] (.v (.bool r)) [] := by
  unfold names_judge_vtep at h
  obtain ⟨x3, h4, h⟩ := bind_out h
  injection h with h; subst h; exact runFn_sound mixedOrders Try.func163 rfl (keep := none) (π := [.row (c54 x3)]) (hrun := by kernel_rfl) (hps := pc (ob54 h4) <| pn)

theorem k_slices_Index_int_L1 {a1 : List Int} {a2 : Int} : LoopOK Try.prog UU 0 19 (subC (codeOf Try.f132) [1, 0, 1, 0, 0]) (ρ := Int ⊕ Unit) (slices_Index_int_L1 a1 a2)
    (fun v3 : Int => ([(0, .sl 3 a1), (1, .v (.int .i64 a2)), (4, .v (.int .i64 0)), (7, .v (.int .i64 (a1.length : Int))), (8, .v (.int .i64 v3))] : Fr DD)) (fun v3 : Int => ([] : Heap DD)) (fun r => match r with | Sum.inl v9 => .ret | Sum.inr _ => .exit 0) (fun r => match r with | Sum.inl v9 => [(4, .v (.int .i64 v9))] | Sum.inr _ => [(4, .v (.int .i64 0))]) (fun r => match r with | Sum.inl v9 => [] | Sum.inr _ => []) := by
  refine loop_sound3 (fun s q h => ?_) (fun r => ?_)
  · replace h : slices_Index_int_L1 a1 a2 s = some q := h; revert h; revert s; intro v3 h
    unfold slices_Index_int_L1 at h
    rcases ite_out h with ⟨h4, h⟩ | ⟨h4, h⟩
    · obtain ⟨x5, h6, h⟩ := bind_out h
      rcases ite_out h with ⟨h7, h⟩ | ⟨h7, h⟩
      · injection h with h; subst h; exact runLp_sound mixedOrders (live := [4]) (ids := []) (π := [.dec true, .row (c3 x5), .dec true]) (hx := by kernel_rfl) (hps := pc (h4) <| pc (ob3 h6) <| pc (h7) <| pn)
      · injection h with h; subst h; exact runLp_sound mixedOrders (live := [0, 1, 4, 7, 8]) (ids := []) (π := [.dec true, .row (c3 x5), .dec false]) (hx := by kernel_rfl) (hps := pc (h4) <| pc (ob3 h6) <| pc (h7) <| pn)
    · injection h with h; subst h; exact runLp_sound mixedOrders (live := [4]) (ids := []) (π := [.dec false]) (hx := by kernel_rfl) (hps := pc (h4) <| pn)
  · rcases r with _ | _ <;> exact Ex.noConfusion

theorem k_slices_Index_int {a1 : List Int} {a2 : Int} {r : Int} (h : slices_Index_int a1 a2 = some r) :
    CallsOK Try.prog UU 132 [.sl 3 a1, .v (.int .i64 a2)] [] (.v (.int .i64 r)) [] := by
  unfold slices_Index_int at h
  obtain ⟨r11, h10, h⟩ := bind_out h
  rcases r11 with v9 | _
  · injection h with h; subst h; exact runFn_sound mixedOrders Try.func132 rfl (keep := none) (π := [.sum [0, 1, 4, 7, 8] [] .ret [(4, .v (.int .i64 v9))] []]) (hrun := by kernel_rfl) (hps := pc (k_slices_Index_int_L1 _ _ h10) <| pn)
  · injection h with h; subst h; exact runFn_sound mixedOrders Try.func132 rfl (keep := none) (π := [.sum [0, 1, 4, 7, 8] [] (.exit 0) [(4, .v (.int .i64 0))] []]) (hrun := by kernel_rfl) (hps := pc (k_slices_Index_int_L1 _ _ h10) <| pn)

theorem k_slices_Contains_int {a1 : List Int} {a2 : Int} {r : Bool} (h : slices_Contains_int a1 a2 = some r) :
    CallsOK Try.prog UU 68 [.sl 3 a1, .v (.int .i64 a2)] [] (.v (.bool r)) [] := by
  unfold slices_Contains_int at h
  obtain ⟨r3, h4, h⟩ := bind_out h
  injection h with h; subst h; exact runFn_sound mixedOrders Try.func68 rfl (keep := none) (π := [.callv (.v (.int .i64 r3))]) (hrun := by kernel_rfl) (hps := pc (k_slices_Index_int h4) <| pn)

theorem k_names_judge_peer {a1 : Names_judge} {a2 : Int} {a3 : Api_Domain} {a4 : Int} {r : Bool} (h : names_judge_peer a1 a2 a3 a4 = some r) :
    CallsOK Try.prog UU 131 [.agg (c93 a1), .v (.int .i64 a2), .agg (c56 a3), .v (.int .i64 a4)] [] (.v (.bool r)) [] := by
  unfold names_judge_peer at h
  obtain ⟨r5, h6, h⟩ := bind_out h
  rcases ite_out h with ⟨h7, h⟩ | ⟨h7, h⟩
  · injection h with h; subst h; exact runFn_sound mixedOrders Try.func131 rfl (keep := none) (π := [.callv (.v (.bool r5)), .dec true]) (hrun := by kernel_rfl) (hps := pc (k_names_place_Domain h6) <| pc (h7) <| pn)
  · rcases ite_out h with ⟨h8, h⟩ | ⟨h8, h⟩
    · injection h with h; subst h; exact runFn_sound mixedOrders Try.func131 rfl (keep := none) (π := [.callv (.v (.bool r5)), .dec false, .dec true]) (hrun := by kernel_rfl) (hps := pc (k_names_place_Domain h6) <| pc (h7) <| pc (h8) <| pn)
    · obtain ⟨x9, h10, h⟩ := bind_out h
      obtain ⟨r11, h12, h⟩ := bind_out h
      rcases ite_out h with ⟨h13, h⟩ | ⟨h13, h⟩
      · rcases ite_out h with ⟨h14, h⟩ | ⟨h14, h⟩
        · rcases ite_out h with ⟨h15, h⟩ | ⟨h15, h⟩
          · rcases ite_out h with ⟨h16, h⟩ | ⟨h16, h⟩
            · obtain ⟨r17, h18, h⟩ := bind_out h
              rcases ite_out h with ⟨h19, h⟩ | ⟨h19, h⟩
              · obtain ⟨r20, h21, h⟩ := bind_out h
                rcases ite_out h with ⟨h22, h⟩ | ⟨h22, h⟩
                · obtain ⟨r23, h24, h⟩ := bind_out h
                  injection h with h; subst h; exact runFn_sound mixedOrders Try.func131 rfl (keep := none) (π := [.callv (.v (.bool r5)), .dec false, .dec false, .row (c56 x9), .callv (.v (.bool r11)), .dec true, .dec true, .dec true, .dec true, .callv (.v (.bool r17)), .dec true, .callv (.v (.bool r20)), .dec true, .callv (.v (.bool r23))]) (hrun := by kernel_rfl) (hps := pc (k_names_place_Domain h6) <| pc (h7) <| pc (h8) <| pc (ob56 h10) <| pc (k_names_place_Device h12) <| pc (h13) <| pc (h14) <| pc (h15) <| pc (h16) <| pc (k_names_judge_vtep h18) <| pc (h19) <| pc (k_names_judge_vtep h21) <| pc (h22) <| pc (k_slices_Contains_int h24) <| pn)
                · injection h with h; subst h; exact runFn_sound mixedOrders Try.func131 rfl (keep := none) (π := [.callv (.v (.bool r5)), .dec false, .dec false, .row (c56 x9), .callv (.v (.bool r11)), .dec true, .dec true, .dec true, .dec true, .callv (.v (.bool r17)), .dec true, .callv (.v (.bool r20)), .dec false]) (hrun := by kernel_rfl) (hps := pc (k_names_place_Domain h6) <| pc (h7) <| pc (h8) <| pc (ob56 h10) <| pc (k_names_place_Device h12) <| pc (h13) <| pc (h14) <| pc (h15) <| pc (h16) <| pc (k_names_judge_vtep h18) <| pc (h19) <| pc (k_names_judge_vtep h21) <| pc (h22) <| pn)
              · injection h with h; subst h; exact runFn_sound mixedOrders Try.func131 rfl (keep := none) (π := [.callv (.v (.bool r5)), .dec false, .dec false, .row (c56 x9), .callv (.v (.bool r11)), .dec true, .dec true, .dec true, .dec true, .callv (.v (.bool r17)), .dec false]) (hrun := by kernel_rfl) (hps := pc (k_names_place_Domain h6) <| pc (h7) <| pc (h8) <| pc (ob56 h10) <| pc (k_names_place_Device h12) <| pc (h13) <| pc (h14) <| pc (h15) <| pc (h16) <| pc (k_names_judge_vtep h18) <| pc (h19) <| pn)
            · injection h with h; subst h; exact runFn_sound mixedOrders Try.func131 rfl (keep := none) (π := [.callv (.v (.bool r5)), .dec false, .dec false, .row (c56 x9), .callv (.v (.bool r11)), .dec true, .dec true, .dec true, .dec false]) (hrun := by kernel_rfl) (hps := pc (k_names_place_Domain h6) <| pc (h7) <| pc (h8) <| pc (ob56 h10) <| pc (k_names_place_Device h12) <| pc (h13) <| pc (h14) <| pc (h15) <| pc (h16) <| pn)
          · injection h with h; subst h; exact runFn_sound mixedOrders Try.func131 rfl (keep := none) (π := [.callv (.v (.bool r5)), .dec false, .dec false, .row (c56 x9), .callv (.v (.bool r11)), .dec true, .dec true, .dec false]) (hrun := by kernel_rfl) (hps := pc (k_names_place_Domain h6) <| pc (h7) <| pc (h8) <| pc (ob56 h10) <| pc (k_names_place_Device h12) <| pc (h13) <| pc (h14) <| pc (h15) <| pn)
        · injection h with h; subst h; exact runFn_sound mixedOrders Try.func131 rfl (keep := none) (π := [.callv (.v (.bool r5)), .dec false, .dec false, .row (c56 x9), .callv (.v (.bool r11)), .dec true, .dec false]) (hrun := by kernel_rfl) (hps := pc (k_names_place_Domain h6) <| pc (h7) <| pc (h8) <| pc (ob56 h10) <| pc (k_names_place_Device h12) <| pc (h13) <| pc (h14) <| pn)
      · injection h with h; subst h; exact runFn_sound mixedOrders Try.func131 rfl (keep := none) (π := [.callv (.v (.bool r5)), .dec false, .dec false, .row (c56 x9), .callv (.v (.bool r11)), .dec false]) (hrun := by kernel_rfl) (hps := pc (k_names_place_Domain h6) <| pc (h7) <| pc (h8) <| pc (ob56 h10) <| pc (k_names_place_Device h12) <| pc (h13) <| pn)

theorem k_names_judge_peers_1 {a1 : Int} {a2 : Int} {a3 : Names_judge} {a4 : Int} {a5 : Api_Domain} {r : Bool} (h : names_judge_peers_1 a1 a2 a3 a4 a5 = some r) :
    CallsOK Try.prog UU 130 [.v (.int .i64 a1), .v (.int .i64 a2), .rp (c93 a3) 0, .rp (c3 a4) 0, .rp (c56 a5) 0] [] (.v (.bool r)) [] := by
  unfold names_judge_peers_1 at h
  obtain ⟨r6, h7, h⟩ := bind_out h
  rcases ite_out h with ⟨h8, h⟩ | ⟨h8, h⟩
  · obtain ⟨r9, h10, h⟩ := bind_out h
    injection h with h; subst h; exact runFn_sound mixedOrders Try.func130 rfl (keep := none) (π := [.callv (.v (.bool r6)), .dec true, .callv (.v (.int .i64 r9))]) (hrun := by kernel_rfl) (hps := pc (k_names_judge_peer h7) <| pc (h8) <| pc (k_slices_Index_int h10) <| pn)
  · injection h with h; subst h; exact runFn_sound mixedOrders Try.func130 rfl (keep := none) (π := [.callv (.v (.bool r6)), .dec false]) (hrun := by kernel_rfl) (hps := pc (k_names_judge_peer h7) <| pc (h8) <| pn)

theorem k_names_all_int_judge_peers_1_L1 {a1 : List Int} {a2 : Names_judge} {a3 : Int} {a4 : Api_Domain} : LoopOK Try.prog UU 0 20 (subC (codeOf Try.f129) [1, 0, 1, 0, 0]) (ρ := Unit ⊕ Unit) (names_all_int_judge_peers_1_L1 a1 a2 a3 a4)
    (fun v5 : Int => ([(1, .fn (.func 130) [] [.rp (c93 a2) 0, .rp (c3 a3) 0, .rp (c56 a4) 0]), (4, .v (.bool false)), (7, .sl 3 a1), (8, .v (.int .i64 (a1.length : Int))), (9, .v (.int .i64 v5))] : Fr DD)) (fun v5 : Int => ([] : Heap DD)) (fun r => match r with | Sum.inl _ => .ret | Sum.inr _ => .exit 0) (fun r => match r with | Sum.inl _ => [(4, .v (.bool false))] | Sum.inr _ => [(4, .v (.bool false))]) (fun r => match r with | Sum.inl _ => [] | Sum.inr _ => []) := by
  refine loop_sound3 (fun s q h => ?_) (fun r => ?_)
  · replace h : names_all_int_judge_peers_1_L1 a1 a2 a3 a4 s = some q := h; revert h; revert s; intro v5 h
    unfold names_all_int_judge_peers_1_L1 at h
    rcases ite_out h with ⟨h6, h⟩ | ⟨h6, h⟩
    · obtain ⟨x7, h8, h⟩ := bind_out h
      obtain ⟨r9, h10, h⟩ := bind_out h
      rcases ite_out h with ⟨h11, h⟩ | ⟨h11, h⟩
      · injection h with h; subst h; exact runLp_sound mixedOrders (live := [4]) (ids := []) (π := [.dec true, .row (c3 x7), .callv (.v (.bool r9)), .dec true]) (hx := by kernel_rfl) (hps := pc (h6) <| pc (ob3 h8) <| pc (k_names_judge_peers_1 h10) <| pc (h11) <| pn)
      · injection h with h; subst h; exact runLp_sound mixedOrders (live := [1, 4, 7, 8, 9]) (ids := []) (π := [.dec true, .row (c3 x7), .callv (.v (.bool r9)), .dec false]) (hx := by kernel_rfl) (hps := pc (h6) <| pc (ob3 h8) <| pc (k_names_judge_peers_1 h10) <| pc (h11) <| pn)
    · injection h with h; subst h; exact runLp_sound mixedOrders (live := [4]) (ids := []) (π := [.dec false]) (hx := by kernel_rfl) (hps := pc (h6) <| pn)
  · rcases r with _ | _ <;> exact Ex.noConfusion

theorem k_names_all_int_judge_peers_1 {a1 : List Int} {a2 : Names_judge} {a3 : Int} {a4 : Api_Domain} {r : Bool} (h : names_all_int_judge_peers_1 a1 a2 a3 a4 = some r) :
    CallsOK Try.prog UU 129 [.sl 3 a1, .fn (.func 130) [] [.rp (c93 a2) 0, .rp (c3 a3) 0, .rp (c56 a4) 0]] [] (.v (.bool r)) [] := by
  unfold names_all_int_judge_peers_1 at h
  obtain ⟨r13, h12, h⟩ := bind_out h
  rcases r13 with _ | _
  · injection h with h; subst h; exact runFn_sound mixedOrders Try.func129 rfl (keep := none) (π := [.sum [1, 4, 7, 8, 9] [] .ret [(4, .v (.bool false))] []]) (hrun := by kernel_rfl) (hps := pc (k_names_all_int_judge_peers_1_L1 _ _ h12) <| pn)
  · injection h with h; subst h; exact runFn_sound mixedOrders Try.func129 rfl (keep := none) (π := [.sum [1, 4, 7, 8, 9] [] (.exit 0) [(4, .v (.bool false))] []]) (hrun := by kernel_rfl) (hps := pc (k_names_all_int_judge_peers_1_L1 _ _ h12) <| pn)

theorem k_names_judge_peers {a1 : Names_judge} {a2 : Int} {a3 : Api_Domain} {r : Bool} (h : names_judge_peers a1 a2 a3 = some r) :
    CallsOK Try.prog UU 50 [.agg (c93 a1), .v (.int .i64 a2), .agg (c56 a3)] [] (.v (.bool r)) [] := by
  unfold names_judge_peers at h
  obtain ⟨r4, h5, h⟩ := bind_out h
  injection h with h; subst h; exact runFn_sound mixedOrders Try.func50 rfl (keep := none) (π := [.callv (.v (.bool r4))]) (hrun := by kernel_rfl) (hps := pc (k_names_all_int_judge_peers_1 h5) <| pn)

theorem k_names_all_Domain_judge_peers_L1 {a1 : List Api_Domain} {a2 : Names_judge} : LoopOK Try.prog UU 0 20 (subC (codeOf Try.f48) [1, 0, 1, 0, 0]) (ρ := Unit ⊕ Unit) (names_all_Domain_judge_peers_L1 a1 a2)
    (fun v3 : Int => ([(1, .fn (.func 50) [.agg (c93 a2)] []), (4, .v (.bool false)), (7, .sl 56 a1), (8, .v (.int .i64 (a1.length : Int))), (9, .v (.int .i64 v3))] : Fr DD)) (fun v3 : Int => ([] : Heap DD)) (fun r => match r with | Sum.inl _ => .ret | Sum.inr _ => .exit 0) (fun r => match r with | Sum.inl _ => [(4, .v (.bool false))] | Sum.inr _ => [(4, .v (.bool false))]) (fun r => match r with | Sum.inl _ => [] | Sum.inr _ => []) := by
  refine loop_sound3 (fun s q h => ?_) (fun r => ?_)
  · replace h : names_all_Domain_judge_peers_L1 a1 a2 s = some q := h; revert h; revert s; intro v3 h
    unfold names_all_Domain_judge_peers_L1 at h
    rcases ite_out h with ⟨h4, h⟩ | ⟨h4, h⟩
    · obtain ⟨x5, h6, h⟩ := bind_out h
      obtain ⟨r7, h8, h⟩ := bind_out h
      rcases ite_out h with ⟨h9, h⟩ | ⟨h9, h⟩
      · injection h with h; subst h; exact runLp_sound mixedOrders (live := [4]) (ids := []) (π := [.dec true, .row (c56 x5), .callv (.v (.bool r7)), .dec true]) (hx := by kernel_rfl) (hps := pc (h4) <| pc (ob56 h6) <| pc (k_names_judge_peers h8) <| pc (h9) <| pn)
      · injection h with h; subst h; exact runLp_sound mixedOrders (live := [1, 4, 7, 8, 9]) (ids := []) (π := [.dec true, .row (c56 x5), .callv (.v (.bool r7)), .dec false]) (hx := by kernel_rfl) (hps := pc (h4) <| pc (ob56 h6) <| pc (k_names_judge_peers h8) <| pc (h9) <| pn)
    · injection h with h; subst h; exact runLp_sound mixedOrders (live := [4]) (ids := []) (π := [.dec false]) (hx := by kernel_rfl) (hps := pc (h4) <| pn)
  · rcases r with _ | _ <;> exact Ex.noConfusion

theorem k_names_all_Domain_judge_peers {a1 : List Api_Domain} {a2 : Names_judge} {r : Bool} (h : names_all_Domain_judge_peers a1 a2 = some r) :
    CallsOK Try.prog UU 48 [.sl 56 a1, .fn (.func 50) [.agg (c93 a2)] []] [] (.v (.bool r)) [] := by
  unfold names_all_Domain_judge_peers at h
  obtain ⟨r11, h10, h⟩ := bind_out h
  rcases r11 with _ | _
  · injection h with h; subst h; exact runFn_sound mixedOrders Try.func48 rfl (keep := none) (π := [.sum [1, 4, 7, 8, 9] [] .ret [(4, .v (.bool false))] []]) (hrun := by kernel_rfl) (hps := pc (k_names_all_Domain_judge_peers_L1 _ _ h10) <| pn)
  · injection h with h; subst h; exact runFn_sound mixedOrders Try.func48 rfl (keep := none) (π := [.sum [1, 4, 7, 8, 9] [] (.exit 0) [(4, .v (.bool false))] []]) (hrun := by kernel_rfl) (hps := pc (k_names_all_Domain_judge_peers_L1 _ _ h10) <| pn)

theorem k_num_Rising_L1 {a1 : List Int} {a2 : Int} {a3 : Int} : LoopOK Try.prog UU 0 46 (subC (codeOf Try.f135) [1, 0, 1, 0, 0]) (ρ := Unit ⊕ Unit) (num_Rising_L1 a1 a2 a3)
    (fun v4 : Int => ([(0, .sl 3 a1), (1, .v (.int .i64 a2)), (2, .v (.int .i64 a3)), (6, .v (.bool false)), (9, .sl 3 a1), (10, .v (.int .i64 (a1.length : Int))), (11, .v (.int .i64 v4))] : Fr DD)) (fun v4 : Int => ([] : Heap DD)) (fun r => match r with | Sum.inl _ => .ret | Sum.inr _ => .exit 0) (fun r => match r with | Sum.inl _ => [(6, .v (.bool false))] | Sum.inr _ => [(0, .sl 3 a1), (6, .v (.bool false))]) (fun r => match r with | Sum.inl _ => [] | Sum.inr _ => []) := by
  refine loop_sound3 (fun s q h => ?_) (fun r => ?_)
  · replace h : num_Rising_L1 a1 a2 a3 s = some q := h; revert h; revert s; intro v4 h
    unfold num_Rising_L1 at h
    rcases ite_out h with ⟨h5, h⟩ | ⟨h5, h⟩
    · obtain ⟨x6, h7, h⟩ := bind_out h
      rcases ite_out h with ⟨h8, h⟩ | ⟨h8, h⟩
      · injection h with h; subst h; exact runLp_sound mixedOrders (live := [6]) (ids := []) (π := [.dec true, .row (c3 x6), .dec true]) (hx := by kernel_rfl) (hps := pc (h5) <| pc (ob3 h7) <| pc (h8) <| pn)
      · rcases ite_out h with ⟨h9, h⟩ | ⟨h9, h⟩
        · injection h with h; subst h; exact runLp_sound mixedOrders (live := [6]) (ids := []) (π := [.dec true, .row (c3 x6), .dec false, .dec true]) (hx := by kernel_rfl) (hps := pc (h5) <| pc (ob3 h7) <| pc (h8) <| pc (h9) <| pn)
        · rcases ite_out h with ⟨h10, h⟩ | ⟨h10, h⟩
          · obtain ⟨x11, h12, h⟩ := bind_out h
            rcases ite_out h with ⟨h13, h⟩ | ⟨h13, h⟩
            · injection h with h; subst h; exact runLp_sound mixedOrders (live := [6]) (ids := []) (π := [.dec true, .row (c3 x6), .dec false, .dec false, .dec true, .row (c3 x11), .dec true]) (hx := by kernel_rfl) (hps := pc (h5) <| pc (ob3 h7) <| pc (h8) <| pc (h9) <| pc (h10) <| pc (ob3 h12) <| pc (h13) <| pn)
            · injection h with h; subst h; exact runLp_sound mixedOrders (live := [0, 1, 2, 6, 9, 10, 11]) (ids := []) (π := [.dec true, .row (c3 x6), .dec false, .dec false, .dec true, .row (c3 x11), .dec false]) (hx := by kernel_rfl) (hps := pc (h5) <| pc (ob3 h7) <| pc (h8) <| pc (h9) <| pc (h10) <| pc (ob3 h12) <| pc (h13) <| pn)
          · injection h with h; subst h; exact runLp_sound mixedOrders (live := [0, 1, 2, 6, 9, 10, 11]) (ids := []) (π := [.dec true, .row (c3 x6), .dec false, .dec false, .dec false]) (hx := by kernel_rfl) (hps := pc (h5) <| pc (ob3 h7) <| pc (h8) <| pc (h9) <| pc (h10) <| pn)
    · injection h with h; subst h; exact runLp_sound mixedOrders (live := [0, 6]) (ids := []) (π := [.dec false]) (hx := by kernel_rfl) (hps := pc (h5) <| pn)
  · rcases r with _ | _ <;> exact Ex.noConfusion

theorem k_num_Rising {a1 : List Int} {a2 : Int} {a3 : Int} {r : Bool} (h : num_Rising a1 a2 a3 = some r) :
    CallsOK Try.prog UU 135 [.sl 3 a1, .v (.int .i64 a2), .v (.int .i64 a3)] [] (.v (.bool r)) [] := by
  unfold num_Rising at h
  obtain ⟨r15, h14, h⟩ := bind_out h
  rcases r15 with _ | _
  · injection h with h; subst h; exact runFn_sound mixedOrders Try.func135 rfl (keep := none) (π := [.sum [0, 1, 2, 6, 9, 10, 11] [] .ret [(6, .v (.bool false))] []]) (hrun := by kernel_rfl) (hps := pc (k_num_Rising_L1 _ _ h14) <| pn)
  · rcases ite_out h with ⟨h16, h⟩ | ⟨h16, h⟩
    · injection h with h; subst h; exact runFn_sound mixedOrders Try.func135 rfl (keep := none) (π := [.sum [0, 1, 2, 6, 9, 10, 11] [] (.exit 0) [(0, .sl 3 a1), (6, .v (.bool false))] [], .dec true]) (hrun := by kernel_rfl) (hps := pc (k_num_Rising_L1 _ _ h14) <| pc (h16) <| pn)
    · injection h with h; subst h; exact runFn_sound mixedOrders Try.func135 rfl (keep := none) (π := [.sum [0, 1, 2, 6, 9, 10, 11] [] (.exit 0) [(0, .sl 3 a1), (6, .v (.bool false))] [], .dec false]) (hrun := by kernel_rfl) (hps := pc (k_num_Rising_L1 _ _ h14) <| pc (h16) <| pn)

theorem k_names_rising {a1 : List Int} {a2 : Int} {r : Bool} (h : names_rising a1 a2 = some r) :
    CallsOK Try.prog UU 62 [.sl 3 a1, .v (.int .i64 a2)] [] (.v (.bool r)) [] := by
  unfold names_rising at h
  rcases ite_out h with ⟨h3, h⟩ | ⟨h3, h⟩
  · injection h with h; subst h; exact runFn_sound mixedOrders Try.func62 rfl (keep := none) (π := [.dec true]) (hrun := by kernel_rfl) (hps := pc (h3) <| pn)
  · obtain ⟨r4, h5, h⟩ := bind_out h
    injection h with h; subst h; exact runFn_sound mixedOrders Try.func62 rfl (keep := none) (π := [.dec false, .callv (.v (.bool r4))]) (hrun := by kernel_rfl) (hps := pc (h3) <| pc (k_num_Rising h5) <| pn)

theorem k_names_place_Link {a1 : List Api_Link} {a2 : Int} {r : Bool} (h : names_place_Link a1 a2 = some r) :
    CallsOK Try.prog UU 133 [.sl 41 a1, .v (.int .i64 a2)] [] (.v (.bool r)) [] := by
  unfold names_place_Link at h
  rcases ite_out h with ⟨h3, h⟩ | ⟨h3, h⟩
  · injection h with h; subst h; exact runFn_sound mixedOrders Try.func133 rfl (keep := none) (π := [.dec true]) (hrun := by kernel_rfl) (hps := pc (h3) <| pn)
  · injection h with h; subst h; exact runFn_sound mixedOrders Try.func133 rfl (keep := none) (π := [.dec false]) (hrun := by kernel_rfl) (hps := pc (h3) <| pn)

theorem k_names_judge_port_J1 {a1 : Names_judge} {a2 : Int} {a3 : Api_Port} {r : Unit ⊕ Unit} (h : names_judge_port_J1 a1 a2 a3 = some r) :
    ExecOK Try.prog UU 0 111 (subC (codeOf Try.f52) [1, 0]) [(1, .v (.int .i64 a2)), (3, .op 0 1 0 0), (5, .op 1 1 0 0), (6, .v (.bool false))] [.box 93 (c93 a1) false, .box 36 (c36 a3) false] ((fun r => match r with | Sum.inl _ => .ret | Sum.inr _ => .nor) r) ((fun r => match r with | Sum.inl _ => [(6, .v (.bool false))] | Sum.inr _ => [(1, .v (.int .i64 a2)), (3, .op 0 1 0 0), (5, .op 1 1 0 0), (6, .v (.bool false))]) r) ((fun r => match r with | Sum.inl _ => [] | Sum.inr _ => [.box 93 (c93 a1) false, .box 36 (c36 a3) false]) r) := by
  unfold names_judge_port_J1 at h
  obtain ⟨r4, h5, h⟩ := bind_out h
  rcases ite_out h with ⟨h6, h⟩ | ⟨h6, h⟩
  · injection h with h; subst h; exact runLp_sound mixedOrders (live := [6]) (ids := []) (π := [.callv (.v (.bool r4)), .dec true]) (hx := by kernel_rfl) (hps := pc (k_names_place_Device h5) <| pc (h6) <| pn)
  · rcases ite_out h with ⟨h7, h⟩ | ⟨h7, h⟩
    · injection h with h; subst h; exact runLp_sound mixedOrders (live := [6]) (ids := []) (π := [.callv (.v (.bool r4)), .dec false, .dec true]) (hx := by kernel_rfl) (hps := pc (k_names_place_Device h5) <| pc (h6) <| pc (h7) <| pn)
    · rcases ite_out h with ⟨h8, h⟩ | ⟨h8, h⟩
      · injection h with h; subst h; exact runLp_sound mixedOrders (live := [6]) (ids := []) (π := [.callv (.v (.bool r4)), .dec false, .dec false, .dec true]) (hx := by kernel_rfl) (hps := pc (k_names_place_Device h5) <| pc (h6) <| pc (h7) <| pc (h8) <| pn)
      · obtain ⟨r9, h10, h⟩ := bind_out h
        rcases ite_out h with ⟨h11, h⟩ | ⟨h11, h⟩
        · injection h with h; subst h; exact runLp_sound mixedOrders (live := [6]) (ids := []) (π := [.callv (.v (.bool r4)), .dec false, .dec false, .dec false, .callv (.v (.bool r9)), .dec true]) (hx := by kernel_rfl) (hps := pc (k_names_place_Device h5) <| pc (h6) <| pc (h7) <| pc (h8) <| pc (k_names_rising h10) <| pc (h11) <| pn)
        · obtain ⟨r12, h13, h⟩ := bind_out h
          rcases ite_out h with ⟨h14, h⟩ | ⟨h14, h⟩
          · injection h with h; subst h; exact runLp_sound mixedOrders (live := [6]) (ids := []) (π := [.callv (.v (.bool r4)), .dec false, .dec false, .dec false, .callv (.v (.bool r9)), .dec false, .callv (.v (.bool r12)), .dec true]) (hx := by kernel_rfl) (hps := pc (k_names_place_Device h5) <| pc (h6) <| pc (h7) <| pc (h8) <| pc (k_names_rising h10) <| pc (h11) <| pc (k_slices_Contains_int h13) <| pc (h14) <| pn)
          · rcases ite_out h with ⟨h15, h⟩ | ⟨h15, h⟩
            · rcases ite_out h with ⟨h16, h⟩ | ⟨h16, h⟩
              · injection h with h; subst h; exact runLp_sound mixedOrders (live := [6]) (ids := []) (π := [.callv (.v (.bool r4)), .dec false, .dec false, .dec false, .callv (.v (.bool r9)), .dec false, .callv (.v (.bool r12)), .dec false, .dec true, .dec true]) (hx := by kernel_rfl) (hps := pc (k_names_place_Device h5) <| pc (h6) <| pc (h7) <| pc (h8) <| pc (k_names_rising h10) <| pc (h11) <| pc (k_slices_Contains_int h13) <| pc (h14) <| pc (h15) <| pc (h16) <| pn)
              · injection h with h; subst h; exact runLp_sound mixedOrders (live := [1, 3, 5, 6]) (ids := [0, 1]) (π := [.callv (.v (.bool r4)), .dec false, .dec false, .dec false, .callv (.v (.bool r9)), .dec false, .callv (.v (.bool r12)), .dec false, .dec true, .dec false]) (hx := by kernel_rfl) (hps := pc (k_names_place_Device h5) <| pc (h6) <| pc (h7) <| pc (h8) <| pc (k_names_rising h10) <| pc (h11) <| pc (k_slices_Contains_int h13) <| pc (h14) <| pc (h15) <| pc (h16) <| pn)
            · injection h with h; subst h; exact runLp_sound mixedOrders (live := [1, 3, 5, 6]) (ids := [0, 1]) (π := [.callv (.v (.bool r4)), .dec false, .dec false, .dec false, .callv (.v (.bool r9)), .dec false, .callv (.v (.bool r12)), .dec false, .dec false]) (hx := by kernel_rfl) (hps := pc (k_names_place_Device h5) <| pc (h6) <| pc (h7) <| pc (h8) <| pc (k_names_rising h10) <| pc (h11) <| pc (k_slices_Contains_int h13) <| pc (h14) <| pc (h15) <| pn)

theorem k_names_judge_port_L2 {a1 : Names_judge} {a2 : Int} {a3 : Api_Port} : LoopOK Try.prog UU 0 111 (subC (codeOf Try.f52) [1, 1, 0, 1, 0, 0]) (ρ := Unit ⊕ Unit) (names_judge_port_L2 a1 a2 a3)
    (fun v19 : Int => ([(1, .v (.int .i64 a2)), (3, .op 0 1 0 0), (5, .op 1 1 0 0), (6, .v (.bool false)), (51, .sl 3 a3.tagged), (52, .v (.int .i64 (a3.tagged.length : Int))), (53, .v (.int .i64 v19))] : Fr DD)) (fun v19 : Int => ([.box 93 (c93 a1) false, .box 36 (c36 a3) false] : Heap DD)) (fun r => match r with | Sum.inl _ => .ret | Sum.inr _ => .exit 0) (fun r => match r with | Sum.inl _ => [(6, .v (.bool false))] | Sum.inr _ => [(1, .v (.int .i64 a2)), (3, .op 0 1 0 0), (5, .op 1 1 0 0), (6, .v (.bool false))]) (fun r => match r with | Sum.inl _ => [] | Sum.inr _ => [.box 93 (c93 a1) false, .box 36 (c36 a3) false]) := by
  refine loop_sound3 (fun s q h => ?_) (fun r => ?_)
  · replace h : names_judge_port_L2 a1 a2 a3 s = some q := h; revert h; revert s; intro v19 h
    unfold names_judge_port_L2 at h
    rcases ite_out h with ⟨h20, h⟩ | ⟨h20, h⟩
    · obtain ⟨x21, h22, h⟩ := bind_out h
      obtain ⟨r23, h24, h⟩ := bind_out h
      rcases ite_out h with ⟨h25, h⟩ | ⟨h25, h⟩
      · injection h with h; subst h; exact runLp_sound mixedOrders (live := [6]) (ids := []) (π := [.dec true, .row (c3 x21), .callv (.v (.int .i64 r23)), .dec true]) (hx := by kernel_rfl) (hps := pc (h20) <| pc (ob3 h22) <| pc (k_names_judge_domain h24) <| pc (h25) <| pn)
      · injection h with h; subst h; exact runLp_sound mixedOrders (live := [1, 3, 5, 6, 51, 52, 53]) (ids := [0, 1]) (π := [.dec true, .row (c3 x21), .callv (.v (.int .i64 r23)), .dec false]) (hx := by kernel_rfl) (hps := pc (h20) <| pc (ob3 h22) <| pc (k_names_judge_domain h24) <| pc (h25) <| pn)
    · injection h with h; subst h; exact runLp_sound mixedOrders (live := [1, 3, 5, 6]) (ids := [0, 1]) (π := [.dec false]) (hx := by kernel_rfl) (hps := pc (h20) <| pn)
  · rcases r with _ | _ <;> exact Ex.noConfusion

theorem k_names_judge_port_J3 {a1 : Names_judge} {a2 : Int} {a3 : Api_Port} {r : Unit ⊕ Unit} (h : names_judge_port_J3 a1 a2 a3 = some r) :
    ExecOK Try.prog UU 0 111 (subC (codeOf Try.f52) [1, 1, 1, 0]) [(1, .v (.int .i64 a2)), (3, .op 0 1 0 0), (5, .op 1 1 0 0), (6, .v (.bool false))] [.box 93 (c93 a1) false, .box 36 (c36 a3) false] ((fun r => match r with | Sum.inl _ => .ret | Sum.inr _ => .nor) r) ((fun r => match r with | Sum.inl _ => [(6, .v (.bool false))] | Sum.inr _ => [(1, .v (.int .i64 a2)), (3, .op 0 1 0 0), (5, .op 1 1 0 0), (6, .v (.bool false))]) r) ((fun r => match r with | Sum.inl _ => [] | Sum.inr _ => [.box 93 (c93 a1) false, .box 36 (c36 a3) false]) r) := by
  unfold names_judge_port_J3 at h
  rcases ite_out h with ⟨h28, h⟩ | ⟨h28, h⟩
  · obtain ⟨r29, h30, h⟩ := bind_out h
    rcases ite_out h with ⟨h31, h⟩ | ⟨h31, h⟩
    · injection h with h; subst h; exact runLp_sound mixedOrders (live := [6]) (ids := []) (π := [.dec true, .callv (.v (.int .i64 r29)), .dec true]) (hx := by kernel_rfl) (hps := pc (h28) <| pc (k_names_judge_domain h30) <| pc (h31) <| pn)
    · injection h with h; subst h; exact runLp_sound mixedOrders (live := [1, 3, 5, 6]) (ids := [0, 1]) (π := [.dec true, .callv (.v (.int .i64 r29)), .dec false]) (hx := by kernel_rfl) (hps := pc (h28) <| pc (k_names_judge_domain h30) <| pc (h31) <| pn)
  · injection h with h; subst h; exact runLp_sound mixedOrders (live := [1, 3, 5, 6]) (ids := [0, 1]) (π := [.dec false]) (hx := by kernel_rfl) (hps := pc (h28) <| pn)

theorem k_names_judge_port {a1 : Names_judge} {a2 : Int} {a3 : Api_Port} {r : Bool} (h : names_judge_port a1 a2 a3 = some r) :
    CallsOK Try.prog UU 52 [.agg (c93 a1), .v (.int .i64 a2), .agg (c36 a3)] [] (.v (.bool r)) [] := by
  unfold names_judge_port at h
  obtain ⟨r18, h17, h⟩ := bind_out h
  rcases r18 with _ | _
  · injection h with h; subst h; exact runFn_sound mixedOrders Try.func52 rfl (keep := none) (π := [.skp, .cut [1, 3, 5, 6] [0, 1] .ret [(6, .v (.bool false))] []]) (hrun := by kernel_rfl) (hps := pc (k_names_judge_port_J1 h17) <| pn)
  · obtain ⟨r27, h26, h⟩ := bind_out h
    rcases r27 with _ | _
    · injection h with h; subst h; exact runFn_sound mixedOrders Try.func52 rfl (keep := none) (π := [.skp, .cut [1, 3, 5, 6] [0, 1] .nor [(1, .v (.int .i64 a2)), (3, .op 0 1 0 0), (5, .op 1 1 0 0), (6, .v (.bool false))] [.box 93 (c93 a1) false, .box 36 (c36 a3) false], .sum [1, 3, 5, 6, 51, 52, 53] [0, 1] .ret [(6, .v (.bool false))] []]) (hrun := by kernel_rfl) (hps := pc (k_names_judge_port_J1 h17) <| pc (k_names_judge_port_L2 _ _ h26) <| pn)
    · obtain ⟨r33, h32, h⟩ := bind_out h
      rcases r33 with _ | _
      · injection h with h; subst h; exact runFn_sound mixedOrders Try.func52 rfl (keep := none) (π := [.skp, .cut [1, 3, 5, 6] [0, 1] .nor [(1, .v (.int .i64 a2)), (3, .op 0 1 0 0), (5, .op 1 1 0 0), (6, .v (.bool false))] [.box 93 (c93 a1) false, .box 36 (c36 a3) false], .sum [1, 3, 5, 6, 51, 52, 53] [0, 1] (.exit 0) [(1, .v (.int .i64 a2)), (3, .op 0 1 0 0), (5, .op 1 1 0 0), (6, .v (.bool false))] [.box 93 (c93 a1) false, .box 36 (c36 a3) false], .cut [1, 3, 5, 6] [0, 1] .ret [(6, .v (.bool false))] []]) (hrun := by kernel_rfl) (hps := pc (k_names_judge_port_J1 h17) <| pc (k_names_judge_port_L2 _ _ h26) <| pc (k_names_judge_port_J3 h32) <| pn)
      · rcases ite_out h with ⟨h34, h⟩ | ⟨h34, h⟩
        · injection h with h; subst h; exact runFn_sound mixedOrders Try.func52 rfl (keep := none) (π := [.skp, .cut [1, 3, 5, 6] [0, 1] .nor [(1, .v (.int .i64 a2)), (3, .op 0 1 0 0), (5, .op 1 1 0 0), (6, .v (.bool false))] [.box 93 (c93 a1) false, .box 36 (c36 a3) false], .sum [1, 3, 5, 6, 51, 52, 53] [0, 1] (.exit 0) [(1, .v (.int .i64 a2)), (3, .op 0 1 0 0), (5, .op 1 1 0 0), (6, .v (.bool false))] [.box 93 (c93 a1) false, .box 36 (c36 a3) false], .cut [1, 3, 5, 6] [0, 1] .nor [(1, .v (.int .i64 a2)), (3, .op 0 1 0 0), (5, .op 1 1 0 0), (6, .v (.bool false))] [.box 93 (c93 a1) false, .box 36 (c36 a3) false], .dec true]) (hrun := by kernel_rfl) (hps := pc (k_names_judge_port_J1 h17) <| pc (k_names_judge_port_L2 _ _ h26) <| pc (k_names_judge_port_J3 h32) <| pc (h34) <| pn)
        · obtain ⟨r35, h36, h⟩ := bind_out h
          rcases ite_out h with ⟨h37, h⟩ | ⟨h37, h⟩
          · obtain ⟨x38, h39, h⟩ := bind_out h
            rcases ite_out h with ⟨h40, h⟩ | ⟨h40, h⟩
            · injection h with h; subst h; exact runFn_sound mixedOrders Try.func52 rfl (keep := none) (π := [.skp, .cut [1, 3, 5, 6] [0, 1] .nor [(1, .v (.int .i64 a2)), (3, .op 0 1 0 0), (5, .op 1 1 0 0), (6, .v (.bool false))] [.box 93 (c93 a1) false, .box 36 (c36 a3) false], .sum [1, 3, 5, 6, 51, 52, 53] [0, 1] (.exit 0) [(1, .v (.int .i64 a2)), (3, .op 0 1 0 0), (5, .op 1 1 0 0), (6, .v (.bool false))] [.box 93 (c93 a1) false, .box 36 (c36 a3) false], .cut [1, 3, 5, 6] [0, 1] .nor [(1, .v (.int .i64 a2)), (3, .op 0 1 0 0), (5, .op 1 1 0 0), (6, .v (.bool false))] [.box 93 (c93 a1) false, .box 36 (c36 a3) false], .dec false, .callv (.v (.bool r35)), .dec true, .row (c41 x38), .dec true]) (hrun := by kernel_rfl) (hps := pc (k_names_judge_port_J1 h17) <| pc (k_names_judge_port_L2 _ _ h26) <| pc (k_names_judge_port_J3 h32) <| pc (h34) <| pc (k_names_place_Link h36) <| pc (h37) <| pc (ob41 h39) <| pc (h40) <| pn)
            · obtain ⟨x41, h42, h⟩ := bind_out h
              injection h with h; subst h; exact runFn_sound mixedOrders Try.func52 rfl (keep := none) (π := [.skp, .cut [1, 3, 5, 6] [0, 1] .nor [(1, .v (.int .i64 a2)), (3, .op 0 1 0 0), (5, .op 1 1 0 0), (6, .v (.bool false))] [.box 93 (c93 a1) false, .box 36 (c36 a3) false], .sum [1, 3, 5, 6, 51, 52, 53] [0, 1] (.exit 0) [(1, .v (.int .i64 a2)), (3, .op 0 1 0 0), (5, .op 1 1 0 0), (6, .v (.bool false))] [.box 93 (c93 a1) false, .box 36 (c36 a3) false], .cut [1, 3, 5, 6] [0, 1] .nor [(1, .v (.int .i64 a2)), (3, .op 0 1 0 0), (5, .op 1 1 0 0), (6, .v (.bool false))] [.box 93 (c93 a1) false, .box 36 (c36 a3) false], .dec false, .callv (.v (.bool r35)), .dec true, .row (c41 x38), .dec false, .row (c41 x41)]) (hrun := by kernel_rfl) (hps := pc (k_names_judge_port_J1 h17) <| pc (k_names_judge_port_L2 _ _ h26) <| pc (k_names_judge_port_J3 h32) <| pc (h34) <| pc (k_names_place_Link h36) <| pc (h37) <| pc (ob41 h39) <| pc (h40) <| pc (ob41 h42) <| pn)
          · injection h with h; subst h; exact runFn_sound mixedOrders Try.func52 rfl (keep := none) (π := [.skp, .cut [1, 3, 5, 6] [0, 1] .nor [(1, .v (.int .i64 a2)), (3, .op 0 1 0 0), (5, .op 1 1 0 0), (6, .v (.bool false))] [.box 93 (c93 a1) false, .box 36 (c36 a3) false], .sum [1, 3, 5, 6, 51, 52, 53] [0, 1] (.exit 0) [(1, .v (.int .i64 a2)), (3, .op 0 1 0 0), (5, .op 1 1 0 0), (6, .v (.bool false))] [.box 93 (c93 a1) false, .box 36 (c36 a3) false], .cut [1, 3, 5, 6] [0, 1] .nor [(1, .v (.int .i64 a2)), (3, .op 0 1 0 0), (5, .op 1 1 0 0), (6, .v (.bool false))] [.box 93 (c93 a1) false, .box 36 (c36 a3) false], .dec false, .callv (.v (.bool r35)), .dec false]) (hrun := by kernel_rfl) (hps := pc (k_names_judge_port_J1 h17) <| pc (k_names_judge_port_L2 _ _ h26) <| pc (k_names_judge_port_J3 h32) <| pc (h34) <| pc (k_names_place_Link h36) <| pc (h37) <| pn)

theorem k_names_all_Port_judge_port_L1 {a1 : List Api_Port} {a2 : Names_judge} : LoopOK Try.prog UU 0 20 (subC (codeOf Try.f51) [1, 0, 1, 0, 0]) (ρ := Unit ⊕ Unit) (names_all_Port_judge_port_L1 a1 a2)
    (fun v3 : Int => ([(1, .fn (.func 52) [.agg (c93 a2)] []), (4, .v (.bool false)), (7, .sl 36 a1), (8, .v (.int .i64 (a1.length : Int))), (9, .v (.int .i64 v3))] : Fr DD)) (fun v3 : Int => ([] : Heap DD)) (fun r => match r with | Sum.inl _ => .ret | Sum.inr _ => .exit 0) (fun r => match r with | Sum.inl _ => [(4, .v (.bool false))] | Sum.inr _ => [(4, .v (.bool false))]) (fun r => match r with | Sum.inl _ => [] | Sum.inr _ => []) := by
  refine loop_sound3 (fun s q h => ?_) (fun r => ?_)
  · replace h : names_all_Port_judge_port_L1 a1 a2 s = some q := h; revert h; revert s; intro v3 h
    unfold names_all_Port_judge_port_L1 at h
    rcases ite_out h with ⟨h4, h⟩ | ⟨h4, h⟩
    · obtain ⟨x5, h6, h⟩ := bind_out h
      obtain ⟨r7, h8, h⟩ := bind_out h
      rcases ite_out h with ⟨h9, h⟩ | ⟨h9, h⟩
      · injection h with h; subst h; exact runLp_sound mixedOrders (live := [4]) (ids := []) (π := [.dec true, .row (c36 x5), .callv (.v (.bool r7)), .dec true]) (hx := by kernel_rfl) (hps := pc (h4) <| pc (ob36 h6) <| pc (k_names_judge_port h8) <| pc (h9) <| pn)
      · injection h with h; subst h; exact runLp_sound mixedOrders (live := [1, 4, 7, 8, 9]) (ids := []) (π := [.dec true, .row (c36 x5), .callv (.v (.bool r7)), .dec false]) (hx := by kernel_rfl) (hps := pc (h4) <| pc (ob36 h6) <| pc (k_names_judge_port h8) <| pc (h9) <| pn)
    · injection h with h; subst h; exact runLp_sound mixedOrders (live := [4]) (ids := []) (π := [.dec false]) (hx := by kernel_rfl) (hps := pc (h4) <| pn)
  · rcases r with _ | _ <;> exact Ex.noConfusion

theorem k_names_all_Port_judge_port {a1 : List Api_Port} {a2 : Names_judge} {r : Bool} (h : names_all_Port_judge_port a1 a2 = some r) :
    CallsOK Try.prog UU 51 [.sl 36 a1, .fn (.func 52) [.agg (c93 a2)] []] [] (.v (.bool r)) [] := by
  unfold names_all_Port_judge_port at h
  obtain ⟨r11, h10, h⟩ := bind_out h
  rcases r11 with _ | _
  · injection h with h; subst h; exact runFn_sound mixedOrders Try.func51 rfl (keep := none) (π := [.sum [1, 4, 7, 8, 9] [] .ret [(4, .v (.bool false))] []]) (hrun := by kernel_rfl) (hps := pc (k_names_all_Port_judge_port_L1 _ _ h10) <| pn)
  · injection h with h; subst h; exact runFn_sound mixedOrders Try.func51 rfl (keep := none) (π := [.sum [1, 4, 7, 8, 9] [] (.exit 0) [(4, .v (.bool false))] []]) (hrun := by kernel_rfl) (hps := pc (k_names_all_Port_judge_port_L1 _ _ h10) <| pn)

theorem k_names_place_Port {a1 : List Api_Port} {a2 : Int} {r : Bool} (h : names_place_Port a1 a2 = some r) :
    CallsOK Try.prog UU 134 [.sl 36 a1, .v (.int .i64 a2)] [] (.v (.bool r)) [] := by
  unfold names_place_Port at h
  rcases ite_out h with ⟨h3, h⟩ | ⟨h3, h⟩
  · injection h with h; subst h; exact runFn_sound mixedOrders Try.func134 rfl (keep := none) (π := [.dec true]) (hrun := by kernel_rfl) (hps := pc (h3) <| pn)
  · injection h with h; subst h; exact runFn_sound mixedOrders Try.func134 rfl (keep := none) (π := [.dec false]) (hrun := by kernel_rfl) (hps := pc (h3) <| pn)

theorem k_names_judge_link {a1 : Names_judge} {a2 : Int} {a3 : Api_Link} {r : Bool} (h : names_judge_link a1 a2 a3 = some r) :
    CallsOK Try.prog UU 54 [.agg (c93 a1), .v (.int .i64 a2), .agg (c41 a3)] [] (.v (.bool r)) [] := by
  unfold names_judge_link at h
  obtain ⟨r4, h5, h⟩ := bind_out h
  rcases ite_out h with ⟨h6, h⟩ | ⟨h6, h⟩
  · injection h with h; subst h; exact runFn_sound mixedOrders Try.func54 rfl (keep := none) (π := [.callv (.v (.bool r4)), .dec true]) (hrun := by kernel_rfl) (hps := pc (k_names_place_Port h5) <| pc (h6) <| pn)
  · obtain ⟨r7, h8, h⟩ := bind_out h
    rcases ite_out h with ⟨h9, h⟩ | ⟨h9, h⟩
    · injection h with h; subst h; exact runFn_sound mixedOrders Try.func54 rfl (keep := none) (π := [.callv (.v (.bool r4)), .dec false, .callv (.v (.bool r7)), .dec true]) (hrun := by kernel_rfl) (hps := pc (k_names_place_Port h5) <| pc (h6) <| pc (k_names_place_Port h8) <| pc (h9) <| pn)
    · obtain ⟨x10, h11, h⟩ := bind_out h
      obtain ⟨x12, h13, h⟩ := bind_out h
      rcases ite_out h with ⟨h14, h⟩ | ⟨h14, h⟩
      · rcases ite_out h with ⟨h15, h⟩ | ⟨h15, h⟩
        · injection h with h; subst h; exact runFn_sound mixedOrders Try.func54 rfl (keep := none) (π := [.callv (.v (.bool r4)), .dec false, .callv (.v (.bool r7)), .dec false, .row (c36 x10), .row (c36 x12), .dec true, .dec true]) (hrun := by kernel_rfl) (hps := pc (k_names_place_Port h5) <| pc (h6) <| pc (k_names_place_Port h8) <| pc (h9) <| pc (ob36 h11) <| pc (ob36 h13) <| pc (h14) <| pc (h15) <| pn)
        · injection h with h; subst h; exact runFn_sound mixedOrders Try.func54 rfl (keep := none) (π := [.callv (.v (.bool r4)), .dec false, .callv (.v (.bool r7)), .dec false, .row (c36 x10), .row (c36 x12), .dec true, .dec false]) (hrun := by kernel_rfl) (hps := pc (k_names_place_Port h5) <| pc (h6) <| pc (k_names_place_Port h8) <| pc (h9) <| pc (ob36 h11) <| pc (ob36 h13) <| pc (h14) <| pc (h15) <| pn)
      · injection h with h; subst h; exact runFn_sound mixedOrders Try.func54 rfl (keep := none) (π := [.callv (.v (.bool r4)), .dec false, .callv (.v (.bool r7)), .dec false, .row (c36 x10), .row (c36 x12), .dec false]) (hrun := by kernel_rfl) (hps := pc (k_names_place_Port h5) <| pc (h6) <| pc (k_names_place_Port h8) <| pc (h9) <| pc (ob36 h11) <| pc (ob36 h13) <| pc (h14) <| pn)

theorem k_names_all_Link_judge_link_L1 {a1 : List Api_Link} {a2 : Names_judge} : LoopOK Try.prog UU 0 20 (subC (codeOf Try.f53) [1, 0, 1, 0, 0]) (ρ := Unit ⊕ Unit) (names_all_Link_judge_link_L1 a1 a2)
    (fun v3 : Int => ([(1, .fn (.func 54) [.agg (c93 a2)] []), (4, .v (.bool false)), (7, .sl 41 a1), (8, .v (.int .i64 (a1.length : Int))), (9, .v (.int .i64 v3))] : Fr DD)) (fun v3 : Int => ([] : Heap DD)) (fun r => match r with | Sum.inl _ => .ret | Sum.inr _ => .exit 0) (fun r => match r with | Sum.inl _ => [(4, .v (.bool false))] | Sum.inr _ => [(4, .v (.bool false))]) (fun r => match r with | Sum.inl _ => [] | Sum.inr _ => []) := by
  refine loop_sound3 (fun s q h => ?_) (fun r => ?_)
  · replace h : names_all_Link_judge_link_L1 a1 a2 s = some q := h; revert h; revert s; intro v3 h
    unfold names_all_Link_judge_link_L1 at h
    rcases ite_out h with ⟨h4, h⟩ | ⟨h4, h⟩
    · obtain ⟨x5, h6, h⟩ := bind_out h
      obtain ⟨r7, h8, h⟩ := bind_out h
      rcases ite_out h with ⟨h9, h⟩ | ⟨h9, h⟩
      · injection h with h; subst h; exact runLp_sound mixedOrders (live := [4]) (ids := []) (π := [.dec true, .row (c41 x5), .callv (.v (.bool r7)), .dec true]) (hx := by kernel_rfl) (hps := pc (h4) <| pc (ob41 h6) <| pc (k_names_judge_link h8) <| pc (h9) <| pn)
      · injection h with h; subst h; exact runLp_sound mixedOrders (live := [1, 4, 7, 8, 9]) (ids := []) (π := [.dec true, .row (c41 x5), .callv (.v (.bool r7)), .dec false]) (hx := by kernel_rfl) (hps := pc (h4) <| pc (ob41 h6) <| pc (k_names_judge_link h8) <| pc (h9) <| pn)
    · injection h with h; subst h; exact runLp_sound mixedOrders (live := [4]) (ids := []) (π := [.dec false]) (hx := by kernel_rfl) (hps := pc (h4) <| pn)
  · rcases r with _ | _ <;> exact Ex.noConfusion

theorem k_names_all_Link_judge_link {a1 : List Api_Link} {a2 : Names_judge} {r : Bool} (h : names_all_Link_judge_link a1 a2 = some r) :
    CallsOK Try.prog UU 53 [.sl 41 a1, .fn (.func 54) [.agg (c93 a2)] []] [] (.v (.bool r)) [] := by
  unfold names_all_Link_judge_link at h
  obtain ⟨r11, h10, h⟩ := bind_out h
  rcases r11 with _ | _
  · injection h with h; subst h; exact runFn_sound mixedOrders Try.func53 rfl (keep := none) (π := [.sum [1, 4, 7, 8, 9] [] .ret [(4, .v (.bool false))] []]) (hrun := by kernel_rfl) (hps := pc (k_names_all_Link_judge_link_L1 _ _ h10) <| pn)
  · injection h with h; subst h; exact runFn_sound mixedOrders Try.func53 rfl (keep := none) (π := [.sum [1, 4, 7, 8, 9] [] (.exit 0) [(4, .v (.bool false))] []]) (hrun := by kernel_rfl) (hps := pc (k_names_all_Link_judge_link_L1 _ _ h10) <| pn)

theorem k_names_Member {a1 : Api_Port} {a2 : Int} {r : Bool} (h : names_Member a1 a2 = some r) :
    CallsOK Try.prog UU 18 [.agg (c36 a1), .v (.int .i64 a2)] [] (.v (.bool r)) [] := by
  unfold names_Member at h
  rcases ite_out h with ⟨h3, h⟩ | ⟨h3, h⟩
  · rcases ite_out h with ⟨h4, h⟩ | ⟨h4, h⟩
    · injection h with h; subst h; exact runFn_sound mixedOrders Try.func18 rfl (keep := none) (π := [.dec true, .dec true]) (hrun := by kernel_rfl) (hps := pc (h3) <| pc (h4) <| pn)
    · obtain ⟨r5, h6, h⟩ := bind_out h
      injection h with h; subst h; exact runFn_sound mixedOrders Try.func18 rfl (keep := none) (π := [.dec true, .dec false, .callv (.v (.bool r5))]) (hrun := by kernel_rfl) (hps := pc (h3) <| pc (h4) <| pc (k_slices_Contains_int h6) <| pn)
  · injection h with h; subst h; exact runFn_sound mixedOrders Try.func18 rfl (keep := none) (π := [.dec false]) (hrun := by kernel_rfl) (hps := pc (h3) <| pn)

theorem k_names_judge_static {a1 : Names_judge} {a2 : Int} {a3 : Api_Static} {r : Bool} (h : names_judge_static a1 a2 a3 = some r) :
    CallsOK Try.prog UU 56 [.agg (c93 a1), .v (.int .i64 a2), .agg (c102 a3)] [] (.v (.bool r)) [] := by
  unfold names_judge_static at h
  obtain ⟨r4, h5, h⟩ := bind_out h
  rcases ite_out h with ⟨h6, h⟩ | ⟨h6, h⟩
  · injection h with h; subst h; exact runFn_sound mixedOrders Try.func56 rfl (keep := none) (π := [.callv (.v (.bool r4)), .dec true]) (hrun := by kernel_rfl) (hps := pc (k_names_place_Domain h5) <| pc (h6) <| pn)
  · obtain ⟨r7, h8, h⟩ := bind_out h
    rcases ite_out h with ⟨h9, h⟩ | ⟨h9, h⟩
    · injection h with h; subst h; exact runFn_sound mixedOrders Try.func56 rfl (keep := none) (π := [.callv (.v (.bool r4)), .dec false, .callv (.v (.bool r7)), .dec true]) (hrun := by kernel_rfl) (hps := pc (k_names_place_Domain h5) <| pc (h6) <| pc (k_names_place_Port h8) <| pc (h9) <| pn)
    · obtain ⟨x10, h11, h⟩ := bind_out h
      obtain ⟨x12, h13, h⟩ := bind_out h
      rcases ite_out h with ⟨h14, h⟩ | ⟨h14, h⟩
      · obtain ⟨r15, h16, h⟩ := bind_out h
        injection h with h; subst h; exact runFn_sound mixedOrders Try.func56 rfl (keep := none) (π := [.callv (.v (.bool r4)), .dec false, .callv (.v (.bool r7)), .dec false, .row (c36 x10), .row (c56 x12), .dec true, .callv (.v (.bool r15))]) (hrun := by kernel_rfl) (hps := pc (k_names_place_Domain h5) <| pc (h6) <| pc (k_names_place_Port h8) <| pc (h9) <| pc (ob36 h11) <| pc (ob56 h13) <| pc (h14) <| pc (k_names_Member h16) <| pn)
      · injection h with h; subst h; exact runFn_sound mixedOrders Try.func56 rfl (keep := none) (π := [.callv (.v (.bool r4)), .dec false, .callv (.v (.bool r7)), .dec false, .row (c36 x10), .row (c56 x12), .dec false]) (hrun := by kernel_rfl) (hps := pc (k_names_place_Domain h5) <| pc (h6) <| pc (k_names_place_Port h8) <| pc (h9) <| pc (ob36 h11) <| pc (ob56 h13) <| pc (h14) <| pn)

theorem k_names_all_Static_judge_static_L1 {a1 : List Api_Static} {a2 : Names_judge} : LoopOK Try.prog UU 0 20 (subC (codeOf Try.f55) [1, 0, 1, 0, 0]) (ρ := Unit ⊕ Unit) (names_all_Static_judge_static_L1 a1 a2)
    (fun v3 : Int => ([(1, .fn (.func 56) [.agg (c93 a2)] []), (4, .v (.bool false)), (7, .sl 102 a1), (8, .v (.int .i64 (a1.length : Int))), (9, .v (.int .i64 v3))] : Fr DD)) (fun v3 : Int => ([] : Heap DD)) (fun r => match r with | Sum.inl _ => .ret | Sum.inr _ => .exit 0) (fun r => match r with | Sum.inl _ => [(4, .v (.bool false))] | Sum.inr _ => [(4, .v (.bool false))]) (fun r => match r with | Sum.inl _ => [] | Sum.inr _ => []) := by
  refine loop_sound3 (fun s q h => ?_) (fun r => ?_)
  · replace h : names_all_Static_judge_static_L1 a1 a2 s = some q := h; revert h; revert s; intro v3 h
    unfold names_all_Static_judge_static_L1 at h
    rcases ite_out h with ⟨h4, h⟩ | ⟨h4, h⟩
    · obtain ⟨x5, h6, h⟩ := bind_out h
      obtain ⟨r7, h8, h⟩ := bind_out h
      rcases ite_out h with ⟨h9, h⟩ | ⟨h9, h⟩
      · injection h with h; subst h; exact runLp_sound mixedOrders (live := [4]) (ids := []) (π := [.dec true, .row (c102 x5), .callv (.v (.bool r7)), .dec true]) (hx := by kernel_rfl) (hps := pc (h4) <| pc (ob102 h6) <| pc (k_names_judge_static h8) <| pc (h9) <| pn)
      · injection h with h; subst h; exact runLp_sound mixedOrders (live := [1, 4, 7, 8, 9]) (ids := []) (π := [.dec true, .row (c102 x5), .callv (.v (.bool r7)), .dec false]) (hx := by kernel_rfl) (hps := pc (h4) <| pc (ob102 h6) <| pc (k_names_judge_static h8) <| pc (h9) <| pn)
    · injection h with h; subst h; exact runLp_sound mixedOrders (live := [4]) (ids := []) (π := [.dec false]) (hx := by kernel_rfl) (hps := pc (h4) <| pn)
  · rcases r with _ | _ <;> exact Ex.noConfusion

theorem k_names_all_Static_judge_static {a1 : List Api_Static} {a2 : Names_judge} {r : Bool} (h : names_all_Static_judge_static a1 a2 = some r) :
    CallsOK Try.prog UU 55 [.sl 102 a1, .fn (.func 56) [.agg (c93 a2)] []] [] (.v (.bool r)) [] := by
  unfold names_all_Static_judge_static at h
  obtain ⟨r11, h10, h⟩ := bind_out h
  rcases r11 with _ | _
  · injection h with h; subst h; exact runFn_sound mixedOrders Try.func55 rfl (keep := none) (π := [.sum [1, 4, 7, 8, 9] [] .ret [(4, .v (.bool false))] []]) (hrun := by kernel_rfl) (hps := pc (k_names_all_Static_judge_static_L1 _ _ h10) <| pn)
  · injection h with h; subst h; exact runFn_sound mixedOrders Try.func55 rfl (keep := none) (π := [.sum [1, 4, 7, 8, 9] [] (.exit 0) [(4, .v (.bool false))] []]) (hrun := by kernel_rfl) (hps := pc (k_names_all_Static_judge_static_L1 _ _ h10) <| pn)

theorem k_names_Right_1 {a1 : Int} {a2 : Api_Flood} {a3 : Api_Net} {r : Bool} (h : names_Right_1 a1 a2 a3 = some r) :
    CallsOK Try.prog UU 58 [.v (.int .i64 a1), .agg (c91 a2), .rp (c31 a3) 0] [] (.v (.bool r)) [] := by
  unfold names_Right_1 at h
  obtain ⟨r4, h5, h⟩ := bind_out h
  rcases ite_out h with ⟨h6, h⟩ | ⟨h6, h⟩
  · injection h with h; subst h; exact runFn_sound mixedOrders Try.func58 rfl (keep := none) (π := [.callv (.v (.bool r4)), .dec true]) (hrun := by kernel_rfl) (hps := pc (k_names_place_Device h5) <| pc (h6) <| pn)
  · injection h with h; subst h; exact runFn_sound mixedOrders Try.func58 rfl (keep := none) (π := [.callv (.v (.bool r4)), .dec false]) (hrun := by kernel_rfl) (hps := pc (k_names_place_Device h5) <| pc (h6) <| pn)

theorem k_names_all_Flood_Right_1_L1 {a1 : List Api_Flood} {a2 : Api_Net} : LoopOK Try.prog UU 0 20 (subC (codeOf Try.f57) [1, 0, 1, 0, 0]) (ρ := Unit ⊕ Unit) (names_all_Flood_Right_1_L1 a1 a2)
    (fun v3 : Int => ([(1, .fn (.func 58) [] [.rp (c31 a2) 0]), (4, .v (.bool false)), (7, .sl 91 a1), (8, .v (.int .i64 (a1.length : Int))), (9, .v (.int .i64 v3))] : Fr DD)) (fun v3 : Int => ([] : Heap DD)) (fun r => match r with | Sum.inl _ => .ret | Sum.inr _ => .exit 0) (fun r => match r with | Sum.inl _ => [(4, .v (.bool false))] | Sum.inr _ => [(4, .v (.bool false))]) (fun r => match r with | Sum.inl _ => [] | Sum.inr _ => []) := by
  refine loop_sound3 (fun s q h => ?_) (fun r => ?_)
  · replace h : names_all_Flood_Right_1_L1 a1 a2 s = some q := h; revert h; revert s; intro v3 h
    unfold names_all_Flood_Right_1_L1 at h
    rcases ite_out h with ⟨h4, h⟩ | ⟨h4, h⟩
    · obtain ⟨x5, h6, h⟩ := bind_out h
      obtain ⟨r7, h8, h⟩ := bind_out h
      rcases ite_out h with ⟨h9, h⟩ | ⟨h9, h⟩
      · injection h with h; subst h; exact runLp_sound mixedOrders (live := [4]) (ids := []) (π := [.dec true, .row (c91 x5), .callv (.v (.bool r7)), .dec true]) (hx := by kernel_rfl) (hps := pc (h4) <| pc (ob91 h6) <| pc (k_names_Right_1 h8) <| pc (h9) <| pn)
      · injection h with h; subst h; exact runLp_sound mixedOrders (live := [1, 4, 7, 8, 9]) (ids := []) (π := [.dec true, .row (c91 x5), .callv (.v (.bool r7)), .dec false]) (hx := by kernel_rfl) (hps := pc (h4) <| pc (ob91 h6) <| pc (k_names_Right_1 h8) <| pc (h9) <| pn)
    · injection h with h; subst h; exact runLp_sound mixedOrders (live := [4]) (ids := []) (π := [.dec false]) (hx := by kernel_rfl) (hps := pc (h4) <| pn)
  · rcases r with _ | _ <;> exact Ex.noConfusion

theorem k_names_all_Flood_Right_1 {a1 : List Api_Flood} {a2 : Api_Net} {r : Bool} (h : names_all_Flood_Right_1 a1 a2 = some r) :
    CallsOK Try.prog UU 57 [.sl 91 a1, .fn (.func 58) [] [.rp (c31 a2) 0]] [] (.v (.bool r)) [] := by
  unfold names_all_Flood_Right_1 at h
  obtain ⟨r11, h10, h⟩ := bind_out h
  rcases r11 with _ | _
  · injection h with h; subst h; exact runFn_sound mixedOrders Try.func57 rfl (keep := none) (π := [.sum [1, 4, 7, 8, 9] [] .ret [(4, .v (.bool false))] []]) (hrun := by kernel_rfl) (hps := pc (k_names_all_Flood_Right_1_L1 _ _ h10) <| pn)
  · injection h with h; subst h; exact runFn_sound mixedOrders Try.func57 rfl (keep := none) (π := [.sum [1, 4, 7, 8, 9] [] (.exit 0) [(4, .v (.bool false))] []]) (hrun := by kernel_rfl) (hps := pc (k_names_all_Flood_Right_1_L1 _ _ h10) <| pn)

theorem k_names_Right_2 {a1 : Int} {a2 : Api_Vrf} {a3 : Api_Net} {r : Bool} (h : names_Right_2 a1 a2 a3 = some r) :
    CallsOK Try.prog UU 61 [.v (.int .i64 a1), .agg (c58 a2), .rp (c31 a3) 0] [] (.v (.bool r)) [] := by
  unfold names_Right_2 at h
  obtain ⟨r4, h5, h⟩ := bind_out h
  rcases ite_out h with ⟨h6, h⟩ | ⟨h6, h⟩
  · obtain ⟨r7, h8, h⟩ := bind_out h
    rcases ite_out h with ⟨h9, h⟩ | ⟨h9, h⟩
    · obtain ⟨r10, h11, h⟩ := bind_out h
      injection h with h; subst h; exact runFn_sound mixedOrders Try.func61 rfl (keep := none) (π := [.callv (.v (.bool r4)), .dec true, .callv (.v (.bool r7)), .dec true, .callv (.v (.bool r10))]) (hrun := by kernel_rfl) (hps := pc (k_names_place_Device h5) <| pc (h6) <| pc (k_names_rising h8) <| pc (h9) <| pc (k_names_rising h11) <| pn)
    · injection h with h; subst h; exact runFn_sound mixedOrders Try.func61 rfl (keep := none) (π := [.callv (.v (.bool r4)), .dec true, .callv (.v (.bool r7)), .dec false]) (hrun := by kernel_rfl) (hps := pc (k_names_place_Device h5) <| pc (h6) <| pc (k_names_rising h8) <| pc (h9) <| pn)
  · injection h with h; subst h; exact runFn_sound mixedOrders Try.func61 rfl (keep := none) (π := [.callv (.v (.bool r4)), .dec false]) (hrun := by kernel_rfl) (hps := pc (k_names_place_Device h5) <| pc (h6) <| pn)

theorem k_names_all_Vrf_Right_2_L1 {a1 : List Api_Vrf} {a2 : Api_Net} : LoopOK Try.prog UU 0 20 (subC (codeOf Try.f60) [1, 0, 1, 0, 0]) (ρ := Unit ⊕ Unit) (names_all_Vrf_Right_2_L1 a1 a2)
    (fun v3 : Int => ([(1, .fn (.func 61) [] [.rp (c31 a2) 0]), (4, .v (.bool false)), (7, .sl 58 a1), (8, .v (.int .i64 (a1.length : Int))), (9, .v (.int .i64 v3))] : Fr DD)) (fun v3 : Int => ([] : Heap DD)) (fun r => match r with | Sum.inl _ => .ret | Sum.inr _ => .exit 0) (fun r => match r with | Sum.inl _ => [(4, .v (.bool false))] | Sum.inr _ => [(4, .v (.bool false))]) (fun r => match r with | Sum.inl _ => [] | Sum.inr _ => []) := by
  refine loop_sound3 (fun s q h => ?_) (fun r => ?_)
  · replace h : names_all_Vrf_Right_2_L1 a1 a2 s = some q := h; revert h; revert s; intro v3 h
    unfold names_all_Vrf_Right_2_L1 at h
    rcases ite_out h with ⟨h4, h⟩ | ⟨h4, h⟩
    · obtain ⟨x5, h6, h⟩ := bind_out h
      obtain ⟨r7, h8, h⟩ := bind_out h
      rcases ite_out h with ⟨h9, h⟩ | ⟨h9, h⟩
      · injection h with h; subst h; exact runLp_sound mixedOrders (live := [4]) (ids := []) (π := [.dec true, .row (c58 x5), .callv (.v (.bool r7)), .dec true]) (hx := by kernel_rfl) (hps := pc (h4) <| pc (ob58 h6) <| pc (k_names_Right_2 h8) <| pc (h9) <| pn)
      · injection h with h; subst h; exact runLp_sound mixedOrders (live := [1, 4, 7, 8, 9]) (ids := []) (π := [.dec true, .row (c58 x5), .callv (.v (.bool r7)), .dec false]) (hx := by kernel_rfl) (hps := pc (h4) <| pc (ob58 h6) <| pc (k_names_Right_2 h8) <| pc (h9) <| pn)
    · injection h with h; subst h; exact runLp_sound mixedOrders (live := [4]) (ids := []) (π := [.dec false]) (hx := by kernel_rfl) (hps := pc (h4) <| pn)
  · rcases r with _ | _ <;> exact Ex.noConfusion

theorem k_names_all_Vrf_Right_2 {a1 : List Api_Vrf} {a2 : Api_Net} {r : Bool} (h : names_all_Vrf_Right_2 a1 a2 = some r) :
    CallsOK Try.prog UU 60 [.sl 58 a1, .fn (.func 61) [] [.rp (c31 a2) 0]] [] (.v (.bool r)) [] := by
  unfold names_all_Vrf_Right_2 at h
  obtain ⟨r11, h10, h⟩ := bind_out h
  rcases r11 with _ | _
  · injection h with h; subst h; exact runFn_sound mixedOrders Try.func60 rfl (keep := none) (π := [.sum [1, 4, 7, 8, 9] [] .ret [(4, .v (.bool false))] []]) (hrun := by kernel_rfl) (hps := pc (k_names_all_Vrf_Right_2_L1 _ _ h10) <| pn)
  · injection h with h; subst h; exact runFn_sound mixedOrders Try.func60 rfl (keep := none) (π := [.sum [1, 4, 7, 8, 9] [] (.exit 0) [(4, .v (.bool false))] []]) (hrun := by kernel_rfl) (hps := pc (k_names_all_Vrf_Right_2_L1 _ _ h10) <| pn)

theorem k_names_place_Vrf {a1 : List Api_Vrf} {a2 : Int} {r : Bool} (h : names_place_Vrf a1 a2 = some r) :
    CallsOK Try.prog UU 136 [.sl 58 a1, .v (.int .i64 a2)] [] (.v (.bool r)) [] := by
  unfold names_place_Vrf at h
  rcases ite_out h with ⟨h3, h⟩ | ⟨h3, h⟩
  · injection h with h; subst h; exact runFn_sound mixedOrders Try.func136 rfl (keep := none) (π := [.dec true]) (hrun := by kernel_rfl) (hps := pc (h3) <| pn)
  · injection h with h; subst h; exact runFn_sound mixedOrders Try.func136 rfl (keep := none) (π := [.dec false]) (hrun := by kernel_rfl) (hps := pc (h3) <| pn)

theorem k_names_judge_irb {a1 : Names_judge} {a2 : Int} {a3 : Api_Irb} {r : Bool} (h : names_judge_irb a1 a2 a3 = some r) :
    CallsOK Try.prog UU 64 [.agg (c93 a1), .v (.int .i64 a2), .agg (c74 a3)] [] (.v (.bool r)) [] := by
  unfold names_judge_irb at h
  obtain ⟨r4, h5, h⟩ := bind_out h
  rcases ite_out h with ⟨h6, h⟩ | ⟨h6, h⟩
  · obtain ⟨r7, h8, h⟩ := bind_out h
    rcases ite_out h with ⟨h9, h⟩ | ⟨h9, h⟩
    · obtain ⟨x10, h11, h⟩ := bind_out h
      obtain ⟨x12, h13, h⟩ := bind_out h
      rcases ite_out h with ⟨h14, h⟩ | ⟨h14, h⟩
      · obtain ⟨x15, h16, h⟩ := bind_out h
        rcases ite_out h with ⟨h17, h⟩ | ⟨h17, h⟩
        · rcases ite_out h with ⟨h18, h⟩ | ⟨h18, h⟩
          · injection h with h; subst h; exact runFn_sound mixedOrders Try.func64 rfl (keep := none) (π := [.callv (.v (.bool r4)), .dec true, .callv (.v (.bool r7)), .dec true, .row (c56 x10), .row (c58 x12), .dec true, .row (c56 x15), .dec true, .dec true]) (hrun := by kernel_rfl) (hps := pc (k_names_place_Domain h5) <| pc (h6) <| pc (k_names_place_Vrf h8) <| pc (h9) <| pc (ob56 h11) <| pc (ob58 h13) <| pc (h14) <| pc (ob56 h16) <| pc (h17) <| pc (h18) <| pn)
          · injection h with h; subst h; exact runFn_sound mixedOrders Try.func64 rfl (keep := none) (π := [.callv (.v (.bool r4)), .dec true, .callv (.v (.bool r7)), .dec true, .row (c56 x10), .row (c58 x12), .dec true, .row (c56 x15), .dec true, .dec false]) (hrun := by kernel_rfl) (hps := pc (k_names_place_Domain h5) <| pc (h6) <| pc (k_names_place_Vrf h8) <| pc (h9) <| pc (ob56 h11) <| pc (ob58 h13) <| pc (h14) <| pc (ob56 h16) <| pc (h17) <| pc (h18) <| pn)
        · injection h with h; subst h; exact runFn_sound mixedOrders Try.func64 rfl (keep := none) (π := [.callv (.v (.bool r4)), .dec true, .callv (.v (.bool r7)), .dec true, .row (c56 x10), .row (c58 x12), .dec true, .row (c56 x15), .dec false]) (hrun := by kernel_rfl) (hps := pc (k_names_place_Domain h5) <| pc (h6) <| pc (k_names_place_Vrf h8) <| pc (h9) <| pc (ob56 h11) <| pc (ob58 h13) <| pc (h14) <| pc (ob56 h16) <| pc (h17) <| pn)
      · injection h with h; subst h; exact runFn_sound mixedOrders Try.func64 rfl (keep := none) (π := [.callv (.v (.bool r4)), .dec true, .callv (.v (.bool r7)), .dec true, .row (c56 x10), .row (c58 x12), .dec false]) (hrun := by kernel_rfl) (hps := pc (k_names_place_Domain h5) <| pc (h6) <| pc (k_names_place_Vrf h8) <| pc (h9) <| pc (ob56 h11) <| pc (ob58 h13) <| pc (h14) <| pn)
    · injection h with h; subst h; exact runFn_sound mixedOrders Try.func64 rfl (keep := none) (π := [.callv (.v (.bool r4)), .dec true, .callv (.v (.bool r7)), .dec false]) (hrun := by kernel_rfl) (hps := pc (k_names_place_Domain h5) <| pc (h6) <| pc (k_names_place_Vrf h8) <| pc (h9) <| pn)
  · injection h with h; subst h; exact runFn_sound mixedOrders Try.func64 rfl (keep := none) (π := [.callv (.v (.bool r4)), .dec false]) (hrun := by kernel_rfl) (hps := pc (k_names_place_Domain h5) <| pc (h6) <| pn)

theorem k_names_all_Irb_judge_irb_L1 {a1 : List Api_Irb} {a2 : Names_judge} : LoopOK Try.prog UU 0 20 (subC (codeOf Try.f63) [1, 0, 1, 0, 0]) (ρ := Unit ⊕ Unit) (names_all_Irb_judge_irb_L1 a1 a2)
    (fun v3 : Int => ([(1, .fn (.func 64) [.agg (c93 a2)] []), (4, .v (.bool false)), (7, .sl 74 a1), (8, .v (.int .i64 (a1.length : Int))), (9, .v (.int .i64 v3))] : Fr DD)) (fun v3 : Int => ([] : Heap DD)) (fun r => match r with | Sum.inl _ => .ret | Sum.inr _ => .exit 0) (fun r => match r with | Sum.inl _ => [(4, .v (.bool false))] | Sum.inr _ => [(4, .v (.bool false))]) (fun r => match r with | Sum.inl _ => [] | Sum.inr _ => []) := by
  refine loop_sound3 (fun s q h => ?_) (fun r => ?_)
  · replace h : names_all_Irb_judge_irb_L1 a1 a2 s = some q := h; revert h; revert s; intro v3 h
    unfold names_all_Irb_judge_irb_L1 at h
    rcases ite_out h with ⟨h4, h⟩ | ⟨h4, h⟩
    · obtain ⟨x5, h6, h⟩ := bind_out h
      obtain ⟨r7, h8, h⟩ := bind_out h
      rcases ite_out h with ⟨h9, h⟩ | ⟨h9, h⟩
      · injection h with h; subst h; exact runLp_sound mixedOrders (live := [4]) (ids := []) (π := [.dec true, .row (c74 x5), .callv (.v (.bool r7)), .dec true]) (hx := by kernel_rfl) (hps := pc (h4) <| pc (ob74 h6) <| pc (k_names_judge_irb h8) <| pc (h9) <| pn)
      · injection h with h; subst h; exact runLp_sound mixedOrders (live := [1, 4, 7, 8, 9]) (ids := []) (π := [.dec true, .row (c74 x5), .callv (.v (.bool r7)), .dec false]) (hx := by kernel_rfl) (hps := pc (h4) <| pc (ob74 h6) <| pc (k_names_judge_irb h8) <| pc (h9) <| pn)
    · injection h with h; subst h; exact runLp_sound mixedOrders (live := [4]) (ids := []) (π := [.dec false]) (hx := by kernel_rfl) (hps := pc (h4) <| pn)
  · rcases r with _ | _ <;> exact Ex.noConfusion

theorem k_names_all_Irb_judge_irb {a1 : List Api_Irb} {a2 : Names_judge} {r : Bool} (h : names_all_Irb_judge_irb a1 a2 = some r) :
    CallsOK Try.prog UU 63 [.sl 74 a1, .fn (.func 64) [.agg (c93 a2)] []] [] (.v (.bool r)) [] := by
  unfold names_all_Irb_judge_irb at h
  obtain ⟨r11, h10, h⟩ := bind_out h
  rcases r11 with _ | _
  · injection h with h; subst h; exact runFn_sound mixedOrders Try.func63 rfl (keep := none) (π := [.sum [1, 4, 7, 8, 9] [] .ret [(4, .v (.bool false))] []]) (hrun := by kernel_rfl) (hps := pc (k_names_all_Irb_judge_irb_L1 _ _ h10) <| pn)
  · injection h with h; subst h; exact runFn_sound mixedOrders Try.func63 rfl (keep := none) (π := [.sum [1, 4, 7, 8, 9] [] (.exit 0) [(4, .v (.bool false))] []]) (hrun := by kernel_rfl) (hps := pc (k_names_all_Irb_judge_irb_L1 _ _ h10) <| pn)

theorem k_names_Right {a1 : Api_Net} {r : Bool} (h : names_Right a1 = some r) :
    CallsOK Try.prog UU 15 [.agg (c31 a1)] [] (.v (.bool r)) [] := by
  unfold names_Right at h
  obtain ⟨r2, h3, h⟩ := bind_out h
  rcases ite_out h with ⟨h4, h⟩ | ⟨h4, h⟩
  · obtain ⟨r5, h6, h⟩ := bind_out h
    rcases ite_out h with ⟨h7, h⟩ | ⟨h7, h⟩
    · obtain ⟨r8, h9, h⟩ := bind_out h
      rcases ite_out h with ⟨h10, h⟩ | ⟨h10, h⟩
      · obtain ⟨r11, h12, h⟩ := bind_out h
        rcases ite_out h with ⟨h13, h⟩ | ⟨h13, h⟩
        · obtain ⟨r14, h15, h⟩ := bind_out h
          rcases ite_out h with ⟨h16, h⟩ | ⟨h16, h⟩
          · obtain ⟨r17, h18, h⟩ := bind_out h
            rcases ite_out h with ⟨h19, h⟩ | ⟨h19, h⟩
            · obtain ⟨r20, h21, h⟩ := bind_out h
              rcases ite_out h with ⟨h22, h⟩ | ⟨h22, h⟩
              · obtain ⟨r23, h24, h⟩ := bind_out h
                rcases ite_out h with ⟨h25, h⟩ | ⟨h25, h⟩
                · obtain ⟨r26, h27, h⟩ := bind_out h
                  injection h with h; subst h; exact runFn_sound mixedOrders Try.func15 rfl (keep := none) (π := [.callv (.v (.bool r2)), .dec true, .callv (.v (.bool r5)), .dec true, .callv (.v (.bool r8)), .dec true, .callv (.v (.bool r11)), .dec true, .callv (.v (.bool r14)), .dec true, .callv (.v (.bool r17)), .dec true, .callv (.v (.bool r20)), .dec true, .callv (.v (.bool r23)), .dec true, .callv (.v (.bool r26))]) (hrun := by kernel_rfl) (hps := pc (k_names_judge_few h3) <| pc (h4) <| pc (k_names_all_Domain_judge_bare h6) <| pc (h7) <| pc (k_names_all_Domain_judge_peers h9) <| pc (h10) <| pc (k_names_all_Port_judge_port h12) <| pc (h13) <| pc (k_names_all_Link_judge_link h15) <| pc (h16) <| pc (k_names_all_Static_judge_static h18) <| pc (h19) <| pc (k_names_all_Flood_Right_1 h21) <| pc (h22) <| pc (k_names_all_Vrf_Right_2 h24) <| pc (h25) <| pc (k_names_all_Irb_judge_irb h27) <| pn)
                · injection h with h; subst h; exact runFn_sound mixedOrders Try.func15 rfl (keep := none) (π := [.callv (.v (.bool r2)), .dec true, .callv (.v (.bool r5)), .dec true, .callv (.v (.bool r8)), .dec true, .callv (.v (.bool r11)), .dec true, .callv (.v (.bool r14)), .dec true, .callv (.v (.bool r17)), .dec true, .callv (.v (.bool r20)), .dec true, .callv (.v (.bool r23)), .dec false]) (hrun := by kernel_rfl) (hps := pc (k_names_judge_few h3) <| pc (h4) <| pc (k_names_all_Domain_judge_bare h6) <| pc (h7) <| pc (k_names_all_Domain_judge_peers h9) <| pc (h10) <| pc (k_names_all_Port_judge_port h12) <| pc (h13) <| pc (k_names_all_Link_judge_link h15) <| pc (h16) <| pc (k_names_all_Static_judge_static h18) <| pc (h19) <| pc (k_names_all_Flood_Right_1 h21) <| pc (h22) <| pc (k_names_all_Vrf_Right_2 h24) <| pc (h25) <| pn)
              · injection h with h; subst h; exact runFn_sound mixedOrders Try.func15 rfl (keep := none) (π := [.callv (.v (.bool r2)), .dec true, .callv (.v (.bool r5)), .dec true, .callv (.v (.bool r8)), .dec true, .callv (.v (.bool r11)), .dec true, .callv (.v (.bool r14)), .dec true, .callv (.v (.bool r17)), .dec true, .callv (.v (.bool r20)), .dec false]) (hrun := by kernel_rfl) (hps := pc (k_names_judge_few h3) <| pc (h4) <| pc (k_names_all_Domain_judge_bare h6) <| pc (h7) <| pc (k_names_all_Domain_judge_peers h9) <| pc (h10) <| pc (k_names_all_Port_judge_port h12) <| pc (h13) <| pc (k_names_all_Link_judge_link h15) <| pc (h16) <| pc (k_names_all_Static_judge_static h18) <| pc (h19) <| pc (k_names_all_Flood_Right_1 h21) <| pc (h22) <| pn)
            · injection h with h; subst h; exact runFn_sound mixedOrders Try.func15 rfl (keep := none) (π := [.callv (.v (.bool r2)), .dec true, .callv (.v (.bool r5)), .dec true, .callv (.v (.bool r8)), .dec true, .callv (.v (.bool r11)), .dec true, .callv (.v (.bool r14)), .dec true, .callv (.v (.bool r17)), .dec false]) (hrun := by kernel_rfl) (hps := pc (k_names_judge_few h3) <| pc (h4) <| pc (k_names_all_Domain_judge_bare h6) <| pc (h7) <| pc (k_names_all_Domain_judge_peers h9) <| pc (h10) <| pc (k_names_all_Port_judge_port h12) <| pc (h13) <| pc (k_names_all_Link_judge_link h15) <| pc (h16) <| pc (k_names_all_Static_judge_static h18) <| pc (h19) <| pn)
          · injection h with h; subst h; exact runFn_sound mixedOrders Try.func15 rfl (keep := none) (π := [.callv (.v (.bool r2)), .dec true, .callv (.v (.bool r5)), .dec true, .callv (.v (.bool r8)), .dec true, .callv (.v (.bool r11)), .dec true, .callv (.v (.bool r14)), .dec false]) (hrun := by kernel_rfl) (hps := pc (k_names_judge_few h3) <| pc (h4) <| pc (k_names_all_Domain_judge_bare h6) <| pc (h7) <| pc (k_names_all_Domain_judge_peers h9) <| pc (h10) <| pc (k_names_all_Port_judge_port h12) <| pc (h13) <| pc (k_names_all_Link_judge_link h15) <| pc (h16) <| pn)
        · injection h with h; subst h; exact runFn_sound mixedOrders Try.func15 rfl (keep := none) (π := [.callv (.v (.bool r2)), .dec true, .callv (.v (.bool r5)), .dec true, .callv (.v (.bool r8)), .dec true, .callv (.v (.bool r11)), .dec false]) (hrun := by kernel_rfl) (hps := pc (k_names_judge_few h3) <| pc (h4) <| pc (k_names_all_Domain_judge_bare h6) <| pc (h7) <| pc (k_names_all_Domain_judge_peers h9) <| pc (h10) <| pc (k_names_all_Port_judge_port h12) <| pc (h13) <| pn)
      · injection h with h; subst h; exact runFn_sound mixedOrders Try.func15 rfl (keep := none) (π := [.callv (.v (.bool r2)), .dec true, .callv (.v (.bool r5)), .dec true, .callv (.v (.bool r8)), .dec false]) (hrun := by kernel_rfl) (hps := pc (k_names_judge_few h3) <| pc (h4) <| pc (k_names_all_Domain_judge_bare h6) <| pc (h7) <| pc (k_names_all_Domain_judge_peers h9) <| pc (h10) <| pn)
    · injection h with h; subst h; exact runFn_sound mixedOrders Try.func15 rfl (keep := none) (π := [.callv (.v (.bool r2)), .dec true, .callv (.v (.bool r5)), .dec false]) (hrun := by kernel_rfl) (hps := pc (k_names_judge_few h3) <| pc (h4) <| pc (k_names_all_Domain_judge_bare h6) <| pc (h7) <| pn)
  · injection h with h; subst h; exact runFn_sound mixedOrders Try.func15 rfl (keep := none) (π := [.callv (.v (.bool r2)), .dec false]) (hrun := by kernel_rfl) (hps := pc (k_names_judge_few h3) <| pc (h4) <| pn)

theorem k_names_Members_L1 {a1 : Api_Net} {a2 : Int} : LoopOK Try.prog UU 0 51 (subC (codeOf Try.f16) [1, 1, 1, 0, 1, 0, 0]) (fun s : (List Int) × Int => match s with | (l9, v10) => names_Members_L1 a1 a2 l9 v10)
    (fun s : (List Int) × Int => (match s with | (l9, v10) => [(1, .v (.int .i64 a2)), (2, .op 0 1 0 0), (4, .os 1 0), (5, .os 2 (List.length l9)), (19, .sl 36 a1.ports), (20, .v (.int .i64 (a1.ports.length : Int))), (21, .v (.int .i64 v10))] : Fr DD)) (fun s : (List Int) × Int => (match s with | (l9, v10) => [.box 31 (c31 a1) false, .arr 3 [] 0 false, .arr 3 l9 (List.length l9) false] : Heap DD)) (fun r => match r with | l25 => .exit 0) (fun r => match r with | l25 => [(4, .os 0 0), (5, .os 1 (List.length l25))]) (fun r => match r with | l25 => [.arr 3 [] 0 false, .arr 3 l25 (List.length l25) false]) := by
  refine loop_sound3 (fun s q h => ?_) (fun r => ?_)
  · obtain ⟨l9, v10⟩ := s; replace h : names_Members_L1 a1 a2 l9 v10 = some q := h
    unfold names_Members_L1 at h
    rcases ite_out h with ⟨h11, h⟩ | ⟨h11, h⟩
    · obtain ⟨x12, h13, h⟩ := bind_out h
      obtain ⟨x14, h15, h⟩ := bind_out h
      rcases ite_out h with ⟨h16, h⟩ | ⟨h16, h⟩
      · obtain ⟨x17, h18, h⟩ := bind_out h
        obtain ⟨r19, h20, h⟩ := bind_out h
        rcases ite_out h with ⟨h21, h⟩ | ⟨h21, h⟩
        · rcases ite_out h with ⟨h22, h⟩ | ⟨h22, h⟩
          · injection h with h; subst h; exact runLp_sound mixedOrders (live := [1, 2, 4, 5, 19, 20, 21]) (ids := [0, 1, 2]) (π := [.dec true, .row (c36 x12), .row (c56 x14), .dec true, .row (c56 x17), .callv (.v (.bool r19)), .dec true, .obj [] (.arr 3 [v10] (List.length [v10]) false), .obj [5] (.arr 3 (l9 ++ [v10]) (List.length (l9 ++ [v10])) false)]) (hx := by kernel_rfl) (hps := pc (h11) <| pc (ob36 h13) <| pc (ob56 h15) <| pc (h16) <| pc (ob56 h18) <| pc (k_names_Member h20) <| pc (h21) <| pc (bs_ob 3 [v10]) <| pc (app_ob 3 (n := (List.length l9)) (l := l9) (xs := [v10]) h22) <| pc ((rfl : ((List.length [v10]) : Nat) = (List.length [v10]))) <| pn)
          · cases h
        · injection h with h; subst h; exact runLp_sound mixedOrders (live := [1, 2, 4, 5, 19, 20, 21]) (ids := [0, 1, 2]) (π := [.dec true, .row (c36 x12), .row (c56 x14), .dec true, .row (c56 x17), .callv (.v (.bool r19)), .dec false]) (hx := by kernel_rfl) (hps := pc (h11) <| pc (ob36 h13) <| pc (ob56 h15) <| pc (h16) <| pc (ob56 h18) <| pc (k_names_Member h20) <| pc (h21) <| pn)
      · injection h with h; subst h; exact runLp_sound mixedOrders (live := [1, 2, 4, 5, 19, 20, 21]) (ids := [0, 1, 2]) (π := [.dec true, .row (c36 x12), .row (c56 x14), .dec false]) (hx := by kernel_rfl) (hps := pc (h11) <| pc (ob36 h13) <| pc (ob56 h15) <| pc (h16) <| pn)
    · injection h with h; subst h; exact runLp_sound mixedOrders (live := [4, 5]) (ids := [1, 2]) (π := [.dec false]) (hx := by kernel_rfl) (hps := pc (h11) <| pn)
  · exact Ex.noConfusion

theorem k_names_Members {a1 : Api_Net} {a2 : Int} {r : ((List Int))} (h : names_Members a1 a2 = some r) :
    CallsOK Try.prog UU 16 [.agg (c31 a1), .v (.int .i64 a2)] [] ((fun r => match r with | l28 => .os 0 (List.length l28)) r) ((fun r => match r with | l28 => [.arr 3 l28 (List.length l28) false]) r) := by
  unfold names_Members at h
  obtain ⟨r3, h4, h⟩ := bind_out h
  rcases ite_out h with ⟨h5, h⟩ | ⟨h5, h⟩
  · injection h with h; subst h; exact runFn_sound mixedOrders Try.func16 rfl (keep := some [2]) (π := [.callv (.v (.bool r3)), .dec true]) (hrun := by kernel_rfl) (hps := pc (k_names_Right h4) <| pc (h5) <| pn)
  · obtain ⟨r6, h7, h⟩ := bind_out h
    rcases ite_out h with ⟨h8, h⟩ | ⟨h8, h⟩
    · injection h with h; subst h; exact runFn_sound mixedOrders Try.func16 rfl (keep := some [2]) (π := [.callv (.v (.bool r3)), .dec false, .callv (.v (.bool r6)), .dec true]) (hrun := by kernel_rfl) (hps := pc (k_names_Right h4) <| pc (h5) <| pc (k_names_place_Domain h7) <| pc (h8) <| pn)
    · obtain ⟨l25, h26, h⟩ := bind_out h
      injection h with h; subst h; exact runFn_sound mixedOrders Try.func16 rfl (keep := some [1]) (π := [.callv (.v (.bool r3)), .dec false, .callv (.v (.bool r6)), .dec false, .sum [1, 2, 4, 5, 19, 20, 21] [0, 1, 2] (.exit 0) [(4, .os 0 0), (5, .os 1 (List.length l25))] [.arr 3 [] 0 false, .arr 3 l25 (List.length l25) false]]) (hrun := by kernel_rfl) (hps := pc (k_names_Right h4) <| pc (h5) <| pc (k_names_place_Domain h7) <| pc (h8) <| pc (k_names_Members_L1 _ _ h26) <| pn)

theorem k_lookup_open {a1 : Api_Net} {a2 : List Bool} {a3 : Int} {a4 : Int} {r : (Unit) ⊕ ((List Int) × Bool)} (h : lookup_open a1 a2 a3 a4 = some r) :
    CallsOK Try.prog UU 112 [.agg (c31 a1), .sl 4 a2, .v (.int .i64 a3), .v (.int .i64 a4)] [] ((fun r => match r with | Sum.inl () => .tup [.v (.pointer none), .v (.bool false)] | Sum.inr (l18, v19) => .tup [.op 0 1 0 0, .v (.bool v19)]) r) ((fun r => match r with | Sum.inl () => [] | Sum.inr (l18, v19) => [.box 153 [.sl 54 a1.devices, .sl 36 a1.ports, .sl 41 a1.links, .sl 56 a1.domains, .sl 102 a1.statics, .sl 91 a1.floods, .sl 58 a1.vrfs, .sl 74 a1.irbs, .sl 4 a2, .v (.int .i64 a3), .v (.int .i64 a4), .os 1 (List.length l18)] false, .arr 3 l18 (List.length l18) false]) r) := by
  unfold lookup_open at h
  rcases ite_out h with ⟨h5, h⟩ | ⟨h5, h⟩
  · injection h with h; subst h; exact runFn_sound mixedOrders Try.func112 rfl (keep := some []) (π := [.dec true]) (hrun := by kernel_rfl) (hps := pc (h5) <| pn)
  · rcases ite_out h with ⟨h6, h⟩ | ⟨h6, h⟩
    · injection h with h; subst h; exact runFn_sound mixedOrders Try.func112 rfl (keep := some []) (π := [.dec false, .dec true]) (hrun := by kernel_rfl) (hps := pc (h5) <| pc (h6) <| pn)
    · rcases ite_out h with ⟨h7, h⟩ | ⟨h7, h⟩
      · injection h with h; subst h; exact runFn_sound mixedOrders Try.func112 rfl (keep := some []) (π := [.dec false, .dec false, .dec true]) (hrun := by kernel_rfl) (hps := pc (h5) <| pc (h6) <| pc (h7) <| pn)
      · obtain ⟨r8, h9, h⟩ := bind_out h
        rcases ite_out h with ⟨h10, h⟩ | ⟨h10, h⟩
        · injection h with h; subst h; exact runFn_sound mixedOrders Try.func112 rfl (keep := some []) (π := [.dec false, .dec false, .dec false, .callv (.v (.bool r8)), .dec true]) (hrun := by kernel_rfl) (hps := pc (h5) <| pc (h6) <| pc (h7) <| pc (k_names_Right h9) <| pc (h10) <| pn)
        · obtain ⟨l13, h12, h⟩ := bind_out h
          rcases ite_out h with ⟨h14, h⟩ | ⟨h14, h⟩
          · injection h with h; subst h; exact runFn_sound mixedOrders Try.func112 rfl (keep := some [2, 1]) (π := [.dec false, .dec false, .dec false, .callv (.v (.bool r8)), .dec false, .sum [6] [] .nor [] [.box 31 (c31 a1) false, .arr 3 l13 (List.length l13) false], .callo (.os 0 (List.length l13)) [.arr 3 l13 (List.length l13) false], .dec true]) (hrun := by kernel_rfl) (hps := pc (h5) <| pc (h6) <| pc (h7) <| pc (k_names_Right h9) <| pc (h10) <| pc ((rfl : (.agg [.sl 54 a1.devices, .sl 36 a1.ports, .sl 41 a1.links, .sl 56 a1.domains, .sl 102 a1.statics, .sl 91 a1.floods, .sl 58 a1.vrfs, .sl 74 a1.irbs] : AV DD) = .agg [.sl 54 a1.devices, .sl 36 a1.ports, .sl 41 a1.links, .sl 56 a1.domains, .sl 102 a1.statics, .sl 91 a1.floods, .sl 58 a1.vrfs, .sl 74 a1.irbs])) <| pc ((rfl : (.sl 4 a2 : AV DD) = .sl 4 a2)) <| pc ((rfl : (.v (.int .i64 a3) : AV DD) = .v (.int .i64 a3))) <| pc ((rfl : (.v (.int .i64 a4) : AV DD) = .v (.int .i64 a4))) <| pc ((rfl : ([.box 31 (c31 a1) false, .arr 3 l13 (List.length l13) false] : Heap DD) = [.box 31 (c31 a1) false, .arr 3 l13 (List.length l13) false])) <| pc (k_names_Members h12) <| pc (im3 l13) <| pc (h14) <| pn)
          · rcases ite_out h with ⟨h15, h⟩ | ⟨h15, h⟩
            · injection h with h; subst h; exact runFn_sound mixedOrders Try.func112 rfl (keep := some [2, 1]) (π := [.dec false, .dec false, .dec false, .callv (.v (.bool r8)), .dec false, .sum [6] [] .nor [] [.box 31 (c31 a1) false, .arr 3 l13 (List.length l13) false], .callo (.os 0 (List.length l13)) [.arr 3 l13 (List.length l13) false], .dec false, .dec true]) (hrun := by kernel_rfl) (hps := pc (h5) <| pc (h6) <| pc (h7) <| pc (k_names_Right h9) <| pc (h10) <| pc ((rfl : (.agg [.sl 54 a1.devices, .sl 36 a1.ports, .sl 41 a1.links, .sl 56 a1.domains, .sl 102 a1.statics, .sl 91 a1.floods, .sl 58 a1.vrfs, .sl 74 a1.irbs] : AV DD) = .agg [.sl 54 a1.devices, .sl 36 a1.ports, .sl 41 a1.links, .sl 56 a1.domains, .sl 102 a1.statics, .sl 91 a1.floods, .sl 58 a1.vrfs, .sl 74 a1.irbs])) <| pc ((rfl : (.sl 4 a2 : AV DD) = .sl 4 a2)) <| pc ((rfl : (.v (.int .i64 a3) : AV DD) = .v (.int .i64 a3))) <| pc ((rfl : (.v (.int .i64 a4) : AV DD) = .v (.int .i64 a4))) <| pc ((rfl : ([.box 31 (c31 a1) false, .arr 3 l13 (List.length l13) false] : Heap DD) = [.box 31 (c31 a1) false, .arr 3 l13 (List.length l13) false])) <| pc (k_names_Members h12) <| pc (im3 l13) <| pc (h14) <| pc (h15) <| pn)
            · obtain ⟨r16, h17, h⟩ := bind_out h
              injection h with h; subst h; exact runFn_sound mixedOrders Try.func112 rfl (keep := some [2, 1]) (π := [.dec false, .dec false, .dec false, .callv (.v (.bool r8)), .dec false, .sum [6] [] .nor [] [.box 31 (c31 a1) false, .arr 3 l13 (List.length l13) false], .callo (.os 0 (List.length l13)) [.arr 3 l13 (List.length l13) false], .dec false, .dec false, .callv (.v (.bool r16))]) (hrun := by kernel_rfl) (hps := pc (h5) <| pc (h6) <| pc (h7) <| pc (k_names_Right h9) <| pc (h10) <| pc ((rfl : (.agg [.sl 54 a1.devices, .sl 36 a1.ports, .sl 41 a1.links, .sl 56 a1.domains, .sl 102 a1.statics, .sl 91 a1.floods, .sl 58 a1.vrfs, .sl 74 a1.irbs] : AV DD) = .agg [.sl 54 a1.devices, .sl 36 a1.ports, .sl 41 a1.links, .sl 56 a1.domains, .sl 102 a1.statics, .sl 91 a1.floods, .sl 58 a1.vrfs, .sl 74 a1.irbs])) <| pc ((rfl : (.sl 4 a2 : AV DD) = .sl 4 a2)) <| pc ((rfl : (.v (.int .i64 a3) : AV DD) = .v (.int .i64 a3))) <| pc ((rfl : (.v (.int .i64 a4) : AV DD) = .v (.int .i64 a4))) <| pc ((rfl : ([.box 31 (c31 a1) false, .arr 3 l13 (List.length l13) false] : Heap DD) = [.box 31 (c31 a1) false, .arr 3 l13 (List.length l13) false])) <| pc (k_names_Members h12) <| pc (im3 l13) <| pc (h14) <| pc (h15) <| pc (k_slices_Contains_int h17) <| pc ((rfl : ((List.length l13) : Nat) = (List.length l13))) <| pn)

theorem k_mac_Group {a1 : Int} {r : Bool} (h : mac_Group a1 = some r) :
    CallsOK Try.prog UU 113 [.v (.int .u64 a1)] [] (.v (.bool r)) [] := by
  unfold mac_Group at h
  injection h with h; subst h; exact runFn_sound mixedOrders Try.func113 rfl (keep := none) (π := []) (hrun := by kernel_rfl) (hps := pn)

theorem k_domains_entry_1 {a1 : Api_Static} {a2 : Int} {a3 : Int} {r : Bool} (h : domains_entry_1 a1 a2 a3 = some r) :
    CallsOK Try.prog UU 176 [.agg (c102 a1), .rp (c3 a2) 0, .rp (c51 a3) 0] [] (.v (.bool r)) [] := by
  unfold domains_entry_1 at h
  rcases ite_out h with ⟨h4, h⟩ | ⟨h4, h⟩
  · injection h with h; subst h; exact runFn_sound mixedOrders Try.func176 rfl (keep := none) (π := [.dec true]) (hrun := by kernel_rfl) (hps := pc (h4) <| pn)
  · injection h with h; subst h; exact runFn_sound mixedOrders Try.func176 rfl (keep := none) (π := [.dec false]) (hrun := by kernel_rfl) (hps := pc (h4) <| pn)

theorem k_slices_IndexFunc_Static_entry_1_L1 {a1 : List Api_Static} {a2 : Int} {a3 : Int} : LoopOK Try.prog UU 0 19 (subC (codeOf Try.f175) [1, 0, 1, 0, 0]) (ρ := Int ⊕ Unit) (slices_IndexFunc_Static_entry_1_L1 a1 a2 a3)
    (fun v4 : Int => ([(0, .sl 102 a1), (1, .fn (.func 176) [] [.rp (c3 a2) 0, .rp (c51 a3) 0]), (4, .v (.int .i64 0)), (7, .v (.int .i64 (a1.length : Int))), (8, .v (.int .i64 v4))] : Fr DD)) (fun v4 : Int => ([] : Heap DD)) (fun r => match r with | Sum.inl v12 => .ret | Sum.inr _ => .exit 0) (fun r => match r with | Sum.inl v12 => [(4, .v (.int .i64 v12))] | Sum.inr _ => [(4, .v (.int .i64 0))]) (fun r => match r with | Sum.inl v12 => [] | Sum.inr _ => []) := by
  refine loop_sound3 (fun s q h => ?_) (fun r => ?_)
  · replace h : slices_IndexFunc_Static_entry_1_L1 a1 a2 a3 s = some q := h; revert h; revert s; intro v4 h
    unfold slices_IndexFunc_Static_entry_1_L1 at h
    rcases ite_out h with ⟨h5, h⟩ | ⟨h5, h⟩
    · obtain ⟨x6, h7, h⟩ := bind_out h
      obtain ⟨r8, h9, h⟩ := bind_out h
      rcases ite_out h with ⟨h10, h⟩ | ⟨h10, h⟩
      · injection h with h; subst h; exact runLp_sound mixedOrders (live := [4]) (ids := []) (π := [.dec true, .row (c102 x6), .callv (.v (.bool r8)), .dec true]) (hx := by kernel_rfl) (hps := pc (h5) <| pc (ob102 h7) <| pc (k_domains_entry_1 h9) <| pc (h10) <| pn)
      · injection h with h; subst h; exact runLp_sound mixedOrders (live := [0, 1, 4, 7, 8]) (ids := []) (π := [.dec true, .row (c102 x6), .callv (.v (.bool r8)), .dec false]) (hx := by kernel_rfl) (hps := pc (h5) <| pc (ob102 h7) <| pc (k_domains_entry_1 h9) <| pc (h10) <| pn)
    · injection h with h; subst h; exact runLp_sound mixedOrders (live := [4]) (ids := []) (π := [.dec false]) (hx := by kernel_rfl) (hps := pc (h5) <| pn)
  · rcases r with _ | _ <;> exact Ex.noConfusion

theorem k_slices_IndexFunc_Static_entry_1 {a1 : List Api_Static} {a2 : Int} {a3 : Int} {r : Int} (h : slices_IndexFunc_Static_entry_1 a1 a2 a3 = some r) :
    CallsOK Try.prog UU 175 [.sl 102 a1, .fn (.func 176) [] [.rp (c3 a2) 0, .rp (c51 a3) 0]] [] (.v (.int .i64 r)) [] := by
  unfold slices_IndexFunc_Static_entry_1 at h
  obtain ⟨r14, h13, h⟩ := bind_out h
  rcases r14 with v12 | _
  · injection h with h; subst h; exact runFn_sound mixedOrders Try.func175 rfl (keep := none) (π := [.sum [0, 1, 4, 7, 8] [] .ret [(4, .v (.int .i64 v12))] []]) (hrun := by kernel_rfl) (hps := pc (k_slices_IndexFunc_Static_entry_1_L1 _ _ h13) <| pn)
  · injection h with h; subst h; exact runFn_sound mixedOrders Try.func175 rfl (keep := none) (π := [.sum [0, 1, 4, 7, 8] [] (.exit 0) [(4, .v (.int .i64 0))] []]) (hrun := by kernel_rfl) (hps := pc (k_slices_IndexFunc_Static_entry_1_L1 _ _ h13) <| pn)

theorem k_domains_entry {a1 : Api_Net} {a2 : Int} {a3 : Int} {r : Int} (h : domains_entry a1 a2 a3 = some r) :
    CallsOK Try.prog UU 170 [.agg (c31 a1), .v (.int .i64 a2), .v (.int .u64 a3)] [] (.v (.int .i64 r)) [] := by
  unfold domains_entry at h
  obtain ⟨r4, h5, h⟩ := bind_out h
  injection h with h; subst h; exact runFn_sound mixedOrders Try.func170 rfl (keep := none) (π := [.callv (.v (.int .i64 r4))]) (hrun := by kernel_rfl) (hps := pc (k_slices_IndexFunc_Static_entry_1 h5) <| pn)

theorem k_domains_Lookup {a1 : Api_Net} {a2 : Int} {a3 : Int} {r : Int} (h : domains_Lookup a1 a2 a3 = some r) :
    CallsOK Try.prog UU 155 [.agg (c31 a1), .v (.int .i64 a2), .v (.int .u64 a3)] [] (.v (.int .i64 r)) [] := by
  unfold domains_Lookup at h
  obtain ⟨r4, h5, h⟩ := bind_out h
  rcases ite_out h with ⟨h6, h⟩ | ⟨h6, h⟩
  · injection h with h; subst h; exact runFn_sound mixedOrders Try.func155 rfl (keep := none) (π := [.callv (.v (.int .i64 r4)), .dec true]) (hrun := by kernel_rfl) (hps := pc (k_domains_entry h5) <| pc (h6) <| pn)
  · obtain ⟨r7, h8, h⟩ := bind_out h
    rcases ite_out h with ⟨h9, h⟩ | ⟨h9, h⟩
    · injection h with h; subst h; exact runFn_sound mixedOrders Try.func155 rfl (keep := none) (π := [.callv (.v (.int .i64 r4)), .dec false, .callv (.v (.bool r7)), .dec true]) (hrun := by kernel_rfl) (hps := pc (k_domains_entry h5) <| pc (h6) <| pc (k_names_Right h8) <| pc (h9) <| pn)
    · obtain ⟨x10, h11, h⟩ := bind_out h
      injection h with h; subst h; exact runFn_sound mixedOrders Try.func155 rfl (keep := none) (π := [.callv (.v (.int .i64 r4)), .dec false, .callv (.v (.bool r7)), .dec false, .row (c102 x10)]) (hrun := by kernel_rfl) (hps := pc (k_domains_entry h5) <| pc (h6) <| pc (k_names_Right h8) <| pc (h9) <| pc (ob102 h11) <| pn)

theorem k_slices_Clone_int {a1 : List Int} {r : List Int} (h : slices_Clone_int a1 = some r) :
    CallsOK Try.prog UU 99 [.sl 3 a1] [] (.os 0 (List.length r)) [.arr 3 r (List.length r) false] := by
  unfold slices_Clone_int at h
  rcases ite_out h with ⟨h1, h⟩ | ⟨h1, h⟩
  · injection h with h; subst h
    refine sn_split ?_ (fun e => ?_)
    · exact runFn_sound mixedOrders Try.func99 rfl (keep := some [1]) (π := [.obj [] (.arr 3 [] 0 false), .obj [] (.arr 3 a1 (List.length a1) false)]) (hrun := by kernel_rfl) (hps := pc (bs_ob 3 []) <| pc (app_ob 3 (n := 0) (l := []) (xs := a1) h1) <| pn)
    · subst e; exact runFn_sound mixedOrders Try.func99 rfl (keep := some [1]) (π := []) (hrun := by kernel_rfl) (hps := pn)
  · cases h

theorem k_lookup_usable {a1 : Api_Net} {a2 : List Bool} {a3 : Int} {r : Bool} (h : lookup_usable a1 a2 a3 = some r) :
    CallsOK Try.prog UU 102 [.agg (c31 a1), .sl 4 a2, .v (.int .i64 a3)] [] (.v (.bool r)) [] := by
  unfold lookup_usable at h
  obtain ⟨x4, h5, h⟩ := bind_out h
  rcases ite_out h with ⟨h6, h⟩ | ⟨h6, h⟩
  · injection h with h; subst h; exact runFn_sound mixedOrders Try.func102 rfl (keep := none) (π := [.row (c36 x4), .dec true]) (hrun := by kernel_rfl) (hps := pc (ob36 h5) <| pc (h6) <| pn)
  · obtain ⟨x7, h8, h⟩ := bind_out h
    injection h with h; subst h; exact runFn_sound mixedOrders Try.func102 rfl (keep := none) (π := [.row (c36 x4), .dec false, .row (c4 x7)]) (hrun := by kernel_rfl) (hps := pc (ob36 h5) <| pc (h6) <| pc (ob4 h8) <| pn)

theorem k_lookup_room_ports_1 {a1 : Int} {a2 : Lookup_room} {r : Bool} (h : lookup_room_ports_1 a1 a2 = some r) :
    CallsOK Try.prog UU 157 [.v (.int .i64 a1), .rp [.rp (c153 a2) 0] 0] [] (.v (.bool r)) [] := by
  unfold lookup_room_ports_1 at h
  rcases ite_out h with ⟨h3, h⟩ | ⟨h3, h⟩
  · injection h with h; subst h; exact runFn_sound mixedOrders Try.func157 rfl (keep := none) (π := [.dec true]) (hrun := by kernel_rfl) (hps := pc (h3) <| pn)
  · obtain ⟨r4, h5, h⟩ := bind_out h
    injection h with h; subst h; exact runFn_sound mixedOrders Try.func157 rfl (keep := none) (π := [.dec false, .callv (.v (.bool r4))]) (hrun := by kernel_rfl) (hps := pc (h3) <| pc (k_lookup_usable h5) <| pn)

theorem k_slices_IndexFunc_int_room_ports_1_L1 {a1 : List Int} {a2 : Lookup_room} : LoopOK Try.prog UU 0 19 (subC (codeOf Try.f172) [1, 0, 1, 0, 0]) (ρ := Int ⊕ Unit) (slices_IndexFunc_int_room_ports_1_L1 a1 a2)
    (fun v3 : Int => ([(0, .sl 3 a1), (1, .fn (.func 157) [] [.rp [.rp (c153 a2) 0] 0]), (4, .v (.int .i64 0)), (7, .v (.int .i64 (a1.length : Int))), (8, .v (.int .i64 v3))] : Fr DD)) (fun v3 : Int => ([] : Heap DD)) (fun r => match r with | Sum.inl v11 => .ret | Sum.inr _ => .exit 0) (fun r => match r with | Sum.inl v11 => [(4, .v (.int .i64 v11))] | Sum.inr _ => [(4, .v (.int .i64 0))]) (fun r => match r with | Sum.inl v11 => [] | Sum.inr _ => []) := by
  refine loop_sound3 (fun s q h => ?_) (fun r => ?_)
  · replace h : slices_IndexFunc_int_room_ports_1_L1 a1 a2 s = some q := h; revert h; revert s; intro v3 h
    unfold slices_IndexFunc_int_room_ports_1_L1 at h
    rcases ite_out h with ⟨h4, h⟩ | ⟨h4, h⟩
    · obtain ⟨x5, h6, h⟩ := bind_out h
      obtain ⟨r7, h8, h⟩ := bind_out h
      rcases ite_out h with ⟨h9, h⟩ | ⟨h9, h⟩
      · injection h with h; subst h; exact runLp_sound mixedOrders (live := [4]) (ids := []) (π := [.dec true, .row (c3 x5), .callv (.v (.bool r7)), .dec true]) (hx := by kernel_rfl) (hps := pc (h4) <| pc (ob3 h6) <| pc (k_lookup_room_ports_1 h8) <| pc (h9) <| pn)
      · injection h with h; subst h; exact runLp_sound mixedOrders (live := [0, 1, 4, 7, 8]) (ids := []) (π := [.dec true, .row (c3 x5), .callv (.v (.bool r7)), .dec false]) (hx := by kernel_rfl) (hps := pc (h4) <| pc (ob3 h6) <| pc (k_lookup_room_ports_1 h8) <| pc (h9) <| pn)
    · injection h with h; subst h; exact runLp_sound mixedOrders (live := [4]) (ids := []) (π := [.dec false]) (hx := by kernel_rfl) (hps := pc (h4) <| pn)
  · rcases r with _ | _ <;> exact Ex.noConfusion

theorem k_slices_IndexFunc_int_room_ports_1 {a1 : List Int} {a2 : Lookup_room} {r : Int} (h : slices_IndexFunc_int_room_ports_1 a1 a2 = some r) :
    CallsOK Try.prog UU 172 [.sl 3 a1, .fn (.func 157) [] [.rp [.rp (c153 a2) 0] 0]] [] (.v (.int .i64 r)) [] := by
  unfold slices_IndexFunc_int_room_ports_1 at h
  obtain ⟨r13, h12, h⟩ := bind_out h
  rcases r13 with v11 | _
  · injection h with h; subst h; exact runFn_sound mixedOrders Try.func172 rfl (keep := none) (π := [.sum [0, 1, 4, 7, 8] [] .ret [(4, .v (.int .i64 v11))] []]) (hrun := by kernel_rfl) (hps := pc (k_slices_IndexFunc_int_room_ports_1_L1 _ _ h12) <| pn)
  · injection h with h; subst h; exact runFn_sound mixedOrders Try.func172 rfl (keep := none) (π := [.sum [0, 1, 4, 7, 8] [] (.exit 0) [(4, .v (.int .i64 0))] []]) (hrun := by kernel_rfl) (hps := pc (k_slices_IndexFunc_int_room_ports_1_L1 _ _ h12) <| pn)

theorem k_slices_DeleteFunc_int_room_ports_1_own_L1 {a1 : List Int} {a2 : Lookup_room} : LoopOK Try.prog UU 2 42 (subC (codeOf Try.f158) [1, 1, 1, 0, 1, 0, 0]) (fun s : (List Int) × Int × Int => match s with | (l6, v7, v8) => slices_DeleteFunc_int_room_ports_1_own_L1 a1 a2 l6 v7 v8)
    (fun s : (List Int) × Int × Int => (match s with | (l6, v7, v8) => [(0, .os 0 (List.length a1)), (1, .fn (.func 157) [] [.op 1 1 0 0]), (4, .os 2 0), (5, .v (.int .i64 v7)), (6, .v (.int .i64 v8))] : Fr DD)) (fun s : (List Int) × Int × Int => (match s with | (l6, v7, v8) => [.arr 3 l6 (List.length a1) false, .box 145 [.rp (c153 a2) 0] false, .arr 3 [] 0 false] : Heap DD)) (fun r => match r with | (l23, v24) => .exit 0) (fun r => match r with | (l23, v24) => [(0, .os 0 (List.length a1)), (4, .os 2 0), (5, .v (.int .i64 v24))]) (fun r => match r with | (l23, v24) => [.arr 3 l23 (List.length a1) false, .box 145 [.rp (c153 a2) 0] false, .arr 3 [] 0 false]) := by
  refine loop_sound3 (fun s q h => ?_) (fun r => ?_)
  · obtain ⟨l6, v7, v8⟩ := s; replace h : slices_DeleteFunc_int_room_ports_1_own_L1 a1 a2 l6 v7 v8 = some q := h
    unfold slices_DeleteFunc_int_room_ports_1_own_L1 at h
    rcases ite_out h with ⟨h9, h⟩ | ⟨h9, h⟩
    · rcases ite_out h with ⟨h10, h⟩ | ⟨h10, h⟩
      · obtain ⟨x11, h12, h⟩ := bind_out h
        obtain ⟨r13, h14, h⟩ := bind_out h
        rcases ite_out h with ⟨h15, h⟩ | ⟨h15, h⟩
        · rcases ite_out h with ⟨h16, h⟩ | ⟨h16, h⟩
          · obtain ⟨x17, h18, h⟩ := bind_out h
            injection h with h; subst h; exact runLp_sound mixedOrders (live := [0, 1, 4, 5, 6]) (ids := [0, 1, 2]) (π := [.dec true, .row (c3 x11), .callv (.v (.bool r13)), .dec true, .row (c3 x17), .obj [] (.arr 3 (List.set l6 (Int.toNat v7) x11) (List.length a1) false)]) (hx := by kernel_rfl) (hps := pc ((rfl : ((List.length a1) : Nat) = (List.length a1))) <| pc (h9) <| pc (And.intro (rfl : ((List.length a1) : Nat) = (List.length a1)) (lin_ob h10)) <| pc (And.intro (rfl : ((List.length a1) : Nat) = (List.length a1)) (obn3 h12)) <| pc (k_lookup_room_ports_1 h14) <| pc (h15) <| pc (And.intro (rfl : ((List.length a1) : Nat) = (List.length a1)) (lin_ob h16)) <| pc (st_ob (e := 3) (n := (List.length a1)) (l := l6) (i := (Int.toNat v7)) x11 [.v (.int .i64 x11)] (obn3 h18) rfl) <| pn)
          · cases h
        · injection h with h; subst h; exact runLp_sound mixedOrders (live := [0, 1, 4, 5, 6]) (ids := [0, 1, 2]) (π := [.dec true, .row (c3 x11), .callv (.v (.bool r13)), .dec false]) (hx := by kernel_rfl) (hps := pc ((rfl : ((List.length a1) : Nat) = (List.length a1))) <| pc (h9) <| pc (And.intro (rfl : ((List.length a1) : Nat) = (List.length a1)) (lin_ob h10)) <| pc (And.intro (rfl : ((List.length a1) : Nat) = (List.length a1)) (obn3 h12)) <| pc (k_lookup_room_ports_1 h14) <| pc (h15) <| pn)
      · cases h
    · injection h with h; subst h; exact runLp_sound mixedOrders (live := [0, 4, 5]) (ids := [0, 1, 2]) (π := [.dec false]) (hx := by kernel_rfl) (hps := pc ((rfl : ((List.length a1) : Nat) = (List.length a1))) <| pc (h9) <| pn)
  · exact Ex.noConfusion

theorem k_slices_DeleteFunc_int_room_ports_1_own {a1 : List Int} {a2 : Lookup_room} {r : ((List Int) × (List Int))} (h : slices_DeleteFunc_int_room_ports_1_own a1 a2 = some r) :
    CallsOK Try.prog UU 158 [.os 0 (List.length a1), .fn (.func 157) [] [.op 1 1 0 0]] [.arr 3 a1 (List.length a1) false, .box 145 [.rp (c153 a2) 0] false] ((fun r => match r with | (l29, l30) => .sl 3 l30) r) ((fun r => match r with | (l29, l30) => [.arr 3 l29 (List.length a1) true, .box 145 [.rp (c153 a2) 0] false]) r) := by
  unfold slices_DeleteFunc_int_room_ports_1_own at h
  obtain ⟨r3, h4, h⟩ := bind_out h
  rcases ite_out h with ⟨h5, h⟩ | ⟨h5, h⟩
  · injection h with h; subst h; exact runFz_sound mixedOrders Try.func158 rfl (ids := [0, 1]) (fz := [0]) (π := [.callv (.v (.int .i64 r3)), .dec true]) (hrun := by kernel_rfl) (hps := pc (k_slices_IndexFunc_int_room_ports_1 h4) <| pc ((rfl : ((List.length a1) : Nat) = (List.length a1))) <| pc (h5) <| pc ((rfl : ((List.length a1) : Nat) = (List.length a1))) <| pn)
  · obtain ⟨r26, h25, h⟩ := bind_out h
    obtain ⟨l23, v24⟩ := r26
    rcases ite_out h with ⟨h27, h⟩ | ⟨h27, h⟩
    · rcases ite_out h with ⟨h28, h⟩ | ⟨h28, h⟩
      · injection h with h; subst h; exact runFz_sound mixedOrders Try.func158 rfl (ids := [0, 1]) (fz := [0]) (π := [.callv (.v (.int .i64 r3)), .dec false, .sum [0, 1, 4, 5, 6] [0, 1, 2] (.exit 0) [(0, .os 0 (List.length a1)), (4, .os 2 0), (5, .v (.int .i64 v24))] [.arr 3 l23 (List.length a1) false, .box 145 [.rp (c153 a2) 0] false, .arr 3 [] 0 false], .obj [] (.arr 3 (List.take (Int.toNat v24) l23 ++ (List.replicate ((Int.toNat ((List.length l23) : Int)) - (Int.toNat v24)) (0 : Int) ++ List.drop (Int.toNat ((List.length l23) : Int)) l23)) (List.length a1) false)]) (hrun := by kernel_rfl) (hps := pc (k_slices_IndexFunc_int_room_ports_1 h4) <| pc ((rfl : ((List.length a1) : Nat) = (List.length a1))) <| pc (h5) <| pc (k_slices_DeleteFunc_int_room_ports_1_own_L1 _ _ h25) <| pc ((rfl : ((List.length a1) : Nat) = (List.length a1))) <| pc (sl_ob h27) <| pc (cl_ob (e := 3) (n := (List.length a1)) (l := l23) (a := (Int.toNat v24)) (b := (Int.toNat ((List.length l23) : Int))) (0 : Int)) <| pc ((rfl : ((List.length a1) : Nat) = (List.length a1))) <| pc (sl_ob h28) <| pc ((rfl : ((List.length a1) : Nat) = (List.length a1))) <| pn)
      · cases h
    · cases h

theorem k_lookup_room_ports {a1 : Lookup_room} {a2 : List Int} {r : (List Int)} (h : lookup_room_ports a1 a2 = some r) :
    CallsOK Try.prog UU 115 [.rp (c153 a1) 0, .sl 3 a2] [] (.sl 3 r) [] := by
  unfold lookup_room_ports at h
  obtain ⟨l5, h4, h⟩ := bind_out h
  obtain ⟨r6, h7, h⟩ := bind_out h
  obtain ⟨l8, l9⟩ := r6
  injection h with h; subst h; exact runFn_sound mixedOrders Try.func115 rfl (keep := none) (π := [.callo (.os 0 (List.length l5)) [.arr 3 l5 (List.length l5) false], .callm [2, 0] (.sl 3 l9) [.arr 3 l8 (List.length l5) true, .box 145 [.rp (c153 a1) 0] false]]) (hrun := by kernel_rfl) (hps := pc (k_slices_Clone_int h4) <| pc (im3 l5) <| pc (k_slices_DeleteFunc_int_room_ports_1_own h7) <| pn)

theorem k_table_index_1 {a1 : Api_Entry} {a2 : Int} {r : Bool} (h : table_index_1 a1 a2 = some r) :
    CallsOK Try.prog UU 178 [.agg (c139 a1), .rp (c51 a2) 0] [] (.v (.bool r)) [] := by
  unfold table_index_1 at h
  injection h with h; subst h; exact runFn_sound mixedOrders Try.func178 rfl (keep := none) (π := []) (hrun := by kernel_rfl) (hps := pn)

theorem k_slices_IndexFunc_Entry_index_1_L1 {a1 : List Api_Entry} {a2 : Int} : LoopOK Try.prog UU 0 19 (subC (codeOf Try.f177) [1, 0, 1, 0, 0]) (ρ := Int ⊕ Unit) (slices_IndexFunc_Entry_index_1_L1 a1 a2)
    (fun v3 : Int => ([(0, .sl 139 a1), (1, .fn (.func 178) [] [.rp (c51 a2) 0]), (4, .v (.int .i64 0)), (7, .v (.int .i64 (a1.length : Int))), (8, .v (.int .i64 v3))] : Fr DD)) (fun v3 : Int => ([] : Heap DD)) (fun r => match r with | Sum.inl v11 => .ret | Sum.inr _ => .exit 0) (fun r => match r with | Sum.inl v11 => [(4, .v (.int .i64 v11))] | Sum.inr _ => [(4, .v (.int .i64 0))]) (fun r => match r with | Sum.inl v11 => [] | Sum.inr _ => []) := by
  refine loop_sound3 (fun s q h => ?_) (fun r => ?_)
  · replace h : slices_IndexFunc_Entry_index_1_L1 a1 a2 s = some q := h; revert h; revert s; intro v3 h
    unfold slices_IndexFunc_Entry_index_1_L1 at h
    rcases ite_out h with ⟨h4, h⟩ | ⟨h4, h⟩
    · obtain ⟨x5, h6, h⟩ := bind_out h
      obtain ⟨r7, h8, h⟩ := bind_out h
      rcases ite_out h with ⟨h9, h⟩ | ⟨h9, h⟩
      · injection h with h; subst h; exact runLp_sound mixedOrders (live := [4]) (ids := []) (π := [.dec true, .row (c139 x5), .callv (.v (.bool r7)), .dec true]) (hx := by kernel_rfl) (hps := pc (h4) <| pc (ob139 h6) <| pc (k_table_index_1 h8) <| pc (h9) <| pn)
      · injection h with h; subst h; exact runLp_sound mixedOrders (live := [0, 1, 4, 7, 8]) (ids := []) (π := [.dec true, .row (c139 x5), .callv (.v (.bool r7)), .dec false]) (hx := by kernel_rfl) (hps := pc (h4) <| pc (ob139 h6) <| pc (k_table_index_1 h8) <| pc (h9) <| pn)
    · injection h with h; subst h; exact runLp_sound mixedOrders (live := [4]) (ids := []) (π := [.dec false]) (hx := by kernel_rfl) (hps := pc (h4) <| pn)
  · rcases r with _ | _ <;> exact Ex.noConfusion

theorem k_slices_IndexFunc_Entry_index_1 {a1 : List Api_Entry} {a2 : Int} {r : Int} (h : slices_IndexFunc_Entry_index_1 a1 a2 = some r) :
    CallsOK Try.prog UU 177 [.sl 139 a1, .fn (.func 178) [] [.rp (c51 a2) 0]] [] (.v (.int .i64 r)) [] := by
  unfold slices_IndexFunc_Entry_index_1 at h
  obtain ⟨r13, h12, h⟩ := bind_out h
  rcases r13 with v11 | _
  · injection h with h; subst h; exact runFn_sound mixedOrders Try.func177 rfl (keep := none) (π := [.sum [0, 1, 4, 7, 8] [] .ret [(4, .v (.int .i64 v11))] []]) (hrun := by kernel_rfl) (hps := pc (k_slices_IndexFunc_Entry_index_1_L1 _ _ h12) <| pn)
  · injection h with h; subst h; exact runFn_sound mixedOrders Try.func177 rfl (keep := none) (π := [.sum [0, 1, 4, 7, 8] [] (.exit 0) [(4, .v (.int .i64 0))] []]) (hrun := by kernel_rfl) (hps := pc (k_slices_IndexFunc_Entry_index_1_L1 _ _ h12) <| pn)

theorem k_table_index {a1 : List Api_Entry} {a2 : Int} {r : Int} (h : table_index a1 a2 = some r) :
    CallsOK Try.prog UU 171 [.sl 139 a1, .v (.int .u64 a2)] [] (.v (.int .i64 r)) [] := by
  unfold table_index at h
  obtain ⟨r3, h4, h⟩ := bind_out h
  injection h with h; subst h; exact runFn_sound mixedOrders Try.func171 rfl (keep := none) (π := [.callv (.v (.int .i64 r3))]) (hrun := by kernel_rfl) (hps := pc (k_slices_IndexFunc_Entry_index_1 h4) <| pn)

theorem k_table_Find {a1 : List Api_Entry} {a2 : Int} {r : Int × Bool} (h : table_Find a1 a2 = some r) :
    CallsOK Try.prog UU 156 [.sl 139 a1, .v (.int .u64 a2)] [] (.tup [.v (.int .i64 r.1), .v (.bool r.2)]) [] := by
  unfold table_Find at h
  obtain ⟨r3, h4, h⟩ := bind_out h
  rcases ite_out h with ⟨h5, h⟩ | ⟨h5, h⟩
  · injection h with h; subst h; exact runFn_sound mixedOrders Try.func156 rfl (keep := none) (π := [.callv (.v (.int .i64 r3)), .dec true]) (hrun := by kernel_rfl) (hps := pc (k_table_index h4) <| pc (h5) <| pn)
  · obtain ⟨x6, h7, h⟩ := bind_out h
    injection h with h; subst h; exact runFn_sound mixedOrders Try.func156 rfl (keep := none) (π := [.callv (.v (.int .i64 r3)), .dec false, .row (c139 x6)]) (hrun := by kernel_rfl) (hps := pc (k_table_index h4) <| pc (h5) <| pc (ob139 h7) <| pn)

end Go.Eng
