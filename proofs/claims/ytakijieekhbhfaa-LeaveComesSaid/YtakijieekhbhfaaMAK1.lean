/- Part of the proof of LeaveComes: printed mirrors of the functions, or their contracts. No conditions. -/
import Derived.Test.YtakijieekhbhfaaMAK
set_option linter.unusedVariables false
set_option maxRecDepth 100000
namespace Go.Eng
open Go Go.Proofs
theorem k_leave_place {a1 : Int} {a2 : Int} {r : Bool} (h : leave_place a1 a2 = some r) :
    CallsOK Try.prog UU 74 [.v (.int .i64 a1), .v (.int .i64 a2)] [] (.v (.bool r)) [] := by
  unfold leave_place at h
  rcases ite_out h with ⟨h3, h⟩ | ⟨h3, h⟩
  · injection h with h; subst h; exact runFn_sound mixedOrders Try.func74 rfl (keep := none) (π := [.dec true]) (hrun := by kernel_rfl) (hps := pc (h3) <| pn)
  · injection h with h; subst h; exact runFn_sound mixedOrders Try.func74 rfl (keep := none) (π := [.dec false]) (hrun := by kernel_rfl) (hps := pc (h3) <| pn)

theorem k_names_judge_few {a1 : Names_judge} {r : Bool} (h : names_judge_few a1 = some r) :
    CallsOK Try.prog UU 89 [.agg (c157 a1)] [] (.v (.bool r)) [] := by
  unfold names_judge_few at h
  rcases ite_out h with ⟨h2, h⟩ | ⟨h2, h⟩
  · rcases ite_out h with ⟨h3, h⟩ | ⟨h3, h⟩
    · rcases ite_out h with ⟨h4, h⟩ | ⟨h4, h⟩
      · rcases ite_out h with ⟨h5, h⟩ | ⟨h5, h⟩
        · rcases ite_out h with ⟨h6, h⟩ | ⟨h6, h⟩
          · rcases ite_out h with ⟨h7, h⟩ | ⟨h7, h⟩
            · rcases ite_out h with ⟨h8, h⟩ | ⟨h8, h⟩
              · injection h with h; subst h; exact runFn_sound mixedOrders Try.func89 rfl (keep := none) (π := [.dec true, .dec true, .dec true, .dec true, .dec true, .dec true, .dec true]) (hrun := by kernel_rfl) (hps := pc (h2) <| pc (h3) <| pc (h4) <| pc (h5) <| pc (h6) <| pc (h7) <| pc (h8) <| pn)
              · injection h with h; subst h; exact runFn_sound mixedOrders Try.func89 rfl (keep := none) (π := [.dec true, .dec true, .dec true, .dec true, .dec true, .dec true, .dec false]) (hrun := by kernel_rfl) (hps := pc (h2) <| pc (h3) <| pc (h4) <| pc (h5) <| pc (h6) <| pc (h7) <| pc (h8) <| pn)
            · injection h with h; subst h; exact runFn_sound mixedOrders Try.func89 rfl (keep := none) (π := [.dec true, .dec true, .dec true, .dec true, .dec true, .dec false]) (hrun := by kernel_rfl) (hps := pc (h2) <| pc (h3) <| pc (h4) <| pc (h5) <| pc (h6) <| pc (h7) <| pn)
          · injection h with h; subst h; exact runFn_sound mixedOrders Try.func89 rfl (keep := none) (π := [.dec true, .dec true, .dec true, .dec true, .dec false]) (hrun := by kernel_rfl) (hps := pc (h2) <| pc (h3) <| pc (h4) <| pc (h5) <| pc (h6) <| pn)
        · injection h with h; subst h; exact runFn_sound mixedOrders Try.func89 rfl (keep := none) (π := [.dec true, .dec true, .dec true, .dec false]) (hrun := by kernel_rfl) (hps := pc (h2) <| pc (h3) <| pc (h4) <| pc (h5) <| pn)
      · injection h with h; subst h; exact runFn_sound mixedOrders Try.func89 rfl (keep := none) (π := [.dec true, .dec true, .dec false]) (hrun := by kernel_rfl) (hps := pc (h2) <| pc (h3) <| pc (h4) <| pn)
    · injection h with h; subst h; exact runFn_sound mixedOrders Try.func89 rfl (keep := none) (π := [.dec true, .dec false]) (hrun := by kernel_rfl) (hps := pc (h2) <| pc (h3) <| pn)
  · injection h with h; subst h; exact runFn_sound mixedOrders Try.func89 rfl (keep := none) (π := [.dec false]) (hrun := by kernel_rfl) (hps := pc (h2) <| pn)

theorem k_names_place_Device {a1 : List Api_Device} {a2 : Int} {r : Bool} (h : names_place_Device a1 a2 = some r) :
    CallsOK Try.prog UU 101 [.sl 138 a1, .v (.int .i64 a2)] [] (.v (.bool r)) [] := by
  unfold names_place_Device at h
  rcases ite_out h with ⟨h3, h⟩ | ⟨h3, h⟩
  · injection h with h; subst h; exact runFn_sound mixedOrders Try.func101 rfl (keep := none) (π := [.dec true]) (hrun := by kernel_rfl) (hps := pc (h3) <| pn)
  · injection h with h; subst h; exact runFn_sound mixedOrders Try.func101 rfl (keep := none) (π := [.dec false]) (hrun := by kernel_rfl) (hps := pc (h3) <| pn)

theorem k_names_judge_domain_1 {a1 : Api_Domain} {a2 : Int} {a3 : Int} {r : Bool} (h : names_judge_domain_1 a1 a2 a3 = some r) :
    CallsOK Try.prog UU 164 [.agg (c85 a1), .rp (c3 a2) 0, .rp (c3 a3) 0] [] (.v (.bool r)) [] := by
  unfold names_judge_domain_1 at h
  rcases ite_out h with ⟨h4, h⟩ | ⟨h4, h⟩
  · injection h with h; subst h; exact runFn_sound mixedOrders Try.func164 rfl (keep := none) (π := [.dec true]) (hrun := by kernel_rfl) (hps := pc (h4) <| pn)
  · injection h with h; subst h; exact runFn_sound mixedOrders Try.func164 rfl (keep := none) (π := [.dec false]) (hrun := by kernel_rfl) (hps := pc (h4) <| pn)

theorem k_slices_IndexFunc_Domain_judge_domain_1_L1 {a1 : List Api_Domain} {a2 : Int} {a3 : Int} : LoopOK Try.prog UU 0 19 (subC (codeOf Try.f145) [1, 0, 1, 0, 0]) (ρ := Int ⊕ Unit) (slices_IndexFunc_Domain_judge_domain_1_L1 a1 a2 a3)
    (fun v4 : Int => ([(0, .sl 85 a1), (1, .fn (.func 164) [] [.rp (c3 a2) 0, .rp (c3 a3) 0]), (4, .z), (7, .v (.int .i64 (a1.length : Int))), (8, .v (.int .i64 v4))] : Fr DD)) (fun v4 : Int => ([] : Heap DD)) (fun r => match r with | Sum.inl v12 => .ret | Sum.inr _ => .exit 0) (fun r => match r with | Sum.inl v12 => [(4, .v (.int .i64 v12))] | Sum.inr _ => [(4, .z)]) (fun r => match r with | Sum.inl v12 => [] | Sum.inr _ => []) := by
  refine loop_sound3 (fun s q h => ?_) (fun r => ?_)
  · replace h : slices_IndexFunc_Domain_judge_domain_1_L1 a1 a2 a3 s = some q := h; revert h; revert s; intro v4 h
    unfold slices_IndexFunc_Domain_judge_domain_1_L1 at h
    rcases ite_out h with ⟨h5, h⟩ | ⟨h5, h⟩
    · obtain ⟨x6, h7, h⟩ := bind_out h
      obtain ⟨r8, h9, h⟩ := bind_out h
      rcases ite_out h with ⟨h10, h⟩ | ⟨h10, h⟩
      · injection h with h; subst h; exact runLp_sound mixedOrders (live := [4]) (ids := []) (π := [.dec true, .row (c85 x6), .callv (.v (.bool r8)), .dec true]) (hx := by kernel_rfl) (hps := pc (h5) <| pc (ob85 h7) <| pc (k_names_judge_domain_1 h9) <| pc (h10) <| pn)
      · injection h with h; subst h; exact runLp_sound mixedOrders (live := [0, 1, 4, 7, 8]) (ids := []) (π := [.dec true, .row (c85 x6), .callv (.v (.bool r8)), .dec false]) (hx := by kernel_rfl) (hps := pc (h5) <| pc (ob85 h7) <| pc (k_names_judge_domain_1 h9) <| pc (h10) <| pn)
    · injection h with h; subst h; exact runLp_sound mixedOrders (live := [4]) (ids := []) (π := [.dec false]) (hx := by kernel_rfl) (hps := pc (h5) <| pn)
  · rcases r with _ | _ <;> exact Ex.noConfusion

theorem k_slices_IndexFunc_Domain_judge_domain_1 {a1 : List Api_Domain} {a2 : Int} {a3 : Int} {r : Int} (h : slices_IndexFunc_Domain_judge_domain_1 a1 a2 a3 = some r) :
    CallsOK Try.prog UU 145 [.sl 85 a1, .fn (.func 164) [] [.rp (c3 a2) 0, .rp (c3 a3) 0]] [] (.v (.int .i64 r)) [] := by
  unfold slices_IndexFunc_Domain_judge_domain_1 at h
  obtain ⟨r14, h13, h⟩ := bind_out h
  rcases r14 with v12 | _
  · injection h with h; subst h; exact runFn_sound mixedOrders Try.func145 rfl (keep := none) (π := [.sum [0, 1, 4, 7, 8] [] .ret [(4, .v (.int .i64 v12))] []]) (hrun := by kernel_rfl) (hps := pc (k_slices_IndexFunc_Domain_judge_domain_1_L1 _ _ h13) <| pn)
  · injection h with h; subst h; exact runFn_sound mixedOrders Try.func145 rfl (keep := none) (π := [.sum [0, 1, 4, 7, 8] [] (.exit 0) [(4, .z)] []]) (hrun := by kernel_rfl) (hps := pc (k_slices_IndexFunc_Domain_judge_domain_1_L1 _ _ h13) <| pn)

theorem k_names_judge_domain {a1 : Names_judge} {a2 : Int} {a3 : Int} {r : Int} (h : names_judge_domain a1 a2 a3 = some r) :
    CallsOK Try.prog UU 149 [.agg (c157 a1), .v (.int .i64 a2), .v (.int .i64 a3)] [] (.v (.int .i64 r)) [] := by
  unfold names_judge_domain at h
  obtain ⟨r4, h5, h⟩ := bind_out h
  injection h with h; subst h; exact runFn_sound mixedOrders Try.func149 rfl (keep := none) (π := [.callv (.v (.int .i64 r4))]) (hrun := by kernel_rfl) (hps := pc (k_slices_IndexFunc_Domain_judge_domain_1 h5) <| pn)

theorem k_names_place_Irb {a1 : List Api_Irb} {a2 : Int} {r : Bool} (h : names_place_Irb a1 a2 = some r) :
    CallsOK Try.prog UU 148 [.sl 68 a1, .v (.int .i64 a2)] [] (.v (.bool r)) [] := by
  unfold names_place_Irb at h
  rcases ite_out h with ⟨h3, h⟩ | ⟨h3, h⟩
  · injection h with h; subst h; exact runFn_sound mixedOrders Try.func148 rfl (keep := none) (π := [.dec true]) (hrun := by kernel_rfl) (hps := pc (h3) <| pn)
  · injection h with h; subst h; exact runFn_sound mixedOrders Try.func148 rfl (keep := none) (π := [.dec false]) (hrun := by kernel_rfl) (hps := pc (h3) <| pn)

theorem k_names_judge_bare {a1 : Names_judge} {a2 : Int} {a3 : Api_Domain} {r : Bool} (h : names_judge_bare a1 a2 a3 = some r) :
    CallsOK Try.prog UU 91 [.agg (c157 a1), .v (.int .i64 a2), .agg (c85 a3)] [] (.v (.bool r)) [] := by
  unfold names_judge_bare at h
  obtain ⟨r4, h5, h⟩ := bind_out h
  rcases ite_out h with ⟨h6, h⟩ | ⟨h6, h⟩
  · rcases ite_out h with ⟨h7, h⟩ | ⟨h7, h⟩
    · rcases ite_out h with ⟨h8, h⟩ | ⟨h8, h⟩
      · rcases ite_out h with ⟨h9, h⟩ | ⟨h9, h⟩
        · rcases ite_out h with ⟨h10, h⟩ | ⟨h10, h⟩
          · rcases ite_out h with ⟨h11, h⟩ | ⟨h11, h⟩
            · obtain ⟨r12, h13, h⟩ := bind_out h
              injection h with h; subst h; exact runFn_sound mixedOrders Try.func91 rfl (keep := none) (π := [.callv (.v (.bool r4)), .dec true, .dec true, .dec true, .dec true, .dec true, .dec true, .callv (.v (.int .i64 r12))]) (hrun := by kernel_rfl) (hps := pc (k_names_place_Device h5) <| pc (h6) <| pc (h7) <| pc (h8) <| pc (h9) <| pc (h10) <| pc (h11) <| pc (k_names_judge_domain h13) <| pn)
            · obtain ⟨r14, h15, h⟩ := bind_out h
              rcases ite_out h with ⟨h16, h⟩ | ⟨h16, h⟩
              · obtain ⟨x17, h18, h⟩ := bind_out h
                rcases ite_out h with ⟨h19, h⟩ | ⟨h19, h⟩
                · obtain ⟨r20, h21, h⟩ := bind_out h
                  injection h with h; subst h; exact runFn_sound mixedOrders Try.func91 rfl (keep := none) (π := [.callv (.v (.bool r4)), .dec true, .dec true, .dec true, .dec true, .dec true, .dec false, .callv (.v (.bool r14)), .dec true, .row (c68 x17), .dec true, .callv (.v (.int .i64 r20))]) (hrun := by kernel_rfl) (hps := pc (k_names_place_Device h5) <| pc (h6) <| pc (h7) <| pc (h8) <| pc (h9) <| pc (h10) <| pc (h11) <| pc (k_names_place_Irb h15) <| pc (h16) <| pc (ob68 h18) <| pc (h19) <| pc (k_names_judge_domain h21) <| pn)
                · injection h with h; subst h; exact runFn_sound mixedOrders Try.func91 rfl (keep := none) (π := [.callv (.v (.bool r4)), .dec true, .dec true, .dec true, .dec true, .dec true, .dec false, .callv (.v (.bool r14)), .dec true, .row (c68 x17), .dec false]) (hrun := by kernel_rfl) (hps := pc (k_names_place_Device h5) <| pc (h6) <| pc (h7) <| pc (h8) <| pc (h9) <| pc (h10) <| pc (h11) <| pc (k_names_place_Irb h15) <| pc (h16) <| pc (ob68 h18) <| pc (h19) <| pn)
              · injection h with h; subst h; exact runFn_sound mixedOrders Try.func91 rfl (keep := none) (π := [.callv (.v (.bool r4)), .dec true, .dec true, .dec true, .dec true, .dec true, .dec false, .callv (.v (.bool r14)), .dec false]) (hrun := by kernel_rfl) (hps := pc (k_names_place_Device h5) <| pc (h6) <| pc (h7) <| pc (h8) <| pc (h9) <| pc (h10) <| pc (h11) <| pc (k_names_place_Irb h15) <| pc (h16) <| pn)
          · injection h with h; subst h; exact runFn_sound mixedOrders Try.func91 rfl (keep := none) (π := [.callv (.v (.bool r4)), .dec true, .dec true, .dec true, .dec true, .dec false]) (hrun := by kernel_rfl) (hps := pc (k_names_place_Device h5) <| pc (h6) <| pc (h7) <| pc (h8) <| pc (h9) <| pc (h10) <| pn)
        · injection h with h; subst h; exact runFn_sound mixedOrders Try.func91 rfl (keep := none) (π := [.callv (.v (.bool r4)), .dec true, .dec true, .dec true, .dec false]) (hrun := by kernel_rfl) (hps := pc (k_names_place_Device h5) <| pc (h6) <| pc (h7) <| pc (h8) <| pc (h9) <| pn)
      · injection h with h; subst h; exact runFn_sound mixedOrders Try.func91 rfl (keep := none) (π := [.callv (.v (.bool r4)), .dec true, .dec true, .dec false]) (hrun := by kernel_rfl) (hps := pc (k_names_place_Device h5) <| pc (h6) <| pc (h7) <| pc (h8) <| pn)
    · injection h with h; subst h; exact runFn_sound mixedOrders Try.func91 rfl (keep := none) (π := [.callv (.v (.bool r4)), .dec true, .dec false]) (hrun := by kernel_rfl) (hps := pc (k_names_place_Device h5) <| pc (h6) <| pc (h7) <| pn)
  · injection h with h; subst h; exact runFn_sound mixedOrders Try.func91 rfl (keep := none) (π := [.callv (.v (.bool r4)), .dec false]) (hrun := by kernel_rfl) (hps := pc (k_names_place_Device h5) <| pc (h6) <| pn)

theorem k_names_all_Domain_judge_bare_L1 {a1 : List Api_Domain} {a2 : Names_judge} : LoopOK Try.prog UU 0 20 (subC (codeOf Try.f90) [1, 0, 1, 0, 0]) (ρ := Unit ⊕ Unit) (names_all_Domain_judge_bare_L1 a1 a2)
    (fun v3 : Int => ([(1, .fn (.func 91) [.agg (c157 a2)] []), (4, .v (.bool false)), (7, .sl 85 a1), (8, .v (.int .i64 (a1.length : Int))), (9, .v (.int .i64 v3))] : Fr DD)) (fun v3 : Int => ([] : Heap DD)) (fun r => match r with | Sum.inl _ => .ret | Sum.inr _ => .exit 0) (fun r => match r with | Sum.inl _ => [(4, .v (.bool false))] | Sum.inr _ => [(4, .v (.bool false))]) (fun r => match r with | Sum.inl _ => [] | Sum.inr _ => []) := by
  refine loop_sound3 (fun s q h => ?_) (fun r => ?_)
  · replace h : names_all_Domain_judge_bare_L1 a1 a2 s = some q := h; revert h; revert s; intro v3 h
    unfold names_all_Domain_judge_bare_L1 at h
    rcases ite_out h with ⟨h4, h⟩ | ⟨h4, h⟩
    · obtain ⟨x5, h6, h⟩ := bind_out h
      obtain ⟨r7, h8, h⟩ := bind_out h
      rcases ite_out h with ⟨h9, h⟩ | ⟨h9, h⟩
      · injection h with h; subst h; exact runLp_sound mixedOrders (live := [4]) (ids := []) (π := [.dec true, .row (c85 x5), .callv (.v (.bool r7)), .dec true]) (hx := by kernel_rfl) (hps := pc (h4) <| pc (ob85 h6) <| pc (k_names_judge_bare h8) <| pc (h9) <| pn)
      · injection h with h; subst h; exact runLp_sound mixedOrders (live := [1, 4, 7, 8, 9]) (ids := []) (π := [.dec true, .row (c85 x5), .callv (.v (.bool r7)), .dec false]) (hx := by kernel_rfl) (hps := pc (h4) <| pc (ob85 h6) <| pc (k_names_judge_bare h8) <| pc (h9) <| pn)
    · injection h with h; subst h; exact runLp_sound mixedOrders (live := [4]) (ids := []) (π := [.dec false]) (hx := by kernel_rfl) (hps := pc (h4) <| pn)
  · rcases r with _ | _ <;> exact Ex.noConfusion

theorem k_names_all_Domain_judge_bare {a1 : List Api_Domain} {a2 : Names_judge} {r : Bool} (h : names_all_Domain_judge_bare a1 a2 = some r) :
    CallsOK Try.prog UU 90 [.sl 85 a1, .fn (.func 91) [.agg (c157 a2)] []] [] (.v (.bool r)) [] := by
  unfold names_all_Domain_judge_bare at h
  obtain ⟨r11, h10, h⟩ := bind_out h
  rcases r11 with _ | _
  · injection h with h; subst h; exact runFn_sound mixedOrders Try.func90 rfl (keep := none) (π := [.sum [1, 4, 7, 8, 9] [] .ret [(4, .v (.bool false))] []]) (hrun := by kernel_rfl) (hps := pc (k_names_all_Domain_judge_bare_L1 _ _ h10) <| pn)
  · injection h with h; subst h; exact runFn_sound mixedOrders Try.func90 rfl (keep := none) (π := [.sum [1, 4, 7, 8, 9] [] (.exit 0) [(4, .v (.bool false))] []]) (hrun := by kernel_rfl) (hps := pc (k_names_all_Domain_judge_bare_L1 _ _ h10) <| pn)

theorem k_names_place_Domain {a1 : List Api_Domain} {a2 : Int} {r : Bool} (h : names_place_Domain a1 a2 = some r) :
    CallsOK Try.prog UU 155 [.sl 85 a1, .v (.int .i64 a2)] [] (.v (.bool r)) [] := by
  unfold names_place_Domain at h
  rcases ite_out h with ⟨h3, h⟩ | ⟨h3, h⟩
  · injection h with h; subst h; exact runFn_sound mixedOrders Try.func155 rfl (keep := none) (π := [.dec true]) (hrun := by kernel_rfl) (hps := pc (h3) <| pn)
  · injection h with h; subst h; exact runFn_sound mixedOrders Try.func155 rfl (keep := none) (π := [.dec false]) (hrun := by kernel_rfl) (hps := pc (h3) <| pn)

theorem k_names_judge_vtep {a1 : Names_judge} {a2 : Api_Domain} {r : Bool} (h : names_judge_vtep a1 a2 = some r) :
    CallsOK Try.prog UU 165 [.agg (c157 a1), .agg (c85 a2)] [] (.v (.bool r)) [] := by
  unfold names_judge_vtep at h
  obtain ⟨x3, h4, h⟩ := bind_out h
  injection h with h; subst h; exact runFn_sound mixedOrders Try.func165 rfl (keep := none) (π := [.row (c138 x3)]) (hrun := by kernel_rfl) (hps := pc (ob138 h4) <| pn)

theorem k_slices_Index_int_L1 {a1 : List Int} {a2 : Int} : LoopOK Try.prog UU 0 19 (subC (codeOf Try.f126) [1, 0, 1, 0, 0]) (ρ := Int ⊕ Unit) (slices_Index_int_L1 a1 a2)
    (fun v3 : Int => ([(0, .sl 3 a1), (1, .v (.int .i64 a2)), (4, .z), (7, .v (.int .i64 (a1.length : Int))), (8, .v (.int .i64 v3))] : Fr DD)) (fun v3 : Int => ([] : Heap DD)) (fun r => match r with | Sum.inl v9 => .ret | Sum.inr _ => .exit 0) (fun r => match r with | Sum.inl v9 => [(4, .v (.int .i64 v9))] | Sum.inr _ => [(4, .z)]) (fun r => match r with | Sum.inl v9 => [] | Sum.inr _ => []) := by
  refine loop_sound3 (fun s q h => ?_) (fun r => ?_)
  · replace h : slices_Index_int_L1 a1 a2 s = some q := h; revert h; revert s; intro v3 h
    unfold slices_Index_int_L1 at h
    rcases ite_out h with ⟨h4, h⟩ | ⟨h4, h⟩
    · obtain ⟨x5, h6, h⟩ := bind_out h
      rcases ite_out h with ⟨h7, h⟩ | ⟨h7, h⟩
      · injection h with h; subst h; exact runLp_sound mixedOrders (live := [4]) (ids := []) (π := [.dec true, .row (c3 x5), .dec true]) (hx := by kernel_rfl) (hps := pc (h4) <| pc (ob3 h6) <| pc (h7) <| pn)
      · injection h with h; subst h; exact runLp_sound mixedOrders (live := [0, 1, 4, 7, 8]) (ids := []) (π := [.dec true, .row (c3 x5), .dec false]) (hx := by kernel_rfl) (hps := pc (h4) <| pc (ob3 h6) <| pc (h7) <| pn)
    · injection h with h; subst h; exact runLp_sound mixedOrders (live := [4]) (ids := []) (π := [.dec false]) (hx := by kernel_rfl) (hps := pc (h4) <| pn)
  · rcases r with _ | _ <;> exact Ex.noConfusion

theorem k_slices_Index_int {a1 : List Int} {a2 : Int} {r : Int} (h : slices_Index_int a1 a2 = some r) :
    CallsOK Try.prog UU 126 [.sl 3 a1, .v (.int .i64 a2)] [] (.v (.int .i64 r)) [] := by
  unfold slices_Index_int at h
  obtain ⟨r11, h10, h⟩ := bind_out h
  rcases r11 with v9 | _
  · injection h with h; subst h; exact runFn_sound mixedOrders Try.func126 rfl (keep := none) (π := [.sum [0, 1, 4, 7, 8] [] .ret [(4, .v (.int .i64 v9))] []]) (hrun := by kernel_rfl) (hps := pc (k_slices_Index_int_L1 _ _ h10) <| pn)
  · injection h with h; subst h; exact runFn_sound mixedOrders Try.func126 rfl (keep := none) (π := [.sum [0, 1, 4, 7, 8] [] (.exit 0) [(4, .z)] []]) (hrun := by kernel_rfl) (hps := pc (k_slices_Index_int_L1 _ _ h10) <| pn)

theorem k_slices_Contains_int {a1 : List Int} {a2 : Int} {r : Bool} (h : slices_Contains_int a1 a2 = some r) :
    CallsOK Try.prog UU 68 [.sl 3 a1, .v (.int .i64 a2)] [] (.v (.bool r)) [] := by
  unfold slices_Contains_int at h
  obtain ⟨r3, h4, h⟩ := bind_out h
  injection h with h; subst h; exact runFn_sound mixedOrders Try.func68 rfl (keep := none) (π := [.callv (.v (.int .i64 r3))]) (hrun := by kernel_rfl) (hps := pc (k_slices_Index_int h4) <| pn)

theorem k_names_judge_peer {a1 : Names_judge} {a2 : Int} {a3 : Api_Domain} {a4 : Int} {r : Bool} (h : names_judge_peer a1 a2 a3 a4 = some r) :
    CallsOK Try.prog UU 152 [.agg (c157 a1), .v (.int .i64 a2), .agg (c85 a3), .v (.int .i64 a4)] [] (.v (.bool r)) [] := by
  unfold names_judge_peer at h
  obtain ⟨r5, h6, h⟩ := bind_out h
  rcases ite_out h with ⟨h7, h⟩ | ⟨h7, h⟩
  · injection h with h; subst h; exact runFn_sound mixedOrders Try.func152 rfl (keep := none) (π := [.callv (.v (.bool r5)), .dec true]) (hrun := by kernel_rfl) (hps := pc (k_names_place_Domain h6) <| pc (h7) <| pn)
  · rcases ite_out h with ⟨h8, h⟩ | ⟨h8, h⟩
    · injection h with h; subst h; exact runFn_sound mixedOrders Try.func152 rfl (keep := none) (π := [.callv (.v (.bool r5)), .dec false, .dec true]) (hrun := by kernel_rfl) (hps := pc (k_names_place_Domain h6) <| pc (h7) <| pc (h8) <| pn)
    · obtain ⟨x9, h10, h⟩ := bind_out h
      obtain ⟨r11, h12, h⟩ := bind_out h
      rcases ite_out h with ⟨h13, h⟩ | ⟨h13, h⟩
      · rcases ite_out h with ⟨h14, h⟩ | ⟨h14, h⟩
        · rcases ite_out h with ⟨h15, h⟩ | ⟨h15, h⟩
          · rcases ite_out h with ⟨h16, h⟩ | ⟨h16, h⟩
            · obtain ⟨r17, h18, h⟩ := bind_out h
              rcases ite_out h with ⟨h19, h⟩ | ⟨h19, h⟩
              · obtain ⟨r20, h21, h⟩ := bind_out h
                rcases ite_out h with ⟨h22, h⟩ | ⟨h22, h⟩
                · obtain ⟨r23, h24, h⟩ := bind_out h
                  injection h with h; subst h; exact runFn_sound mixedOrders Try.func152 rfl (keep := none) (π := [.callv (.v (.bool r5)), .dec false, .dec false, .row (c85 x9), .callv (.v (.bool r11)), .dec true, .dec true, .dec true, .dec true, .callv (.v (.bool r17)), .dec true, .callv (.v (.bool r20)), .dec true, .callv (.v (.bool r23))]) (hrun := by kernel_rfl) (hps := pc (k_names_place_Domain h6) <| pc (h7) <| pc (h8) <| pc (ob85 h10) <| pc (k_names_place_Device h12) <| pc (h13) <| pc (h14) <| pc (h15) <| pc (h16) <| pc (k_names_judge_vtep h18) <| pc (h19) <| pc (k_names_judge_vtep h21) <| pc (h22) <| pc (k_slices_Contains_int h24) <| pn)
                · injection h with h; subst h; exact runFn_sound mixedOrders Try.func152 rfl (keep := none) (π := [.callv (.v (.bool r5)), .dec false, .dec false, .row (c85 x9), .callv (.v (.bool r11)), .dec true, .dec true, .dec true, .dec true, .callv (.v (.bool r17)), .dec true, .callv (.v (.bool r20)), .dec false]) (hrun := by kernel_rfl) (hps := pc (k_names_place_Domain h6) <| pc (h7) <| pc (h8) <| pc (ob85 h10) <| pc (k_names_place_Device h12) <| pc (h13) <| pc (h14) <| pc (h15) <| pc (h16) <| pc (k_names_judge_vtep h18) <| pc (h19) <| pc (k_names_judge_vtep h21) <| pc (h22) <| pn)
              · injection h with h; subst h; exact runFn_sound mixedOrders Try.func152 rfl (keep := none) (π := [.callv (.v (.bool r5)), .dec false, .dec false, .row (c85 x9), .callv (.v (.bool r11)), .dec true, .dec true, .dec true, .dec true, .callv (.v (.bool r17)), .dec false]) (hrun := by kernel_rfl) (hps := pc (k_names_place_Domain h6) <| pc (h7) <| pc (h8) <| pc (ob85 h10) <| pc (k_names_place_Device h12) <| pc (h13) <| pc (h14) <| pc (h15) <| pc (h16) <| pc (k_names_judge_vtep h18) <| pc (h19) <| pn)
            · injection h with h; subst h; exact runFn_sound mixedOrders Try.func152 rfl (keep := none) (π := [.callv (.v (.bool r5)), .dec false, .dec false, .row (c85 x9), .callv (.v (.bool r11)), .dec true, .dec true, .dec true, .dec false]) (hrun := by kernel_rfl) (hps := pc (k_names_place_Domain h6) <| pc (h7) <| pc (h8) <| pc (ob85 h10) <| pc (k_names_place_Device h12) <| pc (h13) <| pc (h14) <| pc (h15) <| pc (h16) <| pn)
          · injection h with h; subst h; exact runFn_sound mixedOrders Try.func152 rfl (keep := none) (π := [.callv (.v (.bool r5)), .dec false, .dec false, .row (c85 x9), .callv (.v (.bool r11)), .dec true, .dec true, .dec false]) (hrun := by kernel_rfl) (hps := pc (k_names_place_Domain h6) <| pc (h7) <| pc (h8) <| pc (ob85 h10) <| pc (k_names_place_Device h12) <| pc (h13) <| pc (h14) <| pc (h15) <| pn)
        · injection h with h; subst h; exact runFn_sound mixedOrders Try.func152 rfl (keep := none) (π := [.callv (.v (.bool r5)), .dec false, .dec false, .row (c85 x9), .callv (.v (.bool r11)), .dec true, .dec false]) (hrun := by kernel_rfl) (hps := pc (k_names_place_Domain h6) <| pc (h7) <| pc (h8) <| pc (ob85 h10) <| pc (k_names_place_Device h12) <| pc (h13) <| pc (h14) <| pn)
      · injection h with h; subst h; exact runFn_sound mixedOrders Try.func152 rfl (keep := none) (π := [.callv (.v (.bool r5)), .dec false, .dec false, .row (c85 x9), .callv (.v (.bool r11)), .dec false]) (hrun := by kernel_rfl) (hps := pc (k_names_place_Domain h6) <| pc (h7) <| pc (h8) <| pc (ob85 h10) <| pc (k_names_place_Device h12) <| pc (h13) <| pn)

theorem k_names_judge_peers_1 {a1 : Int} {a2 : Int} {a3 : Names_judge} {a4 : Int} {a5 : Api_Domain} {r : Bool} (h : names_judge_peers_1 a1 a2 a3 a4 a5 = some r) :
    CallsOK Try.prog UU 151 [.v (.int .i64 a1), .v (.int .i64 a2), .rp (c157 a3) 0, .rp (c3 a4) 0, .rp (c85 a5) 0] [] (.v (.bool r)) [] := by
  unfold names_judge_peers_1 at h
  obtain ⟨r6, h7, h⟩ := bind_out h
  rcases ite_out h with ⟨h8, h⟩ | ⟨h8, h⟩
  · obtain ⟨r9, h10, h⟩ := bind_out h
    injection h with h; subst h; exact runFn_sound mixedOrders Try.func151 rfl (keep := none) (π := [.callv (.v (.bool r6)), .dec true, .callv (.v (.int .i64 r9))]) (hrun := by kernel_rfl) (hps := pc (k_names_judge_peer h7) <| pc (h8) <| pc (k_slices_Index_int h10) <| pn)
  · injection h with h; subst h; exact runFn_sound mixedOrders Try.func151 rfl (keep := none) (π := [.callv (.v (.bool r6)), .dec false]) (hrun := by kernel_rfl) (hps := pc (k_names_judge_peer h7) <| pc (h8) <| pn)

theorem k_names_all_int_judge_peers_1_L1 {a1 : List Int} {a2 : Names_judge} {a3 : Int} {a4 : Api_Domain} : LoopOK Try.prog UU 0 20 (subC (codeOf Try.f150) [1, 0, 1, 0, 0]) (ρ := Unit ⊕ Unit) (names_all_int_judge_peers_1_L1 a1 a2 a3 a4)
    (fun v5 : Int => ([(1, .fn (.func 151) [] [.rp (c157 a2) 0, .rp (c3 a3) 0, .rp (c85 a4) 0]), (4, .v (.bool false)), (7, .sl 3 a1), (8, .v (.int .i64 (a1.length : Int))), (9, .v (.int .i64 v5))] : Fr DD)) (fun v5 : Int => ([] : Heap DD)) (fun r => match r with | Sum.inl _ => .ret | Sum.inr _ => .exit 0) (fun r => match r with | Sum.inl _ => [(4, .v (.bool false))] | Sum.inr _ => [(4, .v (.bool false))]) (fun r => match r with | Sum.inl _ => [] | Sum.inr _ => []) := by
  refine loop_sound3 (fun s q h => ?_) (fun r => ?_)
  · replace h : names_all_int_judge_peers_1_L1 a1 a2 a3 a4 s = some q := h; revert h; revert s; intro v5 h
    unfold names_all_int_judge_peers_1_L1 at h
    rcases ite_out h with ⟨h6, h⟩ | ⟨h6, h⟩
    · obtain ⟨x7, h8, h⟩ := bind_out h
      obtain ⟨r9, h10, h⟩ := bind_out h
      rcases ite_out h with ⟨h11, h⟩ | ⟨h11, h⟩
      · injection h with h; subst h; exact runLp_sound mixedOrders (live := [4]) (ids := []) (π := [.dec true, .row (c3 x7), .callv (.v (.bool r9)), .dec true]) (hx := by kernel_rfl) (hps := pc (h6) <| pc (ob3 h8) <| pc (k_names_judge_peers_1 h10) <| pc (h11) <| pn)
      · injection h with h; subst h; exact runLp_sound mixedOrders (live := [1, 4, 7, 8, 9]) (ids := []) (π := [.dec true, .row (c3 x7), .callv (.v (.bool r9)), .dec false]) (hx := by kernel_rfl) (hps := pc (h6) <| pc (ob3 h8) <| pc (k_names_judge_peers_1 h10) <| pc (h11) <| pn)
    · injection h with h; subst h; exact runLp_sound mixedOrders (live := [4]) (ids := []) (π := [.dec false]) (hx := by kernel_rfl) (hps := pc (h6) <| pn)
  · rcases r with _ | _ <;> exact Ex.noConfusion

theorem k_names_all_int_judge_peers_1 {a1 : List Int} {a2 : Names_judge} {a3 : Int} {a4 : Api_Domain} {r : Bool} (h : names_all_int_judge_peers_1 a1 a2 a3 a4 = some r) :
    CallsOK Try.prog UU 150 [.sl 3 a1, .fn (.func 151) [] [.rp (c157 a2) 0, .rp (c3 a3) 0, .rp (c85 a4) 0]] [] (.v (.bool r)) [] := by
  unfold names_all_int_judge_peers_1 at h
  obtain ⟨r13, h12, h⟩ := bind_out h
  rcases r13 with _ | _
  · injection h with h; subst h; exact runFn_sound mixedOrders Try.func150 rfl (keep := none) (π := [.sum [1, 4, 7, 8, 9] [] .ret [(4, .v (.bool false))] []]) (hrun := by kernel_rfl) (hps := pc (k_names_all_int_judge_peers_1_L1 _ _ h12) <| pn)
  · injection h with h; subst h; exact runFn_sound mixedOrders Try.func150 rfl (keep := none) (π := [.sum [1, 4, 7, 8, 9] [] (.exit 0) [(4, .v (.bool false))] []]) (hrun := by kernel_rfl) (hps := pc (k_names_all_int_judge_peers_1_L1 _ _ h12) <| pn)

theorem k_names_judge_peers {a1 : Names_judge} {a2 : Int} {a3 : Api_Domain} {r : Bool} (h : names_judge_peers a1 a2 a3 = some r) :
    CallsOK Try.prog UU 92 [.agg (c157 a1), .v (.int .i64 a2), .agg (c85 a3)] [] (.v (.bool r)) [] := by
  unfold names_judge_peers at h
  obtain ⟨r4, h5, h⟩ := bind_out h
  injection h with h; subst h; exact runFn_sound mixedOrders Try.func92 rfl (keep := none) (π := [.callv (.v (.bool r4))]) (hrun := by kernel_rfl) (hps := pc (k_names_all_int_judge_peers_1 h5) <| pn)

theorem k_names_all_Domain_judge_peers_L1 {a1 : List Api_Domain} {a2 : Names_judge} : LoopOK Try.prog UU 0 20 (subC (codeOf Try.f90) [1, 0, 1, 0, 0]) (ρ := Unit ⊕ Unit) (names_all_Domain_judge_peers_L1 a1 a2)
    (fun v3 : Int => ([(1, .fn (.func 92) [.agg (c157 a2)] []), (4, .v (.bool false)), (7, .sl 85 a1), (8, .v (.int .i64 (a1.length : Int))), (9, .v (.int .i64 v3))] : Fr DD)) (fun v3 : Int => ([] : Heap DD)) (fun r => match r with | Sum.inl _ => .ret | Sum.inr _ => .exit 0) (fun r => match r with | Sum.inl _ => [(4, .v (.bool false))] | Sum.inr _ => [(4, .v (.bool false))]) (fun r => match r with | Sum.inl _ => [] | Sum.inr _ => []) := by
  refine loop_sound3 (fun s q h => ?_) (fun r => ?_)
  · replace h : names_all_Domain_judge_peers_L1 a1 a2 s = some q := h; revert h; revert s; intro v3 h
    unfold names_all_Domain_judge_peers_L1 at h
    rcases ite_out h with ⟨h4, h⟩ | ⟨h4, h⟩
    · obtain ⟨x5, h6, h⟩ := bind_out h
      obtain ⟨r7, h8, h⟩ := bind_out h
      rcases ite_out h with ⟨h9, h⟩ | ⟨h9, h⟩
      · injection h with h; subst h; exact runLp_sound mixedOrders (live := [4]) (ids := []) (π := [.dec true, .row (c85 x5), .callv (.v (.bool r7)), .dec true]) (hx := by kernel_rfl) (hps := pc (h4) <| pc (ob85 h6) <| pc (k_names_judge_peers h8) <| pc (h9) <| pn)
      · injection h with h; subst h; exact runLp_sound mixedOrders (live := [1, 4, 7, 8, 9]) (ids := []) (π := [.dec true, .row (c85 x5), .callv (.v (.bool r7)), .dec false]) (hx := by kernel_rfl) (hps := pc (h4) <| pc (ob85 h6) <| pc (k_names_judge_peers h8) <| pc (h9) <| pn)
    · injection h with h; subst h; exact runLp_sound mixedOrders (live := [4]) (ids := []) (π := [.dec false]) (hx := by kernel_rfl) (hps := pc (h4) <| pn)
  · rcases r with _ | _ <;> exact Ex.noConfusion

theorem k_names_all_Domain_judge_peers {a1 : List Api_Domain} {a2 : Names_judge} {r : Bool} (h : names_all_Domain_judge_peers a1 a2 = some r) :
    CallsOK Try.prog UU 90 [.sl 85 a1, .fn (.func 92) [.agg (c157 a2)] []] [] (.v (.bool r)) [] := by
  unfold names_all_Domain_judge_peers at h
  obtain ⟨r11, h10, h⟩ := bind_out h
  rcases r11 with _ | _
  · injection h with h; subst h; exact runFn_sound mixedOrders Try.func90 rfl (keep := none) (π := [.sum [1, 4, 7, 8, 9] [] .ret [(4, .v (.bool false))] []]) (hrun := by kernel_rfl) (hps := pc (k_names_all_Domain_judge_peers_L1 _ _ h10) <| pn)
  · injection h with h; subst h; exact runFn_sound mixedOrders Try.func90 rfl (keep := none) (π := [.sum [1, 4, 7, 8, 9] [] (.exit 0) [(4, .v (.bool false))] []]) (hrun := by kernel_rfl) (hps := pc (k_names_all_Domain_judge_peers_L1 _ _ h10) <| pn)

theorem k_num_Rising_L1 {a1 : List Int} {a2 : Int} {a3 : Int} : LoopOK Try.prog UU 0 46 (subC (codeOf Try.f156) [1, 0, 1, 0, 0]) (ρ := Unit ⊕ Unit) (num_Rising_L1 a1 a2 a3)
    (fun v4 : Int => ([(0, .sl 3 a1), (1, .v (.int .i64 a2)), (2, .v (.int .i64 a3)), (6, .v (.bool false)), (9, .sl 3 a1), (10, .v (.int .i64 (a1.length : Int))), (11, .v (.int .i64 v4))] : Fr DD)) (fun v4 : Int => ([] : Heap DD)) (fun r => match r with | Sum.inl _ => .ret | Sum.inr _ => .exit 0) (fun r => match r with | Sum.inl _ => [(6, .v (.bool false))] | Sum.inr _ => [(0, .sl 3 a1), (6, .v (.bool false))]) (fun r => match r with | Sum.inl _ => [] | Sum.inr _ => []) := by
  refine loop_sound3 (fun s q h => ?_) (fun r => ?_)
  · replace h : num_Rising_L1 a1 a2 a3 s = some q := h; revert h; revert s; intro v4 h
    unfold num_Rising_L1 at h
    rcases ite_out h with ⟨h5, h⟩ | ⟨h5, h⟩
    · obtain ⟨x6, h7, h⟩ := bind_out h
      rcases ite_out h with ⟨h8, h⟩ | ⟨h8, h⟩
      · injection h with h; subst h; exact runLp_sound mixedOrders (live := [6]) (ids := []) (π := [.dec true, .row (c3 x6), .dec true]) (hx := by kernel_rfl) (hps := pc (h5) <| pc (ob3 h7) <| pc (h8) <| pn)
      · rcases ite_out h with ⟨h9, h⟩ | ⟨h9, h⟩
        · injection h with h; subst h; exact runLp_sound mixedOrders (live := [6]) (ids := []) (π := [.dec true, .row (c3 x6), .dec false, .dec true]) (hx := by kernel_rfl) (hps := pc (h5) <| pc (ob3 h7) <| pc (h8) <| pc (h9) <| pn)
        · rcases ite_out h with ⟨h10, h⟩ | ⟨h10, h⟩
          · obtain ⟨x11, h12, h⟩ := bind_out h
            rcases ite_out h with ⟨h13, h⟩ | ⟨h13, h⟩
            · injection h with h; subst h; exact runLp_sound mixedOrders (live := [6]) (ids := []) (π := [.dec true, .row (c3 x6), .dec false, .dec false, .dec true, .row (c3 x11), .dec true]) (hx := by kernel_rfl) (hps := pc (h5) <| pc (ob3 h7) <| pc (h8) <| pc (h9) <| pc (h10) <| pc (ob3 h12) <| pc (h13) <| pn)
            · injection h with h; subst h; exact runLp_sound mixedOrders (live := [0, 1, 2, 6, 9, 10, 11]) (ids := []) (π := [.dec true, .row (c3 x6), .dec false, .dec false, .dec true, .row (c3 x11), .dec false]) (hx := by kernel_rfl) (hps := pc (h5) <| pc (ob3 h7) <| pc (h8) <| pc (h9) <| pc (h10) <| pc (ob3 h12) <| pc (h13) <| pn)
          · injection h with h; subst h; exact runLp_sound mixedOrders (live := [0, 1, 2, 6, 9, 10, 11]) (ids := []) (π := [.dec true, .row (c3 x6), .dec false, .dec false, .dec false]) (hx := by kernel_rfl) (hps := pc (h5) <| pc (ob3 h7) <| pc (h8) <| pc (h9) <| pc (h10) <| pn)
    · injection h with h; subst h; exact runLp_sound mixedOrders (live := [0, 6]) (ids := []) (π := [.dec false]) (hx := by kernel_rfl) (hps := pc (h5) <| pn)
  · rcases r with _ | _ <;> exact Ex.noConfusion

theorem k_num_Rising {a1 : List Int} {a2 : Int} {a3 : Int} {r : Bool} (h : num_Rising a1 a2 a3 = some r) :
    CallsOK Try.prog UU 156 [.sl 3 a1, .v (.int .i64 a2), .v (.int .i64 a3)] [] (.v (.bool r)) [] := by
  unfold num_Rising at h
  obtain ⟨r15, h14, h⟩ := bind_out h
  rcases r15 with _ | _
  · injection h with h; subst h; exact runFn_sound mixedOrders Try.func156 rfl (keep := none) (π := [.sum [0, 1, 2, 6, 9, 10, 11] [] .ret [(6, .v (.bool false))] []]) (hrun := by kernel_rfl) (hps := pc (k_num_Rising_L1 _ _ h14) <| pn)
  · rcases ite_out h with ⟨h16, h⟩ | ⟨h16, h⟩
    · injection h with h; subst h; exact runFn_sound mixedOrders Try.func156 rfl (keep := none) (π := [.sum [0, 1, 2, 6, 9, 10, 11] [] (.exit 0) [(0, .sl 3 a1), (6, .v (.bool false))] [], .dec true]) (hrun := by kernel_rfl) (hps := pc (k_num_Rising_L1 _ _ h14) <| pc (h16) <| pn)
    · injection h with h; subst h; exact runFn_sound mixedOrders Try.func156 rfl (keep := none) (π := [.sum [0, 1, 2, 6, 9, 10, 11] [] (.exit 0) [(0, .sl 3 a1), (6, .v (.bool false))] [], .dec false]) (hrun := by kernel_rfl) (hps := pc (k_num_Rising_L1 _ _ h14) <| pc (h16) <| pn)

theorem k_names_rising {a1 : List Int} {a2 : Int} {r : Bool} (h : names_rising a1 a2 = some r) :
    CallsOK Try.prog UU 104 [.sl 3 a1, .v (.int .i64 a2)] [] (.v (.bool r)) [] := by
  unfold names_rising at h
  rcases ite_out h with ⟨h3, h⟩ | ⟨h3, h⟩
  · injection h with h; subst h; exact runFn_sound mixedOrders Try.func104 rfl (keep := none) (π := [.dec true]) (hrun := by kernel_rfl) (hps := pc (h3) <| pn)
  · obtain ⟨r4, h5, h⟩ := bind_out h
    injection h with h; subst h; exact runFn_sound mixedOrders Try.func104 rfl (keep := none) (π := [.dec false, .callv (.v (.bool r4))]) (hrun := by kernel_rfl) (hps := pc (h3) <| pc (k_num_Rising h5) <| pn)

theorem k_names_place_Link {a1 : List Api_Link} {a2 : Int} {r : Bool} (h : names_place_Link a1 a2 = some r) :
    CallsOK Try.prog UU 153 [.sl 153 a1, .v (.int .i64 a2)] [] (.v (.bool r)) [] := by
  unfold names_place_Link at h
  rcases ite_out h with ⟨h3, h⟩ | ⟨h3, h⟩
  · injection h with h; subst h; exact runFn_sound mixedOrders Try.func153 rfl (keep := none) (π := [.dec true]) (hrun := by kernel_rfl) (hps := pc (h3) <| pn)
  · injection h with h; subst h; exact runFn_sound mixedOrders Try.func153 rfl (keep := none) (π := [.dec false]) (hrun := by kernel_rfl) (hps := pc (h3) <| pn)

theorem k_names_judge_port_J1 {a1 : Names_judge} {a2 : Int} {a3 : Api_Port} {r : Unit ⊕ Unit} (h : names_judge_port_J1 a1 a2 a3 = some r) :
    ExecOK Try.prog UU 0 111 (subC (codeOf Try.f94) [1, 0]) [(1, .v (.int .i64 a2)), (3, .op 0 1 0 0), (5, .op 1 1 0 0), (6, .v (.bool false))] [.box 157 (c157 a1) false, .box 96 (c96 a3) false] ((fun r => match r with | Sum.inl _ => .ret | Sum.inr _ => .nor) r) ((fun r => match r with | Sum.inl _ => [(6, .v (.bool false))] | Sum.inr _ => [(1, .v (.int .i64 a2)), (3, .op 0 1 0 0), (5, .op 1 1 0 0), (6, .v (.bool false))]) r) ((fun r => match r with | Sum.inl _ => [] | Sum.inr _ => [.box 157 (c157 a1) false, .box 96 (c96 a3) false]) r) := by
  unfold names_judge_port_J1 at h
  obtain ⟨r4, h5, h⟩ := bind_out h
  rcases ite_out h with ⟨h6, h⟩ | ⟨h6, h⟩
  · injection h with h; subst h; exact runLp_sound mixedOrders (live := [6]) (ids := []) (π := [.callv (.v (.bool r4)), .dec true]) (hx := by kernel_rfl) (hps := pc (k_names_place_Device h5) <| pc (h6) <| pn)
  · rcases ite_out h with ⟨h7, h⟩ | ⟨h7, h⟩
    · injection h with h; subst h; exact runLp_sound mixedOrders (live := [6]) (ids := []) (π := [.callv (.v (.bool r4)), .dec false, .dec true]) (hx := by kernel_rfl) (hps := pc (k_names_place_Device h5) <| pc (h6) <| pc (h7) <| pn)
    · rcases ite_out h with ⟨h8, h⟩ | ⟨h8, h⟩
      · injection h with h; subst h; exact runLp_sound mixedOrders (live := [6]) (ids := []) (π := [.callv (.v (.bool r4)), .dec false, .dec false, .dec true]) (hx := by kernel_rfl) (hps := pc (k_names_place_Device h5) <| pc (h6) <| pc (h7) <| pc (h8) <| pn)
      · obtain ⟨r9, h10, h⟩ := bind_out h
        rcases ite_out h with ⟨h11, h⟩ | ⟨h11, h⟩
        · injection h with h; subst h; exact runLp_sound mixedOrders (live := [6]) (ids := []) (π := [.callv (.v (.bool r4)), .dec false, .dec false, .dec false, .callv (.v (.bool r9)), .dec true]) (hx := by kernel_rfl) (hps := pc (k_names_place_Device h5) <| pc (h6) <| pc (h7) <| pc (h8) <| pc (k_names_rising h10) <| pc (h11) <| pn)
        · obtain ⟨r12, h13, h⟩ := bind_out h
          rcases ite_out h with ⟨h14, h⟩ | ⟨h14, h⟩
          · injection h with h; subst h; exact runLp_sound mixedOrders (live := [6]) (ids := []) (π := [.callv (.v (.bool r4)), .dec false, .dec false, .dec false, .callv (.v (.bool r9)), .dec false, .callv (.v (.bool r12)), .dec true]) (hx := by kernel_rfl) (hps := pc (k_names_place_Device h5) <| pc (h6) <| pc (h7) <| pc (h8) <| pc (k_names_rising h10) <| pc (h11) <| pc (k_slices_Contains_int h13) <| pc (h14) <| pn)
          · rcases ite_out h with ⟨h15, h⟩ | ⟨h15, h⟩
            · rcases ite_out h with ⟨h16, h⟩ | ⟨h16, h⟩
              · injection h with h; subst h; exact runLp_sound mixedOrders (live := [6]) (ids := []) (π := [.callv (.v (.bool r4)), .dec false, .dec false, .dec false, .callv (.v (.bool r9)), .dec false, .callv (.v (.bool r12)), .dec false, .dec true, .dec true]) (hx := by kernel_rfl) (hps := pc (k_names_place_Device h5) <| pc (h6) <| pc (h7) <| pc (h8) <| pc (k_names_rising h10) <| pc (h11) <| pc (k_slices_Contains_int h13) <| pc (h14) <| pc (h15) <| pc (h16) <| pn)
              · injection h with h; subst h; exact runLp_sound mixedOrders (live := [1, 3, 5, 6]) (ids := [0, 1]) (π := [.callv (.v (.bool r4)), .dec false, .dec false, .dec false, .callv (.v (.bool r9)), .dec false, .callv (.v (.bool r12)), .dec false, .dec true, .dec false]) (hx := by kernel_rfl) (hps := pc (k_names_place_Device h5) <| pc (h6) <| pc (h7) <| pc (h8) <| pc (k_names_rising h10) <| pc (h11) <| pc (k_slices_Contains_int h13) <| pc (h14) <| pc (h15) <| pc (h16) <| pn)
            · injection h with h; subst h; exact runLp_sound mixedOrders (live := [1, 3, 5, 6]) (ids := [0, 1]) (π := [.callv (.v (.bool r4)), .dec false, .dec false, .dec false, .callv (.v (.bool r9)), .dec false, .callv (.v (.bool r12)), .dec false, .dec false]) (hx := by kernel_rfl) (hps := pc (k_names_place_Device h5) <| pc (h6) <| pc (h7) <| pc (h8) <| pc (k_names_rising h10) <| pc (h11) <| pc (k_slices_Contains_int h13) <| pc (h14) <| pc (h15) <| pn)

theorem k_names_judge_port_L2 {a1 : Names_judge} {a2 : Int} {a3 : Api_Port} : LoopOK Try.prog UU 0 111 (subC (codeOf Try.f94) [1, 1, 0, 1, 0, 0]) (ρ := Unit ⊕ Unit) (names_judge_port_L2 a1 a2 a3)
    (fun v19 : Int => ([(1, .v (.int .i64 a2)), (3, .op 0 1 0 0), (5, .op 1 1 0 0), (6, .v (.bool false)), (51, .sl 3 a3.tagged), (52, .v (.int .i64 (a3.tagged.length : Int))), (53, .v (.int .i64 v19))] : Fr DD)) (fun v19 : Int => ([.box 157 (c157 a1) false, .box 96 (c96 a3) false] : Heap DD)) (fun r => match r with | Sum.inl _ => .ret | Sum.inr _ => .exit 0) (fun r => match r with | Sum.inl _ => [(6, .v (.bool false))] | Sum.inr _ => [(1, .v (.int .i64 a2)), (3, .op 0 1 0 0), (5, .op 1 1 0 0), (6, .v (.bool false))]) (fun r => match r with | Sum.inl _ => [] | Sum.inr _ => [.box 157 (c157 a1) false, .box 96 (c96 a3) false]) := by
  refine loop_sound3 (fun s q h => ?_) (fun r => ?_)
  · replace h : names_judge_port_L2 a1 a2 a3 s = some q := h; revert h; revert s; intro v19 h
    unfold names_judge_port_L2 at h
    rcases ite_out h with ⟨h20, h⟩ | ⟨h20, h⟩
    · obtain ⟨x21, h22, h⟩ := bind_out h
      obtain ⟨r23, h24, h⟩ := bind_out h
      rcases ite_out h with ⟨h25, h⟩ | ⟨h25, h⟩
      · injection h with h; subst h; exact runLp_sound mixedOrders (live := [6]) (ids := []) (π := [.dec true, .row (c3 x21), .callv (.v (.int .i64 r23)), .dec true]) (hx := by kernel_rfl) (hps := pc (h20) <| pc (ob3 h22) <| pc (k_names_judge_domain h24) <| pc (h25) <| pn)
      · injection h with h; subst h; exact runLp_sound mixedOrders (live := [1, 3, 5, 6, 51, 52, 53]) (ids := [0, 1]) (π := [.dec true, .row (c3 x21), .callv (.v (.int .i64 r23)), .dec false]) (hx := by kernel_rfl) (hps := pc (h20) <| pc (ob3 h22) <| pc (k_names_judge_domain h24) <| pc (h25) <| pn)
    · injection h with h; subst h; exact runLp_sound mixedOrders (live := [1, 3, 5, 6]) (ids := [0, 1]) (π := [.dec false]) (hx := by kernel_rfl) (hps := pc (h20) <| pn)
  · rcases r with _ | _ <;> exact Ex.noConfusion

theorem k_names_judge_port_J3 {a1 : Names_judge} {a2 : Int} {a3 : Api_Port} {r : Unit ⊕ Unit} (h : names_judge_port_J3 a1 a2 a3 = some r) :
    ExecOK Try.prog UU 0 111 (subC (codeOf Try.f94) [1, 1, 1, 0]) [(1, .v (.int .i64 a2)), (3, .op 0 1 0 0), (5, .op 1 1 0 0), (6, .v (.bool false))] [.box 157 (c157 a1) false, .box 96 (c96 a3) false] ((fun r => match r with | Sum.inl _ => .ret | Sum.inr _ => .nor) r) ((fun r => match r with | Sum.inl _ => [(6, .v (.bool false))] | Sum.inr _ => [(1, .v (.int .i64 a2)), (3, .op 0 1 0 0), (5, .op 1 1 0 0), (6, .v (.bool false))]) r) ((fun r => match r with | Sum.inl _ => [] | Sum.inr _ => [.box 157 (c157 a1) false, .box 96 (c96 a3) false]) r) := by
  unfold names_judge_port_J3 at h
  rcases ite_out h with ⟨h28, h⟩ | ⟨h28, h⟩
  · obtain ⟨r29, h30, h⟩ := bind_out h
    rcases ite_out h with ⟨h31, h⟩ | ⟨h31, h⟩
    · injection h with h; subst h; exact runLp_sound mixedOrders (live := [6]) (ids := []) (π := [.dec true, .callv (.v (.int .i64 r29)), .dec true]) (hx := by kernel_rfl) (hps := pc (h28) <| pc (k_names_judge_domain h30) <| pc (h31) <| pn)
    · injection h with h; subst h; exact runLp_sound mixedOrders (live := [1, 3, 5, 6]) (ids := [0, 1]) (π := [.dec true, .callv (.v (.int .i64 r29)), .dec false]) (hx := by kernel_rfl) (hps := pc (h28) <| pc (k_names_judge_domain h30) <| pc (h31) <| pn)
  · injection h with h; subst h; exact runLp_sound mixedOrders (live := [1, 3, 5, 6]) (ids := [0, 1]) (π := [.dec false]) (hx := by kernel_rfl) (hps := pc (h28) <| pn)

theorem k_names_judge_port {a1 : Names_judge} {a2 : Int} {a3 : Api_Port} {r : Bool} (h : names_judge_port a1 a2 a3 = some r) :
    CallsOK Try.prog UU 94 [.agg (c157 a1), .v (.int .i64 a2), .agg (c96 a3)] [] (.v (.bool r)) [] := by
  unfold names_judge_port at h
  obtain ⟨r18, h17, h⟩ := bind_out h
  rcases r18 with _ | _
  · injection h with h; subst h; exact runFn_sound mixedOrders Try.func94 rfl (keep := none) (π := [.skp, .cut [1, 3, 5, 6] [0, 1] .ret [(6, .v (.bool false))] []]) (hrun := by kernel_rfl) (hps := pc (k_names_judge_port_J1 h17) <| pn)
  · obtain ⟨r27, h26, h⟩ := bind_out h
    rcases r27 with _ | _
    · injection h with h; subst h; exact runFn_sound mixedOrders Try.func94 rfl (keep := none) (π := [.skp, .cut [1, 3, 5, 6] [0, 1] .nor [(1, .v (.int .i64 a2)), (3, .op 0 1 0 0), (5, .op 1 1 0 0), (6, .v (.bool false))] [.box 157 (c157 a1) false, .box 96 (c96 a3) false], .sum [1, 3, 5, 6, 51, 52, 53] [0, 1] .ret [(6, .v (.bool false))] []]) (hrun := by kernel_rfl) (hps := pc (k_names_judge_port_J1 h17) <| pc (k_names_judge_port_L2 _ _ h26) <| pn)
    · obtain ⟨r33, h32, h⟩ := bind_out h
      rcases r33 with _ | _
      · injection h with h; subst h; exact runFn_sound mixedOrders Try.func94 rfl (keep := none) (π := [.skp, .cut [1, 3, 5, 6] [0, 1] .nor [(1, .v (.int .i64 a2)), (3, .op 0 1 0 0), (5, .op 1 1 0 0), (6, .v (.bool false))] [.box 157 (c157 a1) false, .box 96 (c96 a3) false], .sum [1, 3, 5, 6, 51, 52, 53] [0, 1] (.exit 0) [(1, .v (.int .i64 a2)), (3, .op 0 1 0 0), (5, .op 1 1 0 0), (6, .v (.bool false))] [.box 157 (c157 a1) false, .box 96 (c96 a3) false], .cut [1, 3, 5, 6] [0, 1] .ret [(6, .v (.bool false))] []]) (hrun := by kernel_rfl) (hps := pc (k_names_judge_port_J1 h17) <| pc (k_names_judge_port_L2 _ _ h26) <| pc (k_names_judge_port_J3 h32) <| pn)
      · rcases ite_out h with ⟨h34, h⟩ | ⟨h34, h⟩
        · injection h with h; subst h; exact runFn_sound mixedOrders Try.func94 rfl (keep := none) (π := [.skp, .cut [1, 3, 5, 6] [0, 1] .nor [(1, .v (.int .i64 a2)), (3, .op 0 1 0 0), (5, .op 1 1 0 0), (6, .v (.bool false))] [.box 157 (c157 a1) false, .box 96 (c96 a3) false], .sum [1, 3, 5, 6, 51, 52, 53] [0, 1] (.exit 0) [(1, .v (.int .i64 a2)), (3, .op 0 1 0 0), (5, .op 1 1 0 0), (6, .v (.bool false))] [.box 157 (c157 a1) false, .box 96 (c96 a3) false], .cut [1, 3, 5, 6] [0, 1] .nor [(1, .v (.int .i64 a2)), (3, .op 0 1 0 0), (5, .op 1 1 0 0), (6, .v (.bool false))] [.box 157 (c157 a1) false, .box 96 (c96 a3) false], .dec true]) (hrun := by kernel_rfl) (hps := pc (k_names_judge_port_J1 h17) <| pc (k_names_judge_port_L2 _ _ h26) <| pc (k_names_judge_port_J3 h32) <| pc (h34) <| pn)
        · obtain ⟨r35, h36, h⟩ := bind_out h
          rcases ite_out h with ⟨h37, h⟩ | ⟨h37, h⟩
          · obtain ⟨x38, h39, h⟩ := bind_out h
            rcases ite_out h with ⟨h40, h⟩ | ⟨h40, h⟩
            · injection h with h; subst h; exact runFn_sound mixedOrders Try.func94 rfl (keep := none) (π := [.skp, .cut [1, 3, 5, 6] [0, 1] .nor [(1, .v (.int .i64 a2)), (3, .op 0 1 0 0), (5, .op 1 1 0 0), (6, .v (.bool false))] [.box 157 (c157 a1) false, .box 96 (c96 a3) false], .sum [1, 3, 5, 6, 51, 52, 53] [0, 1] (.exit 0) [(1, .v (.int .i64 a2)), (3, .op 0 1 0 0), (5, .op 1 1 0 0), (6, .v (.bool false))] [.box 157 (c157 a1) false, .box 96 (c96 a3) false], .cut [1, 3, 5, 6] [0, 1] .nor [(1, .v (.int .i64 a2)), (3, .op 0 1 0 0), (5, .op 1 1 0 0), (6, .v (.bool false))] [.box 157 (c157 a1) false, .box 96 (c96 a3) false], .dec false, .callv (.v (.bool r35)), .dec true, .row (c153 x38), .dec true]) (hrun := by kernel_rfl) (hps := pc (k_names_judge_port_J1 h17) <| pc (k_names_judge_port_L2 _ _ h26) <| pc (k_names_judge_port_J3 h32) <| pc (h34) <| pc (k_names_place_Link h36) <| pc (h37) <| pc (ob153 h39) <| pc (h40) <| pn)
            · obtain ⟨x41, h42, h⟩ := bind_out h
              injection h with h; subst h; exact runFn_sound mixedOrders Try.func94 rfl (keep := none) (π := [.skp, .cut [1, 3, 5, 6] [0, 1] .nor [(1, .v (.int .i64 a2)), (3, .op 0 1 0 0), (5, .op 1 1 0 0), (6, .v (.bool false))] [.box 157 (c157 a1) false, .box 96 (c96 a3) false], .sum [1, 3, 5, 6, 51, 52, 53] [0, 1] (.exit 0) [(1, .v (.int .i64 a2)), (3, .op 0 1 0 0), (5, .op 1 1 0 0), (6, .v (.bool false))] [.box 157 (c157 a1) false, .box 96 (c96 a3) false], .cut [1, 3, 5, 6] [0, 1] .nor [(1, .v (.int .i64 a2)), (3, .op 0 1 0 0), (5, .op 1 1 0 0), (6, .v (.bool false))] [.box 157 (c157 a1) false, .box 96 (c96 a3) false], .dec false, .callv (.v (.bool r35)), .dec true, .row (c153 x38), .dec false, .row (c153 x41)]) (hrun := by kernel_rfl) (hps := pc (k_names_judge_port_J1 h17) <| pc (k_names_judge_port_L2 _ _ h26) <| pc (k_names_judge_port_J3 h32) <| pc (h34) <| pc (k_names_place_Link h36) <| pc (h37) <| pc (ob153 h39) <| pc (h40) <| pc (ob153 h42) <| pn)
          · injection h with h; subst h; exact runFn_sound mixedOrders Try.func94 rfl (keep := none) (π := [.skp, .cut [1, 3, 5, 6] [0, 1] .nor [(1, .v (.int .i64 a2)), (3, .op 0 1 0 0), (5, .op 1 1 0 0), (6, .v (.bool false))] [.box 157 (c157 a1) false, .box 96 (c96 a3) false], .sum [1, 3, 5, 6, 51, 52, 53] [0, 1] (.exit 0) [(1, .v (.int .i64 a2)), (3, .op 0 1 0 0), (5, .op 1 1 0 0), (6, .v (.bool false))] [.box 157 (c157 a1) false, .box 96 (c96 a3) false], .cut [1, 3, 5, 6] [0, 1] .nor [(1, .v (.int .i64 a2)), (3, .op 0 1 0 0), (5, .op 1 1 0 0), (6, .v (.bool false))] [.box 157 (c157 a1) false, .box 96 (c96 a3) false], .dec false, .callv (.v (.bool r35)), .dec false]) (hrun := by kernel_rfl) (hps := pc (k_names_judge_port_J1 h17) <| pc (k_names_judge_port_L2 _ _ h26) <| pc (k_names_judge_port_J3 h32) <| pc (h34) <| pc (k_names_place_Link h36) <| pc (h37) <| pn)

theorem k_names_all_Port_judge_port_L1 {a1 : List Api_Port} {a2 : Names_judge} : LoopOK Try.prog UU 0 20 (subC (codeOf Try.f93) [1, 0, 1, 0, 0]) (ρ := Unit ⊕ Unit) (names_all_Port_judge_port_L1 a1 a2)
    (fun v3 : Int => ([(1, .fn (.func 94) [.agg (c157 a2)] []), (4, .v (.bool false)), (7, .sl 96 a1), (8, .v (.int .i64 (a1.length : Int))), (9, .v (.int .i64 v3))] : Fr DD)) (fun v3 : Int => ([] : Heap DD)) (fun r => match r with | Sum.inl _ => .ret | Sum.inr _ => .exit 0) (fun r => match r with | Sum.inl _ => [(4, .v (.bool false))] | Sum.inr _ => [(4, .v (.bool false))]) (fun r => match r with | Sum.inl _ => [] | Sum.inr _ => []) := by
  refine loop_sound3 (fun s q h => ?_) (fun r => ?_)
  · replace h : names_all_Port_judge_port_L1 a1 a2 s = some q := h; revert h; revert s; intro v3 h
    unfold names_all_Port_judge_port_L1 at h
    rcases ite_out h with ⟨h4, h⟩ | ⟨h4, h⟩
    · obtain ⟨x5, h6, h⟩ := bind_out h
      obtain ⟨r7, h8, h⟩ := bind_out h
      rcases ite_out h with ⟨h9, h⟩ | ⟨h9, h⟩
      · injection h with h; subst h; exact runLp_sound mixedOrders (live := [4]) (ids := []) (π := [.dec true, .row (c96 x5), .callv (.v (.bool r7)), .dec true]) (hx := by kernel_rfl) (hps := pc (h4) <| pc (ob96 h6) <| pc (k_names_judge_port h8) <| pc (h9) <| pn)
      · injection h with h; subst h; exact runLp_sound mixedOrders (live := [1, 4, 7, 8, 9]) (ids := []) (π := [.dec true, .row (c96 x5), .callv (.v (.bool r7)), .dec false]) (hx := by kernel_rfl) (hps := pc (h4) <| pc (ob96 h6) <| pc (k_names_judge_port h8) <| pc (h9) <| pn)
    · injection h with h; subst h; exact runLp_sound mixedOrders (live := [4]) (ids := []) (π := [.dec false]) (hx := by kernel_rfl) (hps := pc (h4) <| pn)
  · rcases r with _ | _ <;> exact Ex.noConfusion

theorem k_names_all_Port_judge_port {a1 : List Api_Port} {a2 : Names_judge} {r : Bool} (h : names_all_Port_judge_port a1 a2 = some r) :
    CallsOK Try.prog UU 93 [.sl 96 a1, .fn (.func 94) [.agg (c157 a2)] []] [] (.v (.bool r)) [] := by
  unfold names_all_Port_judge_port at h
  obtain ⟨r11, h10, h⟩ := bind_out h
  rcases r11 with _ | _
  · injection h with h; subst h; exact runFn_sound mixedOrders Try.func93 rfl (keep := none) (π := [.sum [1, 4, 7, 8, 9] [] .ret [(4, .v (.bool false))] []]) (hrun := by kernel_rfl) (hps := pc (k_names_all_Port_judge_port_L1 _ _ h10) <| pn)
  · injection h with h; subst h; exact runFn_sound mixedOrders Try.func93 rfl (keep := none) (π := [.sum [1, 4, 7, 8, 9] [] (.exit 0) [(4, .v (.bool false))] []]) (hrun := by kernel_rfl) (hps := pc (k_names_all_Port_judge_port_L1 _ _ h10) <| pn)

theorem k_names_place_Port {a1 : List Api_Port} {a2 : Int} {r : Bool} (h : names_place_Port a1 a2 = some r) :
    CallsOK Try.prog UU 154 [.sl 96 a1, .v (.int .i64 a2)] [] (.v (.bool r)) [] := by
  unfold names_place_Port at h
  rcases ite_out h with ⟨h3, h⟩ | ⟨h3, h⟩
  · injection h with h; subst h; exact runFn_sound mixedOrders Try.func154 rfl (keep := none) (π := [.dec true]) (hrun := by kernel_rfl) (hps := pc (h3) <| pn)
  · injection h with h; subst h; exact runFn_sound mixedOrders Try.func154 rfl (keep := none) (π := [.dec false]) (hrun := by kernel_rfl) (hps := pc (h3) <| pn)

theorem k_names_judge_link {a1 : Names_judge} {a2 : Int} {a3 : Api_Link} {r : Bool} (h : names_judge_link a1 a2 a3 = some r) :
    CallsOK Try.prog UU 96 [.agg (c157 a1), .v (.int .i64 a2), .agg (c153 a3)] [] (.v (.bool r)) [] := by
  unfold names_judge_link at h
  obtain ⟨r4, h5, h⟩ := bind_out h
  rcases ite_out h with ⟨h6, h⟩ | ⟨h6, h⟩
  · injection h with h; subst h; exact runFn_sound mixedOrders Try.func96 rfl (keep := none) (π := [.callv (.v (.bool r4)), .dec true]) (hrun := by kernel_rfl) (hps := pc (k_names_place_Port h5) <| pc (h6) <| pn)
  · obtain ⟨r7, h8, h⟩ := bind_out h
    rcases ite_out h with ⟨h9, h⟩ | ⟨h9, h⟩
    · injection h with h; subst h; exact runFn_sound mixedOrders Try.func96 rfl (keep := none) (π := [.callv (.v (.bool r4)), .dec false, .callv (.v (.bool r7)), .dec true]) (hrun := by kernel_rfl) (hps := pc (k_names_place_Port h5) <| pc (h6) <| pc (k_names_place_Port h8) <| pc (h9) <| pn)
    · obtain ⟨x10, h11, h⟩ := bind_out h
      obtain ⟨x12, h13, h⟩ := bind_out h
      rcases ite_out h with ⟨h14, h⟩ | ⟨h14, h⟩
      · rcases ite_out h with ⟨h15, h⟩ | ⟨h15, h⟩
        · injection h with h; subst h; exact runFn_sound mixedOrders Try.func96 rfl (keep := none) (π := [.callv (.v (.bool r4)), .dec false, .callv (.v (.bool r7)), .dec false, .row (c96 x10), .row (c96 x12), .dec true, .dec true]) (hrun := by kernel_rfl) (hps := pc (k_names_place_Port h5) <| pc (h6) <| pc (k_names_place_Port h8) <| pc (h9) <| pc (ob96 h11) <| pc (ob96 h13) <| pc (h14) <| pc (h15) <| pn)
        · injection h with h; subst h; exact runFn_sound mixedOrders Try.func96 rfl (keep := none) (π := [.callv (.v (.bool r4)), .dec false, .callv (.v (.bool r7)), .dec false, .row (c96 x10), .row (c96 x12), .dec true, .dec false]) (hrun := by kernel_rfl) (hps := pc (k_names_place_Port h5) <| pc (h6) <| pc (k_names_place_Port h8) <| pc (h9) <| pc (ob96 h11) <| pc (ob96 h13) <| pc (h14) <| pc (h15) <| pn)
      · injection h with h; subst h; exact runFn_sound mixedOrders Try.func96 rfl (keep := none) (π := [.callv (.v (.bool r4)), .dec false, .callv (.v (.bool r7)), .dec false, .row (c96 x10), .row (c96 x12), .dec false]) (hrun := by kernel_rfl) (hps := pc (k_names_place_Port h5) <| pc (h6) <| pc (k_names_place_Port h8) <| pc (h9) <| pc (ob96 h11) <| pc (ob96 h13) <| pc (h14) <| pn)

theorem k_names_all_Link_judge_link_L1 {a1 : List Api_Link} {a2 : Names_judge} : LoopOK Try.prog UU 0 20 (subC (codeOf Try.f95) [1, 0, 1, 0, 0]) (ρ := Unit ⊕ Unit) (names_all_Link_judge_link_L1 a1 a2)
    (fun v3 : Int => ([(1, .fn (.func 96) [.agg (c157 a2)] []), (4, .v (.bool false)), (7, .sl 153 a1), (8, .v (.int .i64 (a1.length : Int))), (9, .v (.int .i64 v3))] : Fr DD)) (fun v3 : Int => ([] : Heap DD)) (fun r => match r with | Sum.inl _ => .ret | Sum.inr _ => .exit 0) (fun r => match r with | Sum.inl _ => [(4, .v (.bool false))] | Sum.inr _ => [(4, .v (.bool false))]) (fun r => match r with | Sum.inl _ => [] | Sum.inr _ => []) := by
  refine loop_sound3 (fun s q h => ?_) (fun r => ?_)
  · replace h : names_all_Link_judge_link_L1 a1 a2 s = some q := h; revert h; revert s; intro v3 h
    unfold names_all_Link_judge_link_L1 at h
    rcases ite_out h with ⟨h4, h⟩ | ⟨h4, h⟩
    · obtain ⟨x5, h6, h⟩ := bind_out h
      obtain ⟨r7, h8, h⟩ := bind_out h
      rcases ite_out h with ⟨h9, h⟩ | ⟨h9, h⟩
      · injection h with h; subst h; exact runLp_sound mixedOrders (live := [4]) (ids := []) (π := [.dec true, .row (c153 x5), .callv (.v (.bool r7)), .dec true]) (hx := by kernel_rfl) (hps := pc (h4) <| pc (ob153 h6) <| pc (k_names_judge_link h8) <| pc (h9) <| pn)
      · injection h with h; subst h; exact runLp_sound mixedOrders (live := [1, 4, 7, 8, 9]) (ids := []) (π := [.dec true, .row (c153 x5), .callv (.v (.bool r7)), .dec false]) (hx := by kernel_rfl) (hps := pc (h4) <| pc (ob153 h6) <| pc (k_names_judge_link h8) <| pc (h9) <| pn)
    · injection h with h; subst h; exact runLp_sound mixedOrders (live := [4]) (ids := []) (π := [.dec false]) (hx := by kernel_rfl) (hps := pc (h4) <| pn)
  · rcases r with _ | _ <;> exact Ex.noConfusion

theorem k_names_all_Link_judge_link {a1 : List Api_Link} {a2 : Names_judge} {r : Bool} (h : names_all_Link_judge_link a1 a2 = some r) :
    CallsOK Try.prog UU 95 [.sl 153 a1, .fn (.func 96) [.agg (c157 a2)] []] [] (.v (.bool r)) [] := by
  unfold names_all_Link_judge_link at h
  obtain ⟨r11, h10, h⟩ := bind_out h
  rcases r11 with _ | _
  · injection h with h; subst h; exact runFn_sound mixedOrders Try.func95 rfl (keep := none) (π := [.sum [1, 4, 7, 8, 9] [] .ret [(4, .v (.bool false))] []]) (hrun := by kernel_rfl) (hps := pc (k_names_all_Link_judge_link_L1 _ _ h10) <| pn)
  · injection h with h; subst h; exact runFn_sound mixedOrders Try.func95 rfl (keep := none) (π := [.sum [1, 4, 7, 8, 9] [] (.exit 0) [(4, .v (.bool false))] []]) (hrun := by kernel_rfl) (hps := pc (k_names_all_Link_judge_link_L1 _ _ h10) <| pn)

theorem k_names_Member {a1 : Api_Port} {a2 : Int} {r : Bool} (h : names_Member a1 a2 = some r) :
    CallsOK Try.prog UU 76 [.agg (c96 a1), .v (.int .i64 a2)] [] (.v (.bool r)) [] := by
  unfold names_Member at h
  rcases ite_out h with ⟨h3, h⟩ | ⟨h3, h⟩
  · rcases ite_out h with ⟨h4, h⟩ | ⟨h4, h⟩
    · injection h with h; subst h; exact runFn_sound mixedOrders Try.func76 rfl (keep := none) (π := [.dec true, .dec true]) (hrun := by kernel_rfl) (hps := pc (h3) <| pc (h4) <| pn)
    · obtain ⟨r5, h6, h⟩ := bind_out h
      injection h with h; subst h; exact runFn_sound mixedOrders Try.func76 rfl (keep := none) (π := [.dec true, .dec false, .callv (.v (.bool r5))]) (hrun := by kernel_rfl) (hps := pc (h3) <| pc (h4) <| pc (k_slices_Contains_int h6) <| pn)
  · injection h with h; subst h; exact runFn_sound mixedOrders Try.func76 rfl (keep := none) (π := [.dec false]) (hrun := by kernel_rfl) (hps := pc (h3) <| pn)

theorem k_names_judge_static {a1 : Names_judge} {a2 : Int} {a3 : Api_Static} {r : Bool} (h : names_judge_static a1 a2 a3 = some r) :
    CallsOK Try.prog UU 98 [.agg (c157 a1), .v (.int .i64 a2), .agg (c166 a3)] [] (.v (.bool r)) [] := by
  unfold names_judge_static at h
  obtain ⟨r4, h5, h⟩ := bind_out h
  rcases ite_out h with ⟨h6, h⟩ | ⟨h6, h⟩
  · injection h with h; subst h; exact runFn_sound mixedOrders Try.func98 rfl (keep := none) (π := [.callv (.v (.bool r4)), .dec true]) (hrun := by kernel_rfl) (hps := pc (k_names_place_Domain h5) <| pc (h6) <| pn)
  · obtain ⟨r7, h8, h⟩ := bind_out h
    rcases ite_out h with ⟨h9, h⟩ | ⟨h9, h⟩
    · injection h with h; subst h; exact runFn_sound mixedOrders Try.func98 rfl (keep := none) (π := [.callv (.v (.bool r4)), .dec false, .callv (.v (.bool r7)), .dec true]) (hrun := by kernel_rfl) (hps := pc (k_names_place_Domain h5) <| pc (h6) <| pc (k_names_place_Port h8) <| pc (h9) <| pn)
    · obtain ⟨x10, h11, h⟩ := bind_out h
      obtain ⟨x12, h13, h⟩ := bind_out h
      rcases ite_out h with ⟨h14, h⟩ | ⟨h14, h⟩
      · obtain ⟨r15, h16, h⟩ := bind_out h
        injection h with h; subst h; exact runFn_sound mixedOrders Try.func98 rfl (keep := none) (π := [.callv (.v (.bool r4)), .dec false, .callv (.v (.bool r7)), .dec false, .row (c96 x10), .row (c85 x12), .dec true, .callv (.v (.bool r15))]) (hrun := by kernel_rfl) (hps := pc (k_names_place_Domain h5) <| pc (h6) <| pc (k_names_place_Port h8) <| pc (h9) <| pc (ob96 h11) <| pc (ob85 h13) <| pc (h14) <| pc (k_names_Member h16) <| pn)
      · injection h with h; subst h; exact runFn_sound mixedOrders Try.func98 rfl (keep := none) (π := [.callv (.v (.bool r4)), .dec false, .callv (.v (.bool r7)), .dec false, .row (c96 x10), .row (c85 x12), .dec false]) (hrun := by kernel_rfl) (hps := pc (k_names_place_Domain h5) <| pc (h6) <| pc (k_names_place_Port h8) <| pc (h9) <| pc (ob96 h11) <| pc (ob85 h13) <| pc (h14) <| pn)

theorem k_names_all_Static_judge_static_L1 {a1 : List Api_Static} {a2 : Names_judge} : LoopOK Try.prog UU 0 20 (subC (codeOf Try.f97) [1, 0, 1, 0, 0]) (ρ := Unit ⊕ Unit) (names_all_Static_judge_static_L1 a1 a2)
    (fun v3 : Int => ([(1, .fn (.func 98) [.agg (c157 a2)] []), (4, .v (.bool false)), (7, .sl 166 a1), (8, .v (.int .i64 (a1.length : Int))), (9, .v (.int .i64 v3))] : Fr DD)) (fun v3 : Int => ([] : Heap DD)) (fun r => match r with | Sum.inl _ => .ret | Sum.inr _ => .exit 0) (fun r => match r with | Sum.inl _ => [(4, .v (.bool false))] | Sum.inr _ => [(4, .v (.bool false))]) (fun r => match r with | Sum.inl _ => [] | Sum.inr _ => []) := by
  refine loop_sound3 (fun s q h => ?_) (fun r => ?_)
  · replace h : names_all_Static_judge_static_L1 a1 a2 s = some q := h; revert h; revert s; intro v3 h
    unfold names_all_Static_judge_static_L1 at h
    rcases ite_out h with ⟨h4, h⟩ | ⟨h4, h⟩
    · obtain ⟨x5, h6, h⟩ := bind_out h
      obtain ⟨r7, h8, h⟩ := bind_out h
      rcases ite_out h with ⟨h9, h⟩ | ⟨h9, h⟩
      · injection h with h; subst h; exact runLp_sound mixedOrders (live := [4]) (ids := []) (π := [.dec true, .row (c166 x5), .callv (.v (.bool r7)), .dec true]) (hx := by kernel_rfl) (hps := pc (h4) <| pc (ob166 h6) <| pc (k_names_judge_static h8) <| pc (h9) <| pn)
      · injection h with h; subst h; exact runLp_sound mixedOrders (live := [1, 4, 7, 8, 9]) (ids := []) (π := [.dec true, .row (c166 x5), .callv (.v (.bool r7)), .dec false]) (hx := by kernel_rfl) (hps := pc (h4) <| pc (ob166 h6) <| pc (k_names_judge_static h8) <| pc (h9) <| pn)
    · injection h with h; subst h; exact runLp_sound mixedOrders (live := [4]) (ids := []) (π := [.dec false]) (hx := by kernel_rfl) (hps := pc (h4) <| pn)
  · rcases r with _ | _ <;> exact Ex.noConfusion

theorem k_names_all_Static_judge_static {a1 : List Api_Static} {a2 : Names_judge} {r : Bool} (h : names_all_Static_judge_static a1 a2 = some r) :
    CallsOK Try.prog UU 97 [.sl 166 a1, .fn (.func 98) [.agg (c157 a2)] []] [] (.v (.bool r)) [] := by
  unfold names_all_Static_judge_static at h
  obtain ⟨r11, h10, h⟩ := bind_out h
  rcases r11 with _ | _
  · injection h with h; subst h; exact runFn_sound mixedOrders Try.func97 rfl (keep := none) (π := [.sum [1, 4, 7, 8, 9] [] .ret [(4, .v (.bool false))] []]) (hrun := by kernel_rfl) (hps := pc (k_names_all_Static_judge_static_L1 _ _ h10) <| pn)
  · injection h with h; subst h; exact runFn_sound mixedOrders Try.func97 rfl (keep := none) (π := [.sum [1, 4, 7, 8, 9] [] (.exit 0) [(4, .v (.bool false))] []]) (hrun := by kernel_rfl) (hps := pc (k_names_all_Static_judge_static_L1 _ _ h10) <| pn)

theorem k_names_Right_1 {a1 : Int} {a2 : Api_Flood} {a3 : Api_Net} {r : Bool} (h : names_Right_1 a1 a2 a3 = some r) :
    CallsOK Try.prog UU 100 [.v (.int .i64 a1), .agg (c128 a2), .rp (c61 a3) 0] [] (.v (.bool r)) [] := by
  unfold names_Right_1 at h
  obtain ⟨r4, h5, h⟩ := bind_out h
  rcases ite_out h with ⟨h6, h⟩ | ⟨h6, h⟩
  · injection h with h; subst h; exact runFn_sound mixedOrders Try.func100 rfl (keep := none) (π := [.callv (.v (.bool r4)), .dec true]) (hrun := by kernel_rfl) (hps := pc (k_names_place_Device h5) <| pc (h6) <| pn)
  · injection h with h; subst h; exact runFn_sound mixedOrders Try.func100 rfl (keep := none) (π := [.callv (.v (.bool r4)), .dec false]) (hrun := by kernel_rfl) (hps := pc (k_names_place_Device h5) <| pc (h6) <| pn)

theorem k_names_all_Flood_Right_1_L1 {a1 : List Api_Flood} {a2 : Api_Net} : LoopOK Try.prog UU 0 20 (subC (codeOf Try.f99) [1, 0, 1, 0, 0]) (ρ := Unit ⊕ Unit) (names_all_Flood_Right_1_L1 a1 a2)
    (fun v3 : Int => ([(1, .fn (.func 100) [] [.rp (c61 a2) 0]), (4, .v (.bool false)), (7, .sl 128 a1), (8, .v (.int .i64 (a1.length : Int))), (9, .v (.int .i64 v3))] : Fr DD)) (fun v3 : Int => ([] : Heap DD)) (fun r => match r with | Sum.inl _ => .ret | Sum.inr _ => .exit 0) (fun r => match r with | Sum.inl _ => [(4, .v (.bool false))] | Sum.inr _ => [(4, .v (.bool false))]) (fun r => match r with | Sum.inl _ => [] | Sum.inr _ => []) := by
  refine loop_sound3 (fun s q h => ?_) (fun r => ?_)
  · replace h : names_all_Flood_Right_1_L1 a1 a2 s = some q := h; revert h; revert s; intro v3 h
    unfold names_all_Flood_Right_1_L1 at h
    rcases ite_out h with ⟨h4, h⟩ | ⟨h4, h⟩
    · obtain ⟨x5, h6, h⟩ := bind_out h
      obtain ⟨r7, h8, h⟩ := bind_out h
      rcases ite_out h with ⟨h9, h⟩ | ⟨h9, h⟩
      · injection h with h; subst h; exact runLp_sound mixedOrders (live := [4]) (ids := []) (π := [.dec true, .row (c128 x5), .callv (.v (.bool r7)), .dec true]) (hx := by kernel_rfl) (hps := pc (h4) <| pc (ob128 h6) <| pc (k_names_Right_1 h8) <| pc (h9) <| pn)
      · injection h with h; subst h; exact runLp_sound mixedOrders (live := [1, 4, 7, 8, 9]) (ids := []) (π := [.dec true, .row (c128 x5), .callv (.v (.bool r7)), .dec false]) (hx := by kernel_rfl) (hps := pc (h4) <| pc (ob128 h6) <| pc (k_names_Right_1 h8) <| pc (h9) <| pn)
    · injection h with h; subst h; exact runLp_sound mixedOrders (live := [4]) (ids := []) (π := [.dec false]) (hx := by kernel_rfl) (hps := pc (h4) <| pn)
  · rcases r with _ | _ <;> exact Ex.noConfusion

theorem k_names_all_Flood_Right_1 {a1 : List Api_Flood} {a2 : Api_Net} {r : Bool} (h : names_all_Flood_Right_1 a1 a2 = some r) :
    CallsOK Try.prog UU 99 [.sl 128 a1, .fn (.func 100) [] [.rp (c61 a2) 0]] [] (.v (.bool r)) [] := by
  unfold names_all_Flood_Right_1 at h
  obtain ⟨r11, h10, h⟩ := bind_out h
  rcases r11 with _ | _
  · injection h with h; subst h; exact runFn_sound mixedOrders Try.func99 rfl (keep := none) (π := [.sum [1, 4, 7, 8, 9] [] .ret [(4, .v (.bool false))] []]) (hrun := by kernel_rfl) (hps := pc (k_names_all_Flood_Right_1_L1 _ _ h10) <| pn)
  · injection h with h; subst h; exact runFn_sound mixedOrders Try.func99 rfl (keep := none) (π := [.sum [1, 4, 7, 8, 9] [] (.exit 0) [(4, .v (.bool false))] []]) (hrun := by kernel_rfl) (hps := pc (k_names_all_Flood_Right_1_L1 _ _ h10) <| pn)

theorem k_names_Right_2 {a1 : Int} {a2 : Api_Vrf} {a3 : Api_Net} {r : Bool} (h : names_Right_2 a1 a2 a3 = some r) :
    CallsOK Try.prog UU 103 [.v (.int .i64 a1), .agg (c71 a2), .rp (c61 a3) 0] [] (.v (.bool r)) [] := by
  unfold names_Right_2 at h
  obtain ⟨r4, h5, h⟩ := bind_out h
  rcases ite_out h with ⟨h6, h⟩ | ⟨h6, h⟩
  · obtain ⟨r7, h8, h⟩ := bind_out h
    rcases ite_out h with ⟨h9, h⟩ | ⟨h9, h⟩
    · obtain ⟨r10, h11, h⟩ := bind_out h
      injection h with h; subst h; exact runFn_sound mixedOrders Try.func103 rfl (keep := none) (π := [.callv (.v (.bool r4)), .dec true, .callv (.v (.bool r7)), .dec true, .callv (.v (.bool r10))]) (hrun := by kernel_rfl) (hps := pc (k_names_place_Device h5) <| pc (h6) <| pc (k_names_rising h8) <| pc (h9) <| pc (k_names_rising h11) <| pn)
    · injection h with h; subst h; exact runFn_sound mixedOrders Try.func103 rfl (keep := none) (π := [.callv (.v (.bool r4)), .dec true, .callv (.v (.bool r7)), .dec false]) (hrun := by kernel_rfl) (hps := pc (k_names_place_Device h5) <| pc (h6) <| pc (k_names_rising h8) <| pc (h9) <| pn)
  · injection h with h; subst h; exact runFn_sound mixedOrders Try.func103 rfl (keep := none) (π := [.callv (.v (.bool r4)), .dec false]) (hrun := by kernel_rfl) (hps := pc (k_names_place_Device h5) <| pc (h6) <| pn)

theorem k_names_all_Vrf_Right_2_L1 {a1 : List Api_Vrf} {a2 : Api_Net} : LoopOK Try.prog UU 0 20 (subC (codeOf Try.f102) [1, 0, 1, 0, 0]) (ρ := Unit ⊕ Unit) (names_all_Vrf_Right_2_L1 a1 a2)
    (fun v3 : Int => ([(1, .fn (.func 103) [] [.rp (c61 a2) 0]), (4, .v (.bool false)), (7, .sl 71 a1), (8, .v (.int .i64 (a1.length : Int))), (9, .v (.int .i64 v3))] : Fr DD)) (fun v3 : Int => ([] : Heap DD)) (fun r => match r with | Sum.inl _ => .ret | Sum.inr _ => .exit 0) (fun r => match r with | Sum.inl _ => [(4, .v (.bool false))] | Sum.inr _ => [(4, .v (.bool false))]) (fun r => match r with | Sum.inl _ => [] | Sum.inr _ => []) := by
  refine loop_sound3 (fun s q h => ?_) (fun r => ?_)
  · replace h : names_all_Vrf_Right_2_L1 a1 a2 s = some q := h; revert h; revert s; intro v3 h
    unfold names_all_Vrf_Right_2_L1 at h
    rcases ite_out h with ⟨h4, h⟩ | ⟨h4, h⟩
    · obtain ⟨x5, h6, h⟩ := bind_out h
      obtain ⟨r7, h8, h⟩ := bind_out h
      rcases ite_out h with ⟨h9, h⟩ | ⟨h9, h⟩
      · injection h with h; subst h; exact runLp_sound mixedOrders (live := [4]) (ids := []) (π := [.dec true, .row (c71 x5), .callv (.v (.bool r7)), .dec true]) (hx := by kernel_rfl) (hps := pc (h4) <| pc (ob71 h6) <| pc (k_names_Right_2 h8) <| pc (h9) <| pn)
      · injection h with h; subst h; exact runLp_sound mixedOrders (live := [1, 4, 7, 8, 9]) (ids := []) (π := [.dec true, .row (c71 x5), .callv (.v (.bool r7)), .dec false]) (hx := by kernel_rfl) (hps := pc (h4) <| pc (ob71 h6) <| pc (k_names_Right_2 h8) <| pc (h9) <| pn)
    · injection h with h; subst h; exact runLp_sound mixedOrders (live := [4]) (ids := []) (π := [.dec false]) (hx := by kernel_rfl) (hps := pc (h4) <| pn)
  · rcases r with _ | _ <;> exact Ex.noConfusion

theorem k_names_all_Vrf_Right_2 {a1 : List Api_Vrf} {a2 : Api_Net} {r : Bool} (h : names_all_Vrf_Right_2 a1 a2 = some r) :
    CallsOK Try.prog UU 102 [.sl 71 a1, .fn (.func 103) [] [.rp (c61 a2) 0]] [] (.v (.bool r)) [] := by
  unfold names_all_Vrf_Right_2 at h
  obtain ⟨r11, h10, h⟩ := bind_out h
  rcases r11 with _ | _
  · injection h with h; subst h; exact runFn_sound mixedOrders Try.func102 rfl (keep := none) (π := [.sum [1, 4, 7, 8, 9] [] .ret [(4, .v (.bool false))] []]) (hrun := by kernel_rfl) (hps := pc (k_names_all_Vrf_Right_2_L1 _ _ h10) <| pn)
  · injection h with h; subst h; exact runFn_sound mixedOrders Try.func102 rfl (keep := none) (π := [.sum [1, 4, 7, 8, 9] [] (.exit 0) [(4, .v (.bool false))] []]) (hrun := by kernel_rfl) (hps := pc (k_names_all_Vrf_Right_2_L1 _ _ h10) <| pn)

theorem k_names_place_Vrf {a1 : List Api_Vrf} {a2 : Int} {r : Bool} (h : names_place_Vrf a1 a2 = some r) :
    CallsOK Try.prog UU 157 [.sl 71 a1, .v (.int .i64 a2)] [] (.v (.bool r)) [] := by
  unfold names_place_Vrf at h
  rcases ite_out h with ⟨h3, h⟩ | ⟨h3, h⟩
  · injection h with h; subst h; exact runFn_sound mixedOrders Try.func157 rfl (keep := none) (π := [.dec true]) (hrun := by kernel_rfl) (hps := pc (h3) <| pn)
  · injection h with h; subst h; exact runFn_sound mixedOrders Try.func157 rfl (keep := none) (π := [.dec false]) (hrun := by kernel_rfl) (hps := pc (h3) <| pn)

theorem k_names_judge_irb {a1 : Names_judge} {a2 : Int} {a3 : Api_Irb} {r : Bool} (h : names_judge_irb a1 a2 a3 = some r) :
    CallsOK Try.prog UU 106 [.agg (c157 a1), .v (.int .i64 a2), .agg (c68 a3)] [] (.v (.bool r)) [] := by
  unfold names_judge_irb at h
  obtain ⟨r4, h5, h⟩ := bind_out h
  rcases ite_out h with ⟨h6, h⟩ | ⟨h6, h⟩
  · obtain ⟨r7, h8, h⟩ := bind_out h
    rcases ite_out h with ⟨h9, h⟩ | ⟨h9, h⟩
    · obtain ⟨x10, h11, h⟩ := bind_out h
      obtain ⟨x12, h13, h⟩ := bind_out h
      rcases ite_out h with ⟨h14, h⟩ | ⟨h14, h⟩
      · obtain ⟨x15, h16, h⟩ := bind_out h
        rcases ite_out h with ⟨h17, h⟩ | ⟨h17, h⟩
        · rcases ite_out h with ⟨h18, h⟩ | ⟨h18, h⟩
          · injection h with h; subst h; exact runFn_sound mixedOrders Try.func106 rfl (keep := none) (π := [.callv (.v (.bool r4)), .dec true, .callv (.v (.bool r7)), .dec true, .row (c85 x10), .row (c71 x12), .dec true, .row (c85 x15), .dec true, .dec true]) (hrun := by kernel_rfl) (hps := pc (k_names_place_Domain h5) <| pc (h6) <| pc (k_names_place_Vrf h8) <| pc (h9) <| pc (ob85 h11) <| pc (ob71 h13) <| pc (h14) <| pc (ob85 h16) <| pc (h17) <| pc (h18) <| pn)
          · injection h with h; subst h; exact runFn_sound mixedOrders Try.func106 rfl (keep := none) (π := [.callv (.v (.bool r4)), .dec true, .callv (.v (.bool r7)), .dec true, .row (c85 x10), .row (c71 x12), .dec true, .row (c85 x15), .dec true, .dec false]) (hrun := by kernel_rfl) (hps := pc (k_names_place_Domain h5) <| pc (h6) <| pc (k_names_place_Vrf h8) <| pc (h9) <| pc (ob85 h11) <| pc (ob71 h13) <| pc (h14) <| pc (ob85 h16) <| pc (h17) <| pc (h18) <| pn)
        · injection h with h; subst h; exact runFn_sound mixedOrders Try.func106 rfl (keep := none) (π := [.callv (.v (.bool r4)), .dec true, .callv (.v (.bool r7)), .dec true, .row (c85 x10), .row (c71 x12), .dec true, .row (c85 x15), .dec false]) (hrun := by kernel_rfl) (hps := pc (k_names_place_Domain h5) <| pc (h6) <| pc (k_names_place_Vrf h8) <| pc (h9) <| pc (ob85 h11) <| pc (ob71 h13) <| pc (h14) <| pc (ob85 h16) <| pc (h17) <| pn)
      · injection h with h; subst h; exact runFn_sound mixedOrders Try.func106 rfl (keep := none) (π := [.callv (.v (.bool r4)), .dec true, .callv (.v (.bool r7)), .dec true, .row (c85 x10), .row (c71 x12), .dec false]) (hrun := by kernel_rfl) (hps := pc (k_names_place_Domain h5) <| pc (h6) <| pc (k_names_place_Vrf h8) <| pc (h9) <| pc (ob85 h11) <| pc (ob71 h13) <| pc (h14) <| pn)
    · injection h with h; subst h; exact runFn_sound mixedOrders Try.func106 rfl (keep := none) (π := [.callv (.v (.bool r4)), .dec true, .callv (.v (.bool r7)), .dec false]) (hrun := by kernel_rfl) (hps := pc (k_names_place_Domain h5) <| pc (h6) <| pc (k_names_place_Vrf h8) <| pc (h9) <| pn)
  · injection h with h; subst h; exact runFn_sound mixedOrders Try.func106 rfl (keep := none) (π := [.callv (.v (.bool r4)), .dec false]) (hrun := by kernel_rfl) (hps := pc (k_names_place_Domain h5) <| pc (h6) <| pn)

theorem k_names_all_Irb_judge_irb_L1 {a1 : List Api_Irb} {a2 : Names_judge} : LoopOK Try.prog UU 0 20 (subC (codeOf Try.f105) [1, 0, 1, 0, 0]) (ρ := Unit ⊕ Unit) (names_all_Irb_judge_irb_L1 a1 a2)
    (fun v3 : Int => ([(1, .fn (.func 106) [.agg (c157 a2)] []), (4, .v (.bool false)), (7, .sl 68 a1), (8, .v (.int .i64 (a1.length : Int))), (9, .v (.int .i64 v3))] : Fr DD)) (fun v3 : Int => ([] : Heap DD)) (fun r => match r with | Sum.inl _ => .ret | Sum.inr _ => .exit 0) (fun r => match r with | Sum.inl _ => [(4, .v (.bool false))] | Sum.inr _ => [(4, .v (.bool false))]) (fun r => match r with | Sum.inl _ => [] | Sum.inr _ => []) := by
  refine loop_sound3 (fun s q h => ?_) (fun r => ?_)
  · replace h : names_all_Irb_judge_irb_L1 a1 a2 s = some q := h; revert h; revert s; intro v3 h
    unfold names_all_Irb_judge_irb_L1 at h
    rcases ite_out h with ⟨h4, h⟩ | ⟨h4, h⟩
    · obtain ⟨x5, h6, h⟩ := bind_out h
      obtain ⟨r7, h8, h⟩ := bind_out h
      rcases ite_out h with ⟨h9, h⟩ | ⟨h9, h⟩
      · injection h with h; subst h; exact runLp_sound mixedOrders (live := [4]) (ids := []) (π := [.dec true, .row (c68 x5), .callv (.v (.bool r7)), .dec true]) (hx := by kernel_rfl) (hps := pc (h4) <| pc (ob68 h6) <| pc (k_names_judge_irb h8) <| pc (h9) <| pn)
      · injection h with h; subst h; exact runLp_sound mixedOrders (live := [1, 4, 7, 8, 9]) (ids := []) (π := [.dec true, .row (c68 x5), .callv (.v (.bool r7)), .dec false]) (hx := by kernel_rfl) (hps := pc (h4) <| pc (ob68 h6) <| pc (k_names_judge_irb h8) <| pc (h9) <| pn)
    · injection h with h; subst h; exact runLp_sound mixedOrders (live := [4]) (ids := []) (π := [.dec false]) (hx := by kernel_rfl) (hps := pc (h4) <| pn)
  · rcases r with _ | _ <;> exact Ex.noConfusion

theorem k_names_all_Irb_judge_irb {a1 : List Api_Irb} {a2 : Names_judge} {r : Bool} (h : names_all_Irb_judge_irb a1 a2 = some r) :
    CallsOK Try.prog UU 105 [.sl 68 a1, .fn (.func 106) [.agg (c157 a2)] []] [] (.v (.bool r)) [] := by
  unfold names_all_Irb_judge_irb at h
  obtain ⟨r11, h10, h⟩ := bind_out h
  rcases r11 with _ | _
  · injection h with h; subst h; exact runFn_sound mixedOrders Try.func105 rfl (keep := none) (π := [.sum [1, 4, 7, 8, 9] [] .ret [(4, .v (.bool false))] []]) (hrun := by kernel_rfl) (hps := pc (k_names_all_Irb_judge_irb_L1 _ _ h10) <| pn)
  · injection h with h; subst h; exact runFn_sound mixedOrders Try.func105 rfl (keep := none) (π := [.sum [1, 4, 7, 8, 9] [] (.exit 0) [(4, .v (.bool false))] []]) (hrun := by kernel_rfl) (hps := pc (k_names_all_Irb_judge_irb_L1 _ _ h10) <| pn)

theorem k_names_Right {a1 : Api_Net} {r : Bool} (h : names_Right a1 = some r) :
    CallsOK Try.prog UU 45 [.agg (c61 a1)] [] (.v (.bool r)) [] := by
  unfold names_Right at h
  obtain ⟨r2, h3, h⟩ := bind_out h
  rcases ite_out h with ⟨h4, h⟩ | ⟨h4, h⟩
  · obtain ⟨r5, h6, h⟩ := bind_out h
    rcases ite_out h with ⟨h7, h⟩ | ⟨h7, h⟩
    · obtain ⟨r8, h9, h⟩ := bind_out h
      rcases ite_out h with ⟨h10, h⟩ | ⟨h10, h⟩
      · obtain ⟨r11, h12, h⟩ := bind_out h
        rcases ite_out h with ⟨h13, h⟩ | ⟨h13, h⟩
        · obtain ⟨r14, h15, h⟩ := bind_out h
          rcases ite_out h with ⟨h16, h⟩ | ⟨h16, h⟩
          · obtain ⟨r17, h18, h⟩ := bind_out h
            rcases ite_out h with ⟨h19, h⟩ | ⟨h19, h⟩
            · obtain ⟨r20, h21, h⟩ := bind_out h
              rcases ite_out h with ⟨h22, h⟩ | ⟨h22, h⟩
              · obtain ⟨r23, h24, h⟩ := bind_out h
                rcases ite_out h with ⟨h25, h⟩ | ⟨h25, h⟩
                · obtain ⟨r26, h27, h⟩ := bind_out h
                  injection h with h; subst h; exact runFn_sound mixedOrders Try.func45 rfl (keep := none) (π := [.callv (.v (.bool r2)), .dec true, .callv (.v (.bool r5)), .dec true, .callv (.v (.bool r8)), .dec true, .callv (.v (.bool r11)), .dec true, .callv (.v (.bool r14)), .dec true, .callv (.v (.bool r17)), .dec true, .callv (.v (.bool r20)), .dec true, .callv (.v (.bool r23)), .dec true, .callv (.v (.bool r26))]) (hrun := by kernel_rfl) (hps := pc (k_names_judge_few h3) <| pc (h4) <| pc (k_names_all_Domain_judge_bare h6) <| pc (h7) <| pc (k_names_all_Domain_judge_peers h9) <| pc (h10) <| pc (k_names_all_Port_judge_port h12) <| pc (h13) <| pc (k_names_all_Link_judge_link h15) <| pc (h16) <| pc (k_names_all_Static_judge_static h18) <| pc (h19) <| pc (k_names_all_Flood_Right_1 h21) <| pc (h22) <| pc (k_names_all_Vrf_Right_2 h24) <| pc (h25) <| pc (k_names_all_Irb_judge_irb h27) <| pn)
                · injection h with h; subst h; exact runFn_sound mixedOrders Try.func45 rfl (keep := none) (π := [.callv (.v (.bool r2)), .dec true, .callv (.v (.bool r5)), .dec true, .callv (.v (.bool r8)), .dec true, .callv (.v (.bool r11)), .dec true, .callv (.v (.bool r14)), .dec true, .callv (.v (.bool r17)), .dec true, .callv (.v (.bool r20)), .dec true, .callv (.v (.bool r23)), .dec false]) (hrun := by kernel_rfl) (hps := pc (k_names_judge_few h3) <| pc (h4) <| pc (k_names_all_Domain_judge_bare h6) <| pc (h7) <| pc (k_names_all_Domain_judge_peers h9) <| pc (h10) <| pc (k_names_all_Port_judge_port h12) <| pc (h13) <| pc (k_names_all_Link_judge_link h15) <| pc (h16) <| pc (k_names_all_Static_judge_static h18) <| pc (h19) <| pc (k_names_all_Flood_Right_1 h21) <| pc (h22) <| pc (k_names_all_Vrf_Right_2 h24) <| pc (h25) <| pn)
              · injection h with h; subst h; exact runFn_sound mixedOrders Try.func45 rfl (keep := none) (π := [.callv (.v (.bool r2)), .dec true, .callv (.v (.bool r5)), .dec true, .callv (.v (.bool r8)), .dec true, .callv (.v (.bool r11)), .dec true, .callv (.v (.bool r14)), .dec true, .callv (.v (.bool r17)), .dec true, .callv (.v (.bool r20)), .dec false]) (hrun := by kernel_rfl) (hps := pc (k_names_judge_few h3) <| pc (h4) <| pc (k_names_all_Domain_judge_bare h6) <| pc (h7) <| pc (k_names_all_Domain_judge_peers h9) <| pc (h10) <| pc (k_names_all_Port_judge_port h12) <| pc (h13) <| pc (k_names_all_Link_judge_link h15) <| pc (h16) <| pc (k_names_all_Static_judge_static h18) <| pc (h19) <| pc (k_names_all_Flood_Right_1 h21) <| pc (h22) <| pn)
            · injection h with h; subst h; exact runFn_sound mixedOrders Try.func45 rfl (keep := none) (π := [.callv (.v (.bool r2)), .dec true, .callv (.v (.bool r5)), .dec true, .callv (.v (.bool r8)), .dec true, .callv (.v (.bool r11)), .dec true, .callv (.v (.bool r14)), .dec true, .callv (.v (.bool r17)), .dec false]) (hrun := by kernel_rfl) (hps := pc (k_names_judge_few h3) <| pc (h4) <| pc (k_names_all_Domain_judge_bare h6) <| pc (h7) <| pc (k_names_all_Domain_judge_peers h9) <| pc (h10) <| pc (k_names_all_Port_judge_port h12) <| pc (h13) <| pc (k_names_all_Link_judge_link h15) <| pc (h16) <| pc (k_names_all_Static_judge_static h18) <| pc (h19) <| pn)
          · injection h with h; subst h; exact runFn_sound mixedOrders Try.func45 rfl (keep := none) (π := [.callv (.v (.bool r2)), .dec true, .callv (.v (.bool r5)), .dec true, .callv (.v (.bool r8)), .dec true, .callv (.v (.bool r11)), .dec true, .callv (.v (.bool r14)), .dec false]) (hrun := by kernel_rfl) (hps := pc (k_names_judge_few h3) <| pc (h4) <| pc (k_names_all_Domain_judge_bare h6) <| pc (h7) <| pc (k_names_all_Domain_judge_peers h9) <| pc (h10) <| pc (k_names_all_Port_judge_port h12) <| pc (h13) <| pc (k_names_all_Link_judge_link h15) <| pc (h16) <| pn)
        · injection h with h; subst h; exact runFn_sound mixedOrders Try.func45 rfl (keep := none) (π := [.callv (.v (.bool r2)), .dec true, .callv (.v (.bool r5)), .dec true, .callv (.v (.bool r8)), .dec true, .callv (.v (.bool r11)), .dec false]) (hrun := by kernel_rfl) (hps := pc (k_names_judge_few h3) <| pc (h4) <| pc (k_names_all_Domain_judge_bare h6) <| pc (h7) <| pc (k_names_all_Domain_judge_peers h9) <| pc (h10) <| pc (k_names_all_Port_judge_port h12) <| pc (h13) <| pn)
      · injection h with h; subst h; exact runFn_sound mixedOrders Try.func45 rfl (keep := none) (π := [.callv (.v (.bool r2)), .dec true, .callv (.v (.bool r5)), .dec true, .callv (.v (.bool r8)), .dec false]) (hrun := by kernel_rfl) (hps := pc (k_names_judge_few h3) <| pc (h4) <| pc (k_names_all_Domain_judge_bare h6) <| pc (h7) <| pc (k_names_all_Domain_judge_peers h9) <| pc (h10) <| pn)
    · injection h with h; subst h; exact runFn_sound mixedOrders Try.func45 rfl (keep := none) (π := [.callv (.v (.bool r2)), .dec true, .callv (.v (.bool r5)), .dec false]) (hrun := by kernel_rfl) (hps := pc (k_names_judge_few h3) <| pc (h4) <| pc (k_names_all_Domain_judge_bare h6) <| pc (h7) <| pn)
  · injection h with h; subst h; exact runFn_sound mixedOrders Try.func45 rfl (keep := none) (π := [.callv (.v (.bool r2)), .dec false]) (hrun := by kernel_rfl) (hps := pc (k_names_judge_few h3) <| pc (h4) <| pn)

theorem k_tag_Is {a1 : Api_Frame} {r : Bool} (h : tag_Is a1 = some r) :
    CallsOK Try.prog UU 44 [.agg (c37 a1)] [] (.v (.bool r)) [] := by
  unfold tag_Is at h
  injection h with h; subst h; exact runFn_sound mixedOrders Try.func44 rfl (keep := none) (π := []) (hrun := by kernel_rfl) (hps := pn)

theorem k_mac_shift {a1 : Int} {r : Int} (h : mac_shift a1 = some r) :
    CallsOK Try.prog UU 158 [.v (.int .i64 a1)] [] (.v (.int .u64 r)) [] := by
  unfold mac_shift at h
  injection h with h; subst h; exact runFn_sound mixedOrders Try.func158 rfl (keep := none) (π := []) (hrun := by kernel_rfl) (hps := pn)

theorem k_mac_Put_own_L1 {a2 : Int} : LoopOK Try.prog UU 1 19 (subC (codeOf Try.f108) [1, 0, 1, 0, 0]) (fun s : (List Int) × Int => match s with | (l3, v4) => mac_Put_own_L1 a2 l3 v4)
    (fun s : (List Int) × Int => (match s with | (l3, v4) => [(0, .os 0 (List.length l3)), (1, .v (.int .u64 a2)), (4, .os 1 0), (6, .v (.int .i64 v4))] : Fr DD)) (fun s : (List Int) × Int => (match s with | (l3, v4) => [.arr 5 l3 (List.length l3) false, .n 5] : Heap DD)) (fun r => match r with | l12 => .exit 0) (fun r => match r with | l12 => [(0, .os 0 (List.length l12)), (4, .os 1 0)]) (fun r => match r with | l12 => [.arr 5 l12 (List.length l12) false, .n 5]) := by
  refine loop_sound3 (fun s q h => ?_) (fun r => ?_)
  · obtain ⟨l3, v4⟩ := s; replace h : mac_Put_own_L1 a2 l3 v4 = some q := h
    unfold mac_Put_own_L1 at h
    rcases ite_out h with ⟨h5, h⟩ | ⟨h5, h⟩
    · obtain ⟨r6, h7, h⟩ := bind_out h
      rcases ite_out h with ⟨h8, h⟩ | ⟨h8, h⟩
      · rcases ite_out h with ⟨h9, h⟩ | ⟨h9, h⟩
        · injection h with h; subst h; exact runLp_sound mixedOrders (live := [0, 1, 4, 6]) (ids := [0, 1]) (π := [.dec true, .callv (.v (.int .u64 r6)), .obj [] (.arr 5 [(wr_u8 (Int.fdiv a2 (2 ^ (min (Int.toNat r6) 64))) : Int)] (List.length [(wr_u8 (Int.fdiv a2 (2 ^ (min (Int.toNat r6) 64))) : Int)]) false), .obj [] (.arr 5 (l3 ++ [(wr_u8 (Int.fdiv a2 (2 ^ (min (Int.toNat r6) 64))) : Int)]) (List.length (l3 ++ [(wr_u8 (Int.fdiv a2 (2 ^ (min (Int.toNat r6) 64))) : Int)])) false)]) (hx := by kernel_rfl) (hps := pc (h5) <| pc (k_mac_shift h7) <| pc (of_decide_eq_true h8) <| pc (bs_ob 5 [(wr_u8 (Int.fdiv a2 (2 ^ (min (Int.toNat r6) 64))) : Int)]) <| pc (app_ob 5 (n := (List.length l3)) (l := l3) (xs := [(wr_u8 (Int.fdiv a2 (2 ^ (min (Int.toNat r6) 64))) : Int)]) h9) <| pc ((rfl : ((List.length [(wr_u8 (Int.fdiv a2 (2 ^ (min (Int.toNat r6) 64))) : Int)]) : Nat) = (List.length [(wr_u8 (Int.fdiv a2 (2 ^ (min (Int.toNat r6) 64))) : Int)]))) <| pn)
        · cases h
      · cases h
    · injection h with h; subst h; exact runLp_sound mixedOrders (live := [0, 4]) (ids := [0, 1]) (π := [.dec false]) (hx := by kernel_rfl) (hps := pc (h5) <| pn)
  · exact Ex.noConfusion

theorem k_mac_Put_own {a1 : List Int} {a2 : Int} {r : ((List Int))} (h : mac_Put_own a1 a2 = some r) :
    CallsOK Try.prog UU 108 [.os 0 (List.length a1), .v (.int .u64 a2)] [.arr 5 a1 (List.length a1) false] ((fun r => match r with | l15 => .os 0 (List.length l15)) r) ((fun r => match r with | l15 => [.arr 5 l15 (List.length l15) false]) r) := by
  unfold mac_Put_own at h
  obtain ⟨l12, h13, h⟩ := bind_out h
  injection h with h; subst h; exact runFn_sound mixedOrders Try.func108 rfl (keep := some [0]) (π := [.sum [0, 1, 4, 6] [0, 1] (.exit 0) [(0, .os 0 (List.length l12)), (4, .os 1 0)] [.arr 5 l12 (List.length l12) false, .n 5]]) (hrun := by kernel_rfl) (hps := pc (k_mac_Put_own_L1 _ _ h13) <| pn)

theorem k_ether_Put {a1 : Api_Frame} {r : ((List Int) × Int)} (h : ether_Put a1 = some r) :
    CallsOK Try.prog UU 48 [.agg (c37 a1)] [] ((fun r => match r with | (l15, v16) => .tup [.os 0 (List.length l15), .v (.int .i64 v16)]) r) ((fun r => match r with | (l15, v16) => [.arr 5 l15 (List.length l15) false]) r) := by
  unfold ether_Put at h
  rcases ite_out h with ⟨h2, h⟩ | ⟨h2, h⟩
  · injection h with h; subst h; exact runFn_sound mixedOrders Try.func48 rfl (keep := some [2]) (π := [.dec true]) (hrun := by kernel_rfl) (hps := pc (h2) <| pn)
  · rcases ite_out h with ⟨h3, h⟩ | ⟨h3, h⟩
    · injection h with h; subst h; exact runFn_sound mixedOrders Try.func48 rfl (keep := some [2]) (π := [.dec false, .dec true]) (hrun := by kernel_rfl) (hps := pc (h2) <| pc (h3) <| pn)
    · rcases ite_out h with ⟨h4, h⟩ | ⟨h4, h⟩
      · injection h with h; subst h; exact runFn_sound mixedOrders Try.func48 rfl (keep := some [2]) (π := [.dec false, .dec false, .dec true]) (hrun := by kernel_rfl) (hps := pc (h2) <| pc (h3) <| pc (h4) <| pn)
      · rcases ite_out h with ⟨h5, h⟩ | ⟨h5, h⟩
        · injection h with h; subst h; exact runFn_sound mixedOrders Try.func48 rfl (keep := some [2]) (π := [.dec false, .dec false, .dec false, .dec true]) (hrun := by kernel_rfl) (hps := pc (h2) <| pc (h3) <| pc (h4) <| pc (h5) <| pn)
        · rcases ite_out h with ⟨h6, h⟩ | ⟨h6, h⟩
          · injection h with h; subst h; exact runFn_sound mixedOrders Try.func48 rfl (keep := some [2]) (π := [.dec false, .dec false, .dec false, .dec false, .dec true]) (hrun := by kernel_rfl) (hps := pc (h2) <| pc (h3) <| pc (h4) <| pc (h5) <| pc (h6) <| pn)
          · obtain ⟨l9, h8, h⟩ := bind_out h
            obtain ⟨l12, h11, h⟩ := bind_out h
            rcases ite_out h with ⟨h13, h⟩ | ⟨h13, h⟩
            · rcases ite_out h with ⟨h14, h⟩ | ⟨h14, h⟩
              · injection h with h; subst h; exact runFn_sound mixedOrders Try.func48 rfl (keep := some [2]) (π := [.dec false, .dec false, .dec false, .dec false, .dec false, .sum [2] [] .nor [] [.box 37 (c37 a1) false, .n 5, .arr 5 l9 (List.length l9) false], .skp, .callm [2] (.os 0 (List.length l9)) [.arr 5 l9 (List.length l9) false], .callm [2] (.os 0 (List.length l12)) [.arr 5 l12 (List.length l12) false], .sum [9] [] .nor [] [.box 37 (c37 a1) false, .n 5, .arr 5 (l12 ++ [(wr_u8 (Int.fdiv a1.type_ (2 ^ 8)) : Int), (wr_u8 a1.type_ : Int)]) (List.length (l12 ++ [(wr_u8 (Int.fdiv a1.type_ (2 ^ 8)) : Int), (wr_u8 a1.type_ : Int)])) false], .obj [] (.arr 5 [(wr_u8 (Int.fdiv a1.type_ (2 ^ 8)) : Int), (wr_u8 a1.type_ : Int)] (List.length [(wr_u8 (Int.fdiv a1.type_ (2 ^ 8)) : Int), (wr_u8 a1.type_ : Int)]) false), .obj [] (.arr 5 (l12 ++ [(wr_u8 (Int.fdiv a1.type_ (2 ^ 8)) : Int), (wr_u8 a1.type_ : Int)]) (List.length (l12 ++ [(wr_u8 (Int.fdiv a1.type_ (2 ^ 8)) : Int), (wr_u8 a1.type_ : Int)])) false), .obj [] (.arr 5 ((l12 ++ [(wr_u8 (Int.fdiv a1.type_ (2 ^ 8)) : Int), (wr_u8 a1.type_ : Int)]) ++ a1.body) (List.length ((l12 ++ [(wr_u8 (Int.fdiv a1.type_ (2 ^ 8)) : Int), (wr_u8 a1.type_ : Int)]) ++ a1.body)) false)]) (hrun := by kernel_rfl) (hps := pc (h2) <| pc (h3) <| pc (h4) <| pc (h5) <| pc (h6) <| pc ((rfl : ([.box 37 (c37 a1) false, .n 5, .arr 5 l9 (List.length l9) false] : Heap DD) = [.box 37 (c37 a1) false, .n 5, .arr 5 l9 (List.length l9) false])) <| pc (k_mac_Put_own h8) <| pc ((rfl : (.op 0 1 0 1 : AV DD) = .op 0 1 0 1)) <| pc ((rfl : (.v (.int .u64 a1.src) : AV DD) = .v (.int .u64 a1.src))) <| pc (k_mac_Put_own h11) <| pc ((show (0 : Int) ≤ 8 from by decide)) <| pc (bs_ob 5 [(wr_u8 (Int.fdiv a1.type_ (2 ^ 8)) : Int), (wr_u8 a1.type_ : Int)]) <| pc ((rfl : ([.box 37 (c37 a1) false, .n 5, .arr 5 (l12 ++ [(wr_u8 (Int.fdiv a1.type_ (2 ^ 8)) : Int), (wr_u8 a1.type_ : Int)]) (List.length (l12 ++ [(wr_u8 (Int.fdiv a1.type_ (2 ^ 8)) : Int), (wr_u8 a1.type_ : Int)])) false] : Heap DD) = [.box 37 (c37 a1) false, .n 5, .arr 5 (l12 ++ [(wr_u8 (Int.fdiv a1.type_ (2 ^ 8)) : Int), (wr_u8 a1.type_ : Int)]) (List.length (l12 ++ [(wr_u8 (Int.fdiv a1.type_ (2 ^ 8)) : Int), (wr_u8 a1.type_ : Int)])) false])) <| pc (app_ob 5 (n := (List.length l12)) (l := l12) (xs := [(wr_u8 (Int.fdiv a1.type_ (2 ^ 8)) : Int), (wr_u8 a1.type_ : Int)]) h13) <| pc ((rfl : (.op 0 1 0 3 : AV DD) = .op 0 1 0 3)) <| pc ((rfl : (.sl 5 a1.body : AV DD) = .sl 5 a1.body)) <| pc (app_ob 5 (n := (List.length (l12 ++ [(wr_u8 (Int.fdiv a1.type_ (2 ^ 8)) : Int), (wr_u8 a1.type_ : Int)]))) (l := l12 ++ [(wr_u8 (Int.fdiv a1.type_ (2 ^ 8)) : Int), (wr_u8 a1.type_ : Int)]) (xs := a1.body) h14) <| pn)
              · cases h
            · cases h

theorem k_leave_whole_bare {a1 : Leave_whole} {a2 : Api_Frame} {a3 : Int} {r : ((List Int) × Int)} (h : leave_whole_bare a1 a2 a3 = some r) :
    CallsOK Try.prog UU 77 [.agg (c141 a1), .agg (c37 a2), .v (.int .i64 a3)] [] ((fun r => match r with | (l8, v9) => .tup [.os 0 (List.length l8), .v (.int .i64 v9)]) r) ((fun r => match r with | (l8, v9) => [.arr 5 l8 (List.length l8) false]) r) := by
  unfold leave_whole_bare at h
  obtain ⟨r4, h5, h⟩ := bind_out h
  obtain ⟨l6, v7⟩ := r4
  injection h with h; subst h; exact runFn_sound mixedOrders Try.func77 rfl (keep := some [3]) (π := [.callo (.tup [.os 0 (List.length l6), .v (.int .i64 v7)]) [.arr 5 l6 (List.length l6) false]]) (hrun := by kernel_rfl) (hps := pc (k_ether_Put h5) <| pc (im5 l6) <| pn)

theorem k_tag_Add_J1 {a1 : Api_Frame} {a2 : Int} {a3 : Int} {r : Bool} (h : tag_Add_J1 a1 a2 a3 = some r) :
    ExecOK Try.prog UU 0 72 (subC (codeOf Try.f129) [1, 0, 0, 0]) [(1, .v (.int .i64 a2)), (2, .v (.int .i64 a3)), (3, .op 0 1 0 0), (6, .op 1 1 0 0), (7, .z)] [.box 37 (c37 a1) false, .box 37 [.v (.int .u64 0), .v (.int .u64 0), .z, .os 2 0] false, .n 5] ((fun r => match r with | v11 => .nor) r) ((fun r => match r with | v11 => [(1, .v (.int .i64 a2)), (2, .v (.int .i64 a3)), (3, .op 0 1 0 0), (6, .op 1 1 0 0), (7, .z), (10, .v (.bool v11))]) r) ((fun r => match r with | v11 => [.box 37 (c37 a1) false, .box 37 [.v (.int .u64 0), .v (.int .u64 0), .z, .os 2 0] false, .n 5]) r) := by
  unfold tag_Add_J1 at h
  obtain ⟨r4, h5, h⟩ := bind_out h
  rcases ite_out h with ⟨h6, h⟩ | ⟨h6, h⟩
  · injection h with h; subst h; exact runLp_sound mixedOrders (live := [1, 2, 3, 6, 7, 10]) (ids := [0, 1, 2]) (π := [.callv (.v (.bool r4)), .dec true]) (hx := by kernel_rfl) (hps := pc (k_tag_Is h5) <| pc (h6) <| pn)
  · rcases ite_out h with ⟨h7, h⟩ | ⟨h7, h⟩
    · injection h with h; subst h; exact runLp_sound mixedOrders (live := [1, 2, 3, 6, 7, 10]) (ids := [0, 1, 2]) (π := [.callv (.v (.bool r4)), .dec false, .dec true]) (hx := by kernel_rfl) (hps := pc (k_tag_Is h5) <| pc (h6) <| pc (h7) <| pn)
    · rcases ite_out h with ⟨h8, h⟩ | ⟨h8, h⟩
      · injection h with h; subst h; exact runLp_sound mixedOrders (live := [1, 2, 3, 6, 7, 10]) (ids := [0, 1, 2]) (π := [.callv (.v (.bool r4)), .dec false, .dec false, .dec true]) (hx := by kernel_rfl) (hps := pc (k_tag_Is h5) <| pc (h6) <| pc (h7) <| pc (h8) <| pn)
      · rcases ite_out h with ⟨h9, h⟩ | ⟨h9, h⟩
        · injection h with h; subst h; exact runLp_sound mixedOrders (live := [1, 2, 3, 6, 7, 10]) (ids := [0, 1, 2]) (π := [.callv (.v (.bool r4)), .dec false, .dec false, .dec false, .dec true]) (hx := by kernel_rfl) (hps := pc (k_tag_Is h5) <| pc (h6) <| pc (h7) <| pc (h8) <| pc (h9) <| pn)
        · injection h with h; subst h; exact runLp_sound mixedOrders (live := [1, 2, 3, 6, 7, 10]) (ids := [0, 1, 2]) (π := [.callv (.v (.bool r4)), .dec false, .dec false, .dec false, .dec false]) (hx := by kernel_rfl) (hps := pc (k_tag_Is h5) <| pc (h6) <| pc (h7) <| pc (h8) <| pc (h9) <| pn)

theorem k_tag_Add_J2 {a1 : Api_Frame} {a2 : Int} {a3 : Int} {r : Bool} (h : tag_Add_J2 a1 a2 a3 = some r) :
    ExecOK Try.prog UU 0 72 (subC (codeOf Try.f129) [1, 0, 0, 1, 1, 0]) [(1, .v (.int .i64 a2)), (2, .v (.int .i64 a3)), (3, .op 0 1 0 0), (6, .op 1 1 0 0), (7, .z)] [.box 37 (c37 a1) false, .box 37 [.v (.int .u64 0), .v (.int .u64 0), .z, .os 2 0] false, .n 5] ((fun r => match r with | v17 => .nor) r) ((fun r => match r with | v17 => [(1, .v (.int .i64 a2)), (2, .v (.int .i64 a3)), (3, .op 0 1 0 0), (6, .op 1 1 0 0), (7, .z), (30, .v (.bool v17))]) r) ((fun r => match r with | v17 => [.box 37 (c37 a1) false, .box 37 [.v (.int .u64 0), .v (.int .u64 0), .z, .os 2 0] false, .n 5]) r) := by
  unfold tag_Add_J2 at h
  rcases ite_out h with ⟨h15, h⟩ | ⟨h15, h⟩
  · injection h with h; subst h; exact runLp_sound mixedOrders (live := [1, 2, 3, 6, 7, 30]) (ids := [0, 1, 2]) (π := [.dec true]) (hx := by kernel_rfl) (hps := pc (h15) <| pn)
  · injection h with h; subst h; exact runLp_sound mixedOrders (live := [1, 2, 3, 6, 7, 30]) (ids := [0, 1, 2]) (π := [.dec false]) (hx := by kernel_rfl) (hps := pc (h15) <| pn)

theorem k_tag_Add {a1 : Api_Frame} {a2 : Int} {a3 : Int} {r : ((List Int) × Int × Int × Int × Int)} (h : tag_Add a1 a2 a3 = some r) :
    CallsOK Try.prog UU 129 [.agg (c37 a1), .v (.int .i64 a2), .v (.int .i64 a3)] [] ((fun r => match r with | (l23, v24, v25, v26, v27) => .tup [.agg [.v (.int .u64 v24), .v (.int .u64 v25), .v (.int .i64 v26), .os 0 (List.length l23)], .v (.int .i64 v27)]) r) ((fun r => match r with | (l23, v24, v25, v26, v27) => [.arr 5 l23 (List.length l23) false]) r) := by
  unfold tag_Add at h
  obtain ⟨v11, h12, h⟩ := bind_out h
  rcases ite_out h with ⟨h14, h⟩ | ⟨h14, h⟩
  · injection h with h; subst h; exact runFn_sound mixedOrders Try.func129 rfl (keep := some [3]) (π := [.skp, .skp, .cut [1, 2, 3, 6, 7] [0, 2, 1] .nor [(1, .v (.int .i64 a2)), (2, .v (.int .i64 a3)), (3, .op 0 1 0 0), (6, .op 1 1 0 0), (7, .z), (10, .v (.bool v11))] [.box 37 (c37 a1) false, .box 37 [.v (.int .u64 0), .v (.int .u64 0), .z, .os 2 0] false, .n 5], .dec true]) (hrun := by kernel_rfl) (hps := pc (k_tag_Add_J1 h12) <| pc (h14) <| pn)
  · obtain ⟨v17, h18, h⟩ := bind_out h
    rcases ite_out h with ⟨h20, h⟩ | ⟨h20, h⟩
    · injection h with h; subst h; exact runFn_sound mixedOrders Try.func129 rfl (keep := some [3]) (π := [.skp, .skp, .cut [1, 2, 3, 6, 7] [0, 2, 1] .nor [(1, .v (.int .i64 a2)), (2, .v (.int .i64 a3)), (3, .op 0 1 0 0), (6, .op 1 1 0 0), (7, .z), (10, .v (.bool v11))] [.box 37 (c37 a1) false, .box 37 [.v (.int .u64 0), .v (.int .u64 0), .z, .os 2 0] false, .n 5], .dec false, .cut [1, 2, 3, 6, 7] [0, 1, 2] .nor [(1, .v (.int .i64 a2)), (2, .v (.int .i64 a3)), (3, .op 0 1 0 0), (6, .op 1 1 0 0), (7, .z), (30, .v (.bool v17))] [.box 37 (c37 a1) false, .box 37 [.v (.int .u64 0), .v (.int .u64 0), .z, .os 2 0] false, .n 5], .dec true]) (hrun := by kernel_rfl) (hps := pc (k_tag_Add_J1 h12) <| pc (h14) <| pc (k_tag_Add_J2 h18) <| pc (h20) <| pn)
    · rcases ite_out h with ⟨h21, h⟩ | ⟨h21, h⟩
      · injection h with h; subst h; exact runFn_sound mixedOrders Try.func129 rfl (keep := some [3]) (π := [.skp, .skp, .cut [1, 2, 3, 6, 7] [0, 2, 1] .nor [(1, .v (.int .i64 a2)), (2, .v (.int .i64 a3)), (3, .op 0 1 0 0), (6, .op 1 1 0 0), (7, .z), (10, .v (.bool v11))] [.box 37 (c37 a1) false, .box 37 [.v (.int .u64 0), .v (.int .u64 0), .z, .os 2 0] false, .n 5], .dec false, .cut [1, 2, 3, 6, 7] [0, 1, 2] .nor [(1, .v (.int .i64 a2)), (2, .v (.int .i64 a3)), (3, .op 0 1 0 0), (6, .op 1 1 0 0), (7, .z), (30, .v (.bool v17))] [.box 37 (c37 a1) false, .box 37 [.v (.int .u64 0), .v (.int .u64 0), .z, .os 2 0] false, .n 5], .dec false, .dec true]) (hrun := by kernel_rfl) (hps := pc (k_tag_Add_J1 h12) <| pc (h14) <| pc (k_tag_Add_J2 h18) <| pc (h20) <| pc (h21) <| pn)
      · rcases ite_out h with ⟨h22, h⟩ | ⟨h22, h⟩
        · injection h with h; subst h; exact runFn_sound mixedOrders Try.func129 rfl (keep := some [3]) (π := [.skp, .skp, .cut [1, 2, 3, 6, 7] [0, 2, 1] .nor [(1, .v (.int .i64 a2)), (2, .v (.int .i64 a3)), (3, .op 0 1 0 0), (6, .op 1 1 0 0), (7, .z), (10, .v (.bool v11))] [.box 37 (c37 a1) false, .box 37 [.v (.int .u64 0), .v (.int .u64 0), .z, .os 2 0] false, .n 5], .dec false, .cut [1, 2, 3, 6, 7] [0, 1, 2] .nor [(1, .v (.int .i64 a2)), (2, .v (.int .i64 a3)), (3, .op 0 1 0 0), (6, .op 1 1 0 0), (7, .z), (30, .v (.bool v17))] [.box 37 (c37 a1) false, .box 37 [.v (.int .u64 0), .v (.int .u64 0), .z, .os 2 0] false, .n 5], .dec false, .dec false, .obj [] (.arr 5 [(wr_u8 (Int.fdiv (bits_or .i64 (wr_i64 (a3 * 2 ^ 12)) a2) (2 ^ 8)) : Int), (wr_u8 (bits_or .i64 (wr_i64 (a3 * 2 ^ 12)) a2) : Int), (wr_u8 (Int.fdiv a1.type_ (2 ^ 8)) : Int), (wr_u8 a1.type_ : Int)] (List.length [(wr_u8 (Int.fdiv (bits_or .i64 (wr_i64 (a3 * 2 ^ 12)) a2) (2 ^ 8)) : Int), (wr_u8 (bits_or .i64 (wr_i64 (a3 * 2 ^ 12)) a2) : Int), (wr_u8 (Int.fdiv a1.type_ (2 ^ 8)) : Int), (wr_u8 a1.type_ : Int)]) false), .sum [7] [] .nor [] [.box 37 (c37 a1) false, .box 37 [.v (.int .u64 0), .v (.int .u64 0), .z, .os 2 0] false, .n 5, .arr 5 ([(wr_u8 (Int.fdiv (bits_or .i64 (wr_i64 (a3 * 2 ^ 12)) a2) (2 ^ 8)) : Int), (wr_u8 (bits_or .i64 (wr_i64 (a3 * 2 ^ 12)) a2) : Int), (wr_u8 (Int.fdiv a1.type_ (2 ^ 8)) : Int), (wr_u8 a1.type_ : Int)] ++ a1.body) (List.length ([(wr_u8 (Int.fdiv (bits_or .i64 (wr_i64 (a3 * 2 ^ 12)) a2) (2 ^ 8)) : Int), (wr_u8 (bits_or .i64 (wr_i64 (a3 * 2 ^ 12)) a2) : Int), (wr_u8 (Int.fdiv a1.type_ (2 ^ 8)) : Int), (wr_u8 a1.type_ : Int)] ++ a1.body)) false], .obj [] (.arr 5 ([(wr_u8 (Int.fdiv (bits_or .i64 (wr_i64 (a3 * 2 ^ 12)) a2) (2 ^ 8)) : Int), (wr_u8 (bits_or .i64 (wr_i64 (a3 * 2 ^ 12)) a2) : Int), (wr_u8 (Int.fdiv a1.type_ (2 ^ 8)) : Int), (wr_u8 a1.type_ : Int)] ++ a1.body) (List.length ([(wr_u8 (Int.fdiv (bits_or .i64 (wr_i64 (a3 * 2 ^ 12)) a2) (2 ^ 8)) : Int), (wr_u8 (bits_or .i64 (wr_i64 (a3 * 2 ^ 12)) a2) : Int), (wr_u8 (Int.fdiv a1.type_ (2 ^ 8)) : Int), (wr_u8 a1.type_ : Int)] ++ a1.body)) false)]) (hrun := by kernel_rfl) (hps := pc (k_tag_Add_J1 h12) <| pc (h14) <| pc (k_tag_Add_J2 h18) <| pc (h20) <| pc (h21) <| pc ((show (0 : Int) ≤ 12 from by decide)) <| pc ((show (0 : Int) ≤ 8 from by decide)) <| pc ((show (0 : Int) ≤ 8 from by decide)) <| pc (bs_ob 5 [(wr_u8 (Int.fdiv (bits_or .i64 (wr_i64 (a3 * 2 ^ 12)) a2) (2 ^ 8)) : Int), (wr_u8 (bits_or .i64 (wr_i64 (a3 * 2 ^ 12)) a2) : Int), (wr_u8 (Int.fdiv a1.type_ (2 ^ 8)) : Int), (wr_u8 a1.type_ : Int)]) <| pc ((rfl : (.op 0 1 0 0 : AV DD) = .op 0 1 0 0)) <| pc ((rfl : (.v (.int .u64 a1.dst) : AV DD) = .v (.int .u64 a1.dst))) <| pc ((rfl : (.op 0 1 0 1 : AV DD) = .op 0 1 0 1)) <| pc ((rfl : (.v (.int .u64 a1.src) : AV DD) = .v (.int .u64 a1.src))) <| pc ((rfl : ([.box 37 (c37 a1) false, .box 37 [.v (.int .u64 0), .v (.int .u64 0), .z, .os 2 0] false, .n 5, .arr 5 ([(wr_u8 (Int.fdiv (bits_or .i64 (wr_i64 (a3 * 2 ^ 12)) a2) (2 ^ 8)) : Int), (wr_u8 (bits_or .i64 (wr_i64 (a3 * 2 ^ 12)) a2) : Int), (wr_u8 (Int.fdiv a1.type_ (2 ^ 8)) : Int), (wr_u8 a1.type_ : Int)] ++ a1.body) (List.length ([(wr_u8 (Int.fdiv (bits_or .i64 (wr_i64 (a3 * 2 ^ 12)) a2) (2 ^ 8)) : Int), (wr_u8 (bits_or .i64 (wr_i64 (a3 * 2 ^ 12)) a2) : Int), (wr_u8 (Int.fdiv a1.type_ (2 ^ 8)) : Int), (wr_u8 a1.type_ : Int)] ++ a1.body)) false] : Heap DD) = [.box 37 (c37 a1) false, .box 37 [.v (.int .u64 0), .v (.int .u64 0), .z, .os 2 0] false, .n 5, .arr 5 ([(wr_u8 (Int.fdiv (bits_or .i64 (wr_i64 (a3 * 2 ^ 12)) a2) (2 ^ 8)) : Int), (wr_u8 (bits_or .i64 (wr_i64 (a3 * 2 ^ 12)) a2) : Int), (wr_u8 (Int.fdiv a1.type_ (2 ^ 8)) : Int), (wr_u8 a1.type_ : Int)] ++ a1.body) (List.length ([(wr_u8 (Int.fdiv (bits_or .i64 (wr_i64 (a3 * 2 ^ 12)) a2) (2 ^ 8)) : Int), (wr_u8 (bits_or .i64 (wr_i64 (a3 * 2 ^ 12)) a2) : Int), (wr_u8 (Int.fdiv a1.type_ (2 ^ 8)) : Int), (wr_u8 a1.type_ : Int)] ++ a1.body)) false])) <| pc (app_ob 5 (n := (List.length [(wr_u8 (Int.fdiv (bits_or .i64 (wr_i64 (a3 * 2 ^ 12)) a2) (2 ^ 8)) : Int), (wr_u8 (bits_or .i64 (wr_i64 (a3 * 2 ^ 12)) a2) : Int), (wr_u8 (Int.fdiv a1.type_ (2 ^ 8)) : Int), (wr_u8 a1.type_ : Int)])) (l := [(wr_u8 (Int.fdiv (bits_or .i64 (wr_i64 (a3 * 2 ^ 12)) a2) (2 ^ 8)) : Int), (wr_u8 (bits_or .i64 (wr_i64 (a3 * 2 ^ 12)) a2) : Int), (wr_u8 (Int.fdiv a1.type_ (2 ^ 8)) : Int), (wr_u8 a1.type_ : Int)]) (xs := a1.body) h22) <| pn)
        · cases h

theorem k_leave_whole_tagged {a1 : Leave_whole} {a2 : Api_Frame} {a3 : Int} {r : ((List Int) × Int)} (h : leave_whole_tagged a1 a2 a3 = some r) :
    CallsOK Try.prog UU 75 [.agg (c141 a1), .agg (c37 a2), .v (.int .i64 a3)] [] ((fun r => match r with | (l16, v17) => .tup [.os 0 (List.length l16), .v (.int .i64 v17)]) r) ((fun r => match r with | (l16, v17) => [.arr 5 l16 (List.length l16) false]) r) := by
  unfold leave_whole_tagged at h
  obtain ⟨r4, h5, h⟩ := bind_out h
  obtain ⟨l6, v7, v8, v9, v10⟩ := r4
  rcases ite_out h with ⟨h11, h⟩ | ⟨h11, h⟩
  · injection h with h; subst h; exact runFn_sound mixedOrders Try.func75 rfl (keep := some [6]) (π := [.callo (.tup [.agg [.v (.int .u64 v7), .v (.int .u64 v8), .v (.int .i64 v9), .os 0 (List.length l6)], .v (.int .i64 v10)]) [.arr 5 l6 (List.length l6) false], .dec true]) (hrun := by kernel_rfl) (hps := pc (k_tag_Add h5) <| pc (im5 l6) <| pc (h11) <| pn)
  · obtain ⟨r12, h13, h⟩ := bind_out h
    obtain ⟨l14, v15⟩ := r12
    injection h with h; subst h; exact runFn_sound mixedOrders Try.func75 rfl (keep := some [6]) (π := [.callo (.tup [.agg [.v (.int .u64 v7), .v (.int .u64 v8), .v (.int .i64 v9), .os 0 (List.length l6)], .v (.int .i64 v10)]) [.arr 5 l6 (List.length l6) false], .dec false, .callo (.tup [.os 0 (List.length l14), .v (.int .i64 v15)]) [.arr 5 l14 (List.length l14) false]]) (hrun := by kernel_rfl) (hps := pc (k_tag_Add h5) <| pc (im5 l6) <| pc (h11) <| pc (k_ether_Put h13) <| pc (im5 l14) <| pc ((rfl : ((List.length l6) : Nat) = (List.length l6))) <| pn)

theorem k_leave_At_J1 {a1 : Api_Net} {a4 : Api_Frame} {x14 : Api_Port} {x16 : Api_Domain} {r : Bool} (h : leave_At_J1 a1 a4 x14 x16 = some r) :
    ExecOK Try.prog UU 0 78 (subC (codeOf Try.f36) [1, 1, 1, 1, 1, 0, 0, 0]) [(7, .op 0 1 0 0), (8, .os 1 0), (9, .z), (10, .op 2 1 0 0), (11, .op 3 1 0 0), (12, .op 4 1 0 0), (13, .fn (.func 75) [.agg [.sl 138 a1.devices, .sl 96 a1.ports, .sl 153 a1.links, .sl 85 a1.domains, .sl 166 a1.statics, .sl 128 a1.floods, .sl 71 a1.vrfs, .sl 68 a1.irbs]] [])] [.box 37 (c37 a4) false, .n 5, .box 96 (c96 x14) false, .box 85 (c85 x16) false, .box 141 [.sl 138 a1.devices, .sl 96 a1.ports, .sl 153 a1.links, .sl 85 a1.domains, .sl 166 a1.statics, .sl 128 a1.floods, .sl 71 a1.vrfs, .sl 68 a1.irbs] false] ((fun r => match r with | v22 => .nor) r) ((fun r => match r with | v22 => [(7, .op 0 1 0 0), (8, .os 1 0), (9, .z), (10, .op 2 1 0 0), (11, .op 3 1 0 0), (12, .op 4 1 0 0), (13, .fn (.func 75) [.agg [.sl 138 a1.devices, .sl 96 a1.ports, .sl 153 a1.links, .sl 85 a1.domains, .sl 166 a1.statics, .sl 128 a1.floods, .sl 71 a1.vrfs, .sl 68 a1.irbs]] []), (47, .v (.bool v22))]) r) ((fun r => match r with | v22 => [.box 37 (c37 a4) false, .n 5, .box 96 (c96 x14) false, .box 85 (c85 x16) false, .box 141 [.sl 138 a1.devices, .sl 96 a1.ports, .sl 153 a1.links, .sl 85 a1.domains, .sl 166 a1.statics, .sl 128 a1.floods, .sl 71 a1.vrfs, .sl 68 a1.irbs] false]) r) := by
  unfold leave_At_J1 at h
  rcases ite_out h with ⟨h18, h⟩ | ⟨h18, h⟩
  · injection h with h; subst h; exact runLp_sound mixedOrders (live := [7, 8, 9, 10, 11, 12, 13, 47]) (ids := [0, 1, 2, 3, 4]) (π := [.dec true]) (hx := by kernel_rfl) (hps := pc (h18) <| pn)
  · obtain ⟨r19, h20, h⟩ := bind_out h
    injection h with h; subst h; exact runLp_sound mixedOrders (live := [7, 8, 9, 10, 11, 12, 13, 47]) (ids := [0, 1, 2, 3, 4]) (π := [.dec false, .callv (.v (.bool r19))]) (hx := by kernel_rfl) (hps := pc (h18) <| pc (k_names_Member h20) <| pn)

theorem k_leave_At {a1 : Api_Net} {a2 : Int} {a3 : Int} {a4 : Api_Frame} {r : ((List Int) × Int)} (h : leave_At a1 a2 a3 a4 = some r) :
    CallsOK Try.prog UU 36 [.agg (c61 a1), .v (.int .i64 a2), .v (.int .i64 a3), .agg (c37 a4)] [] ((fun r => match r with | (l38, v39) => .tup [.os 0 (List.length l38), .v (.int .i64 v39)]) r) ((fun r => match r with | (l38, v39) => [.arr 5 l38 (List.length l38) false]) r) := by
  unfold leave_At at h
  obtain ⟨r5, h6, h⟩ := bind_out h
  rcases ite_out h with ⟨h7, h⟩ | ⟨h7, h⟩
  · injection h with h; subst h; exact runFn_sound mixedOrders Try.func36 rfl (keep := some [3]) (π := [.callv (.v (.bool r5)), .dec true]) (hrun := by kernel_rfl) (hps := pc (k_leave_place h6) <| pc (h7) <| pn)
  · obtain ⟨r8, h9, h⟩ := bind_out h
    rcases ite_out h with ⟨h10, h⟩ | ⟨h10, h⟩
    · injection h with h; subst h; exact runFn_sound mixedOrders Try.func36 rfl (keep := some [3]) (π := [.callv (.v (.bool r5)), .dec false, .callv (.v (.bool r8)), .dec true]) (hrun := by kernel_rfl) (hps := pc (k_leave_place h6) <| pc (h7) <| pc (k_leave_place h9) <| pc (h10) <| pn)
    · obtain ⟨r11, h12, h⟩ := bind_out h
      rcases ite_out h with ⟨h13, h⟩ | ⟨h13, h⟩
      · injection h with h; subst h; exact runFn_sound mixedOrders Try.func36 rfl (keep := some [3]) (π := [.callv (.v (.bool r5)), .dec false, .callv (.v (.bool r8)), .dec false, .callv (.v (.bool r11)), .dec true]) (hrun := by kernel_rfl) (hps := pc (k_leave_place h6) <| pc (h7) <| pc (k_leave_place h9) <| pc (h10) <| pc (k_names_Right h12) <| pc (h13) <| pn)
      · obtain ⟨x14, h15, h⟩ := bind_out h
        obtain ⟨x16, h17, h⟩ := bind_out h
        obtain ⟨v22, h23, h⟩ := bind_out h
        rcases ite_out h with ⟨h25, h⟩ | ⟨h25, h⟩
        · injection h with h; subst h; exact runFn_sound mixedOrders Try.func36 rfl (keep := some [5]) (π := [.callv (.v (.bool r5)), .dec false, .callv (.v (.bool r8)), .dec false, .callv (.v (.bool r11)), .dec false, .row (c96 x14), .row (c85 x16), .skp, .skp, .skp, .cut [7, 8, 9, 10, 11, 12, 13] [1, 2, 3, 5, 14] .nor [(7, .op 0 1 0 0), (8, .os 1 0), (9, .z), (10, .op 2 1 0 0), (11, .op 3 1 0 0), (12, .op 4 1 0 0), (13, .fn (.func 75) [.agg [.sl 138 a1.devices, .sl 96 a1.ports, .sl 153 a1.links, .sl 85 a1.domains, .sl 166 a1.statics, .sl 128 a1.floods, .sl 71 a1.vrfs, .sl 68 a1.irbs]] []), (47, .v (.bool v22))] [.box 37 (c37 a4) false, .n 5, .box 96 (c96 x14) false, .box 85 (c85 x16) false, .box 141 [.sl 138 a1.devices, .sl 96 a1.ports, .sl 153 a1.links, .sl 85 a1.domains, .sl 166 a1.statics, .sl 128 a1.floods, .sl 71 a1.vrfs, .sl 68 a1.irbs] false], .dec true]) (hrun := by kernel_rfl) (hps := pc (k_leave_place h6) <| pc (h7) <| pc (k_leave_place h9) <| pc (h10) <| pc (k_names_Right h12) <| pc (h13) <| pc (ob96 h15) <| pc (ob85 h17) <| pc (k_leave_At_J1 h23) <| pc (h25) <| pn)
        · obtain ⟨r26, h27, h⟩ := bind_out h
          rcases ite_out h with ⟨h28, h⟩ | ⟨h28, h⟩
          · injection h with h; subst h; exact runFn_sound mixedOrders Try.func36 rfl (keep := some [5]) (π := [.callv (.v (.bool r5)), .dec false, .callv (.v (.bool r8)), .dec false, .callv (.v (.bool r11)), .dec false, .row (c96 x14), .row (c85 x16), .skp, .skp, .skp, .cut [7, 8, 9, 10, 11, 12, 13] [1, 2, 3, 5, 14] .nor [(7, .op 0 1 0 0), (8, .os 1 0), (9, .z), (10, .op 2 1 0 0), (11, .op 3 1 0 0), (12, .op 4 1 0 0), (13, .fn (.func 75) [.agg [.sl 138 a1.devices, .sl 96 a1.ports, .sl 153 a1.links, .sl 85 a1.domains, .sl 166 a1.statics, .sl 128 a1.floods, .sl 71 a1.vrfs, .sl 68 a1.irbs]] []), (47, .v (.bool v22))] [.box 37 (c37 a4) false, .n 5, .box 96 (c96 x14) false, .box 85 (c85 x16) false, .box 141 [.sl 138 a1.devices, .sl 96 a1.ports, .sl 153 a1.links, .sl 85 a1.domains, .sl 166 a1.statics, .sl 128 a1.floods, .sl 71 a1.vrfs, .sl 68 a1.irbs] false], .dec false, .callv (.v (.bool r26)), .dec true]) (hrun := by kernel_rfl) (hps := pc (k_leave_place h6) <| pc (h7) <| pc (k_leave_place h9) <| pc (h10) <| pc (k_names_Right h12) <| pc (h13) <| pc (ob96 h15) <| pc (ob85 h17) <| pc (k_leave_At_J1 h23) <| pc (h25) <| pc (k_tag_Is h27) <| pc (h28) <| pn)
          · rcases ite_out h with ⟨h29, h⟩ | ⟨h29, h⟩
            · obtain ⟨r30, h31, h⟩ := bind_out h
              obtain ⟨l32, v33⟩ := r30
              injection h with h; subst h; exact runFn_sound mixedOrders Try.func36 rfl (keep := some [5]) (π := [.callv (.v (.bool r5)), .dec false, .callv (.v (.bool r8)), .dec false, .callv (.v (.bool r11)), .dec false, .row (c96 x14), .row (c85 x16), .skp, .skp, .skp, .cut [7, 8, 9, 10, 11, 12, 13] [1, 2, 3, 5, 14] .nor [(7, .op 0 1 0 0), (8, .os 1 0), (9, .z), (10, .op 2 1 0 0), (11, .op 3 1 0 0), (12, .op 4 1 0 0), (13, .fn (.func 75) [.agg [.sl 138 a1.devices, .sl 96 a1.ports, .sl 153 a1.links, .sl 85 a1.domains, .sl 166 a1.statics, .sl 128 a1.floods, .sl 71 a1.vrfs, .sl 68 a1.irbs]] []), (47, .v (.bool v22))] [.box 37 (c37 a4) false, .n 5, .box 96 (c96 x14) false, .box 85 (c85 x16) false, .box 141 [.sl 138 a1.devices, .sl 96 a1.ports, .sl 153 a1.links, .sl 85 a1.domains, .sl 166 a1.statics, .sl 128 a1.floods, .sl 71 a1.vrfs, .sl 68 a1.irbs] false], .dec false, .callv (.v (.bool r26)), .dec false, .dec true, .callo (.tup [.os 0 (List.length l32), .v (.int .i64 v33)]) [.arr 5 l32 (List.length l32) false]]) (hrun := by kernel_rfl) (hps := pc (k_leave_place h6) <| pc (h7) <| pc (k_leave_place h9) <| pc (h10) <| pc (k_names_Right h12) <| pc (h13) <| pc (ob96 h15) <| pc (ob85 h17) <| pc (k_leave_At_J1 h23) <| pc (h25) <| pc (k_tag_Is h27) <| pc (h28) <| pc (h29) <| pc (k_leave_whole_bare h31) <| pc (im5 l32) <| pn)
            · obtain ⟨r34, h35, h⟩ := bind_out h
              obtain ⟨l36, v37⟩ := r34
              injection h with h; subst h; exact runFn_sound mixedOrders Try.func36 rfl (keep := some [5]) (π := [.callv (.v (.bool r5)), .dec false, .callv (.v (.bool r8)), .dec false, .callv (.v (.bool r11)), .dec false, .row (c96 x14), .row (c85 x16), .skp, .skp, .skp, .cut [7, 8, 9, 10, 11, 12, 13] [1, 2, 3, 5, 14] .nor [(7, .op 0 1 0 0), (8, .os 1 0), (9, .z), (10, .op 2 1 0 0), (11, .op 3 1 0 0), (12, .op 4 1 0 0), (13, .fn (.func 75) [.agg [.sl 138 a1.devices, .sl 96 a1.ports, .sl 153 a1.links, .sl 85 a1.domains, .sl 166 a1.statics, .sl 128 a1.floods, .sl 71 a1.vrfs, .sl 68 a1.irbs]] []), (47, .v (.bool v22))] [.box 37 (c37 a4) false, .n 5, .box 96 (c96 x14) false, .box 85 (c85 x16) false, .box 141 [.sl 138 a1.devices, .sl 96 a1.ports, .sl 153 a1.links, .sl 85 a1.domains, .sl 166 a1.statics, .sl 128 a1.floods, .sl 71 a1.vrfs, .sl 68 a1.irbs] false], .dec false, .callv (.v (.bool r26)), .dec false, .dec false, .callo (.tup [.os 0 (List.length l36), .v (.int .i64 v37)]) [.arr 5 l36 (List.length l36) false]]) (hrun := by kernel_rfl) (hps := pc (k_leave_place h6) <| pc (h7) <| pc (k_leave_place h9) <| pc (h10) <| pc (k_names_Right h12) <| pc (h13) <| pc (ob96 h15) <| pc (ob85 h17) <| pc (k_leave_At_J1 h23) <| pc (h25) <| pc (k_tag_Is h27) <| pc (h28) <| pc (h29) <| pc (k_leave_whole_tagged h35) <| pc (im5 l36) <| pn)

end Go.Eng
