/- Part of the proof of PortsKeeps: printed mirrors of the functions, or their contracts. No conditions. -/
import Derived.Test.YtgemllooojijnaaGreatMAK2
set_option linter.unusedVariables false
set_option maxRecDepth 100000
namespace Go.Eng
open Go Go.Proofs
theorem k_slices_Equal_int_L1 {a1 : List Int} {a2 : List Int} : LoopOK Tryz.prog UU 0 26 (subC (codeOf Tryz.f103) [1, 1, 0, 1, 0, 0]) (ρ := Unit ⊕ Unit) (slices_Equal_int_L1 a1 a2)
    (fun v4 : Int => ([(0, .sl 3 a1), (1, .sl 3 a2), (4, .v (.bool false)), (12, .v (.int .i64 (a1.length : Int))), (13, .v (.int .i64 v4))] : Fr DD)) (fun v4 : Int => ([] : Heap DD)) (fun r => match r with | Sum.inl _ => .ret | Sum.inr _ => .exit 0) (fun r => match r with | Sum.inl _ => [(4, .v (.bool false))] | Sum.inr _ => [(4, .v (.bool false))]) (fun r => match r with | Sum.inl _ => [] | Sum.inr _ => []) := by
  refine loop_sound3 (fun s q h => ?_) (fun r => ?_)
  · replace h : slices_Equal_int_L1 a1 a2 s = some q := h; revert h; revert s; intro v4 h
    unfold slices_Equal_int_L1 at h
    rcases ite_out h with ⟨h5, h⟩ | ⟨h5, h⟩
    · obtain ⟨x6, h7, h⟩ := bind_out h
      obtain ⟨x8, h9, h⟩ := bind_out h
      rcases ite_out h with ⟨h10, h⟩ | ⟨h10, h⟩
      · injection h with h; subst h; exact runLp_sound mixedOrders (live := [4]) (ids := []) (π := [.dec true, .row (c3 x6), .row (c3 x8), .dec true]) (hx := by kernel_rfl) (hps := pc (h5) <| pc (ob3 h7) <| pc (ob3 h9) <| pc (h10) <| pn)
      · injection h with h; subst h; exact runLp_sound mixedOrders (live := [0, 1, 4, 12, 13]) (ids := []) (π := [.dec true, .row (c3 x6), .row (c3 x8), .dec false]) (hx := by kernel_rfl) (hps := pc (h5) <| pc (ob3 h7) <| pc (ob3 h9) <| pc (h10) <| pn)
    · injection h with h; subst h; exact runLp_sound mixedOrders (live := [4]) (ids := []) (π := [.dec false]) (hx := by kernel_rfl) (hps := pc (h5) <| pn)
  · rcases r with _ | _ <;> exact Ex.noConfusion

theorem k_slices_Equal_int {a1 : List Int} {a2 : List Int} {r : Bool} (h : slices_Equal_int a1 a2 = some r) :
    CallsOK Tryz.prog UU 103 [.sl 3 a1, .sl 3 a2] [] (.v (.bool r)) [] := by
  unfold slices_Equal_int at h
  rcases ite_out h with ⟨h3, h⟩ | ⟨h3, h⟩
  · injection h with h; subst h; exact runFn_sound mixedOrders Tryz.func103 rfl (keep := none) (π := [.dec true]) (hrun := by kernel_rfl) (hps := pc (h3) <| pn)
  · obtain ⟨r12, h11, h⟩ := bind_out h
    rcases r12 with _ | _
    · injection h with h; subst h; exact runFn_sound mixedOrders Tryz.func103 rfl (keep := none) (π := [.dec false, .sum [0, 1, 4, 12, 13] [] .ret [(4, .v (.bool false))] []]) (hrun := by kernel_rfl) (hps := pc (h3) <| pc (k_slices_Equal_int_L1 _ _ h11) <| pn)
    · injection h with h; subst h; exact runFn_sound mixedOrders Tryz.func103 rfl (keep := none) (π := [.dec false, .sum [0, 1, 4, 12, 13] [] (.exit 0) [(4, .v (.bool false))] []]) (hrun := by kernel_rfl) (hps := pc (h3) <| pc (k_slices_Equal_int_L1 _ _ h11) <| pn)

theorem k_slices_Equal_uint32_L1 {a1 : List Int} {a2 : List Int} : LoopOK Tryz.prog UU 0 26 (subC (codeOf Tryz.f108) [1, 1, 0, 1, 0, 0]) (ρ := Unit ⊕ Unit) (slices_Equal_uint32_L1 a1 a2)
    (fun v4 : Int => ([(0, .sl 33 a1), (1, .sl 33 a2), (4, .v (.bool false)), (12, .v (.int .i64 (a1.length : Int))), (13, .v (.int .i64 v4))] : Fr DD)) (fun v4 : Int => ([] : Heap DD)) (fun r => match r with | Sum.inl _ => .ret | Sum.inr _ => .exit 0) (fun r => match r with | Sum.inl _ => [(4, .v (.bool false))] | Sum.inr _ => [(4, .v (.bool false))]) (fun r => match r with | Sum.inl _ => [] | Sum.inr _ => []) := by
  refine loop_sound3 (fun s q h => ?_) (fun r => ?_)
  · replace h : slices_Equal_uint32_L1 a1 a2 s = some q := h; revert h; revert s; intro v4 h
    unfold slices_Equal_uint32_L1 at h
    rcases ite_out h with ⟨h5, h⟩ | ⟨h5, h⟩
    · obtain ⟨x6, h7, h⟩ := bind_out h
      obtain ⟨x8, h9, h⟩ := bind_out h
      rcases ite_out h with ⟨h10, h⟩ | ⟨h10, h⟩
      · injection h with h; subst h; exact runLp_sound mixedOrders (live := [4]) (ids := []) (π := [.dec true, .row (c33 x6), .row (c33 x8), .dec true]) (hx := by kernel_rfl) (hps := pc (h5) <| pc (ob33 h7) <| pc (ob33 h9) <| pc (h10) <| pn)
      · injection h with h; subst h; exact runLp_sound mixedOrders (live := [0, 1, 4, 12, 13]) (ids := []) (π := [.dec true, .row (c33 x6), .row (c33 x8), .dec false]) (hx := by kernel_rfl) (hps := pc (h5) <| pc (ob33 h7) <| pc (ob33 h9) <| pc (h10) <| pn)
    · injection h with h; subst h; exact runLp_sound mixedOrders (live := [4]) (ids := []) (π := [.dec false]) (hx := by kernel_rfl) (hps := pc (h5) <| pn)
  · rcases r with _ | _ <;> exact Ex.noConfusion

theorem k_slices_Equal_uint32 {a1 : List Int} {a2 : List Int} {r : Bool} (h : slices_Equal_uint32 a1 a2 = some r) :
    CallsOK Tryz.prog UU 108 [.sl 33 a1, .sl 33 a2] [] (.v (.bool r)) [] := by
  unfold slices_Equal_uint32 at h
  rcases ite_out h with ⟨h3, h⟩ | ⟨h3, h⟩
  · injection h with h; subst h; exact runFn_sound mixedOrders Tryz.func108 rfl (keep := none) (π := [.dec true]) (hrun := by kernel_rfl) (hps := pc (h3) <| pn)
  · obtain ⟨r12, h11, h⟩ := bind_out h
    rcases r12 with _ | _
    · injection h with h; subst h; exact runFn_sound mixedOrders Tryz.func108 rfl (keep := none) (π := [.dec false, .sum [0, 1, 4, 12, 13] [] .ret [(4, .v (.bool false))] []]) (hrun := by kernel_rfl) (hps := pc (h3) <| pc (k_slices_Equal_uint32_L1 _ _ h11) <| pn)
    · injection h with h; subst h; exact runFn_sound mixedOrders Tryz.func108 rfl (keep := none) (π := [.dec false, .sum [0, 1, 4, 12, 13] [] (.exit 0) [(4, .v (.bool false))] []]) (hrun := by kernel_rfl) (hps := pc (h3) <| pc (k_slices_Equal_uint32_L1 _ _ h11) <| pn)

theorem k_stmt_Same {a1 : Api_Line} {a2 : Api_Line} {r : Bool} (h : stmt_Same a1 a2 = some r) :
    CallsOK Tryz.prog UU 179 [.agg (c37 a1), .agg (c37 a2)] [] (.v (.bool r)) [] := by
  unfold stmt_Same at h
  rcases ite_out h with ⟨h3, h⟩ | ⟨h3, h⟩
  · rcases ite_out h with ⟨h4, h⟩ | ⟨h4, h⟩
    · rcases ite_out h with ⟨h5, h⟩ | ⟨h5, h⟩
      · rcases ite_out h with ⟨h6, h⟩ | ⟨h6, h⟩
        · rcases ite_out h with ⟨h7, h⟩ | ⟨h7, h⟩
          · rcases ite_out h with ⟨h8, h⟩ | ⟨h8, h⟩
            · rcases ite_out h with ⟨h9, h⟩ | ⟨h9, h⟩
              · rcases ite_out h with ⟨h10, h⟩ | ⟨h10, h⟩
                · rcases ite_out h with ⟨h11, h⟩ | ⟨h11, h⟩
                  · rcases ite_out h with ⟨h12, h⟩ | ⟨h12, h⟩
                    · rcases ite_out h with ⟨h13, h⟩ | ⟨h13, h⟩
                      · rcases ite_out h with ⟨h14, h⟩ | ⟨h14, h⟩
                        · rcases ite_out h with ⟨h15, h⟩ | ⟨h15, h⟩
                          · obtain ⟨r16, h17, h⟩ := bind_out h
                            rcases ite_out h with ⟨h18, h⟩ | ⟨h18, h⟩
                            · obtain ⟨r19, h20, h⟩ := bind_out h
                              rcases ite_out h with ⟨h21, h⟩ | ⟨h21, h⟩
                              · obtain ⟨r22, h23, h⟩ := bind_out h
                                rcases ite_out h with ⟨h24, h⟩ | ⟨h24, h⟩
                                · obtain ⟨r25, h26, h⟩ := bind_out h
                                  injection h with h; subst h; exact runFn_sound mixedOrders Tryz.func179 rfl (keep := none) (π := [.dec true, .dec true, .dec true, .dec true, .dec true, .dec true, .dec true, .dec true, .dec true, .dec true, .dec true, .dec true, .dec true, .callv (.v (.bool r16)), .dec true, .callv (.v (.bool r19)), .dec true, .callv (.v (.bool r22)), .dec true, .callv (.v (.bool r25))]) (hrun := by kernel_rfl) (hps := pc (h3) <| pc (h4) <| pc (h5) <| pc (h6) <| pc (h7) <| pc (h8) <| pc (h9) <| pc (h10) <| pc (h11) <| pc (h12) <| pc (h13) <| pc (h14) <| pc (h15) <| pc (k_slices_Equal_int h17) <| pc (h18) <| pc (k_slices_Equal_int h20) <| pc (h21) <| pc (k_slices_Equal_int h23) <| pc (h24) <| pc (k_slices_Equal_uint32 h26) <| pn)
                                · injection h with h; subst h; exact runFn_sound mixedOrders Tryz.func179 rfl (keep := none) (π := [.dec true, .dec true, .dec true, .dec true, .dec true, .dec true, .dec true, .dec true, .dec true, .dec true, .dec true, .dec true, .dec true, .callv (.v (.bool r16)), .dec true, .callv (.v (.bool r19)), .dec true, .callv (.v (.bool r22)), .dec false]) (hrun := by kernel_rfl) (hps := pc (h3) <| pc (h4) <| pc (h5) <| pc (h6) <| pc (h7) <| pc (h8) <| pc (h9) <| pc (h10) <| pc (h11) <| pc (h12) <| pc (h13) <| pc (h14) <| pc (h15) <| pc (k_slices_Equal_int h17) <| pc (h18) <| pc (k_slices_Equal_int h20) <| pc (h21) <| pc (k_slices_Equal_int h23) <| pc (h24) <| pn)
                              · injection h with h; subst h; exact runFn_sound mixedOrders Tryz.func179 rfl (keep := none) (π := [.dec true, .dec true, .dec true, .dec true, .dec true, .dec true, .dec true, .dec true, .dec true, .dec true, .dec true, .dec true, .dec true, .callv (.v (.bool r16)), .dec true, .callv (.v (.bool r19)), .dec false]) (hrun := by kernel_rfl) (hps := pc (h3) <| pc (h4) <| pc (h5) <| pc (h6) <| pc (h7) <| pc (h8) <| pc (h9) <| pc (h10) <| pc (h11) <| pc (h12) <| pc (h13) <| pc (h14) <| pc (h15) <| pc (k_slices_Equal_int h17) <| pc (h18) <| pc (k_slices_Equal_int h20) <| pc (h21) <| pn)
                            · injection h with h; subst h; exact runFn_sound mixedOrders Tryz.func179 rfl (keep := none) (π := [.dec true, .dec true, .dec true, .dec true, .dec true, .dec true, .dec true, .dec true, .dec true, .dec true, .dec true, .dec true, .dec true, .callv (.v (.bool r16)), .dec false]) (hrun := by kernel_rfl) (hps := pc (h3) <| pc (h4) <| pc (h5) <| pc (h6) <| pc (h7) <| pc (h8) <| pc (h9) <| pc (h10) <| pc (h11) <| pc (h12) <| pc (h13) <| pc (h14) <| pc (h15) <| pc (k_slices_Equal_int h17) <| pc (h18) <| pn)
                          · injection h with h; subst h; exact runFn_sound mixedOrders Tryz.func179 rfl (keep := none) (π := [.dec true, .dec true, .dec true, .dec true, .dec true, .dec true, .dec true, .dec true, .dec true, .dec true, .dec true, .dec true, .dec false]) (hrun := by kernel_rfl) (hps := pc (h3) <| pc (h4) <| pc (h5) <| pc (h6) <| pc (h7) <| pc (h8) <| pc (h9) <| pc (h10) <| pc (h11) <| pc (h12) <| pc (h13) <| pc (h14) <| pc (h15) <| pn)
                        · injection h with h; subst h; exact runFn_sound mixedOrders Tryz.func179 rfl (keep := none) (π := [.dec true, .dec true, .dec true, .dec true, .dec true, .dec true, .dec true, .dec true, .dec true, .dec true, .dec true, .dec false]) (hrun := by kernel_rfl) (hps := pc (h3) <| pc (h4) <| pc (h5) <| pc (h6) <| pc (h7) <| pc (h8) <| pc (h9) <| pc (h10) <| pc (h11) <| pc (h12) <| pc (h13) <| pc (h14) <| pn)
                      · injection h with h; subst h; exact runFn_sound mixedOrders Tryz.func179 rfl (keep := none) (π := [.dec true, .dec true, .dec true, .dec true, .dec true, .dec true, .dec true, .dec true, .dec true, .dec true, .dec false]) (hrun := by kernel_rfl) (hps := pc (h3) <| pc (h4) <| pc (h5) <| pc (h6) <| pc (h7) <| pc (h8) <| pc (h9) <| pc (h10) <| pc (h11) <| pc (h12) <| pc (h13) <| pn)
                    · injection h with h; subst h; exact runFn_sound mixedOrders Tryz.func179 rfl (keep := none) (π := [.dec true, .dec true, .dec true, .dec true, .dec true, .dec true, .dec true, .dec true, .dec true, .dec false]) (hrun := by kernel_rfl) (hps := pc (h3) <| pc (h4) <| pc (h5) <| pc (h6) <| pc (h7) <| pc (h8) <| pc (h9) <| pc (h10) <| pc (h11) <| pc (h12) <| pn)
                  · injection h with h; subst h; exact runFn_sound mixedOrders Tryz.func179 rfl (keep := none) (π := [.dec true, .dec true, .dec true, .dec true, .dec true, .dec true, .dec true, .dec true, .dec false]) (hrun := by kernel_rfl) (hps := pc (h3) <| pc (h4) <| pc (h5) <| pc (h6) <| pc (h7) <| pc (h8) <| pc (h9) <| pc (h10) <| pc (h11) <| pn)
                · injection h with h; subst h; exact runFn_sound mixedOrders Tryz.func179 rfl (keep := none) (π := [.dec true, .dec true, .dec true, .dec true, .dec true, .dec true, .dec true, .dec false]) (hrun := by kernel_rfl) (hps := pc (h3) <| pc (h4) <| pc (h5) <| pc (h6) <| pc (h7) <| pc (h8) <| pc (h9) <| pc (h10) <| pn)
              · injection h with h; subst h; exact runFn_sound mixedOrders Tryz.func179 rfl (keep := none) (π := [.dec true, .dec true, .dec true, .dec true, .dec true, .dec true, .dec false]) (hrun := by kernel_rfl) (hps := pc (h3) <| pc (h4) <| pc (h5) <| pc (h6) <| pc (h7) <| pc (h8) <| pc (h9) <| pn)
            · injection h with h; subst h; exact runFn_sound mixedOrders Tryz.func179 rfl (keep := none) (π := [.dec true, .dec true, .dec true, .dec true, .dec true, .dec false]) (hrun := by kernel_rfl) (hps := pc (h3) <| pc (h4) <| pc (h5) <| pc (h6) <| pc (h7) <| pc (h8) <| pn)
          · injection h with h; subst h; exact runFn_sound mixedOrders Tryz.func179 rfl (keep := none) (π := [.dec true, .dec true, .dec true, .dec true, .dec false]) (hrun := by kernel_rfl) (hps := pc (h3) <| pc (h4) <| pc (h5) <| pc (h6) <| pc (h7) <| pn)
        · injection h with h; subst h; exact runFn_sound mixedOrders Tryz.func179 rfl (keep := none) (π := [.dec true, .dec true, .dec true, .dec false]) (hrun := by kernel_rfl) (hps := pc (h3) <| pc (h4) <| pc (h5) <| pc (h6) <| pn)
      · injection h with h; subst h; exact runFn_sound mixedOrders Tryz.func179 rfl (keep := none) (π := [.dec true, .dec true, .dec false]) (hrun := by kernel_rfl) (hps := pc (h3) <| pc (h4) <| pc (h5) <| pn)
    · injection h with h; subst h; exact runFn_sound mixedOrders Tryz.func179 rfl (keep := none) (π := [.dec true, .dec false]) (hrun := by kernel_rfl) (hps := pc (h3) <| pc (h4) <| pn)
  · injection h with h; subst h; exact runFn_sound mixedOrders Tryz.func179 rfl (keep := none) (π := [.dec false]) (hrun := by kernel_rfl) (hps := pc (h3) <| pn)

theorem k_stmt_Right {a1 : Api_Line} {r : Bool} (h : stmt_Right a1 = some r) :
    CallsOK Tryz.prog UU 118 [.agg (c37 a1)] [] (.v (.bool r)) [] := by
  unfold stmt_Right at h
  obtain ⟨r2, h3, h⟩ := bind_out h
  obtain ⟨r4, r5⟩ := r2
  rcases ite_out h with ⟨h6, h⟩ | ⟨h6, h⟩
  · obtain ⟨r7, h8, h⟩ := bind_out h
    rcases ite_out h with ⟨h9, h⟩ | ⟨h9, h⟩
    · obtain ⟨r10, h11, h⟩ := bind_out h
      injection h with h; subst h; exact runFn_sound mixedOrders Tryz.func118 rfl (keep := none) (π := [.callm [] (.tup [.agg (c37 r4), .v (.bool r5)]) [], .dec true, .callv (.v (.bool r7)), .dec true, .callv (.v (.bool r10))]) (hrun := by kernel_rfl) (hps := pc (k_stmt_used h3) <| pc (h6) <| pc (k_num_Name h8) <| pc (h9) <| pc (k_stmt_Same h11) <| pn)
    · injection h with h; subst h; exact runFn_sound mixedOrders Tryz.func118 rfl (keep := none) (π := [.callm [] (.tup [.agg (c37 r4), .v (.bool r5)]) [], .dec true, .callv (.v (.bool r7)), .dec false]) (hrun := by kernel_rfl) (hps := pc (k_stmt_used h3) <| pc (h6) <| pc (k_num_Name h8) <| pc (h9) <| pn)
  · injection h with h; subst h; exact runFn_sound mixedOrders Tryz.func118 rfl (keep := none) (π := [.callm [] (.tup [.agg (c37 r4), .v (.bool r5)]) [], .dec false]) (hrun := by kernel_rfl) (hps := pc (k_stmt_used h3) <| pc (h6) <| pn)

theorem k_names_judge_few {a1 : Names_judge} {r : Bool} (h : names_judge_few a1 = some r) :
    CallsOK Tryz.prog UU 79 [.agg (c93 a1)] [] (.v (.bool r)) [] := by
  unfold names_judge_few at h
  rcases ite_out h with ⟨h2, h⟩ | ⟨h2, h⟩
  · rcases ite_out h with ⟨h3, h⟩ | ⟨h3, h⟩
    · rcases ite_out h with ⟨h4, h⟩ | ⟨h4, h⟩
      · rcases ite_out h with ⟨h5, h⟩ | ⟨h5, h⟩
        · rcases ite_out h with ⟨h6, h⟩ | ⟨h6, h⟩
          · rcases ite_out h with ⟨h7, h⟩ | ⟨h7, h⟩
            · rcases ite_out h with ⟨h8, h⟩ | ⟨h8, h⟩
              · injection h with h; subst h; exact runFn_sound mixedOrders Tryz.func79 rfl (keep := none) (π := [.dec true, .dec true, .dec true, .dec true, .dec true, .dec true, .dec true]) (hrun := by kernel_rfl) (hps := pc (h2) <| pc (h3) <| pc (h4) <| pc (h5) <| pc (h6) <| pc (h7) <| pc (h8) <| pn)
              · injection h with h; subst h; exact runFn_sound mixedOrders Tryz.func79 rfl (keep := none) (π := [.dec true, .dec true, .dec true, .dec true, .dec true, .dec true, .dec false]) (hrun := by kernel_rfl) (hps := pc (h2) <| pc (h3) <| pc (h4) <| pc (h5) <| pc (h6) <| pc (h7) <| pc (h8) <| pn)
            · injection h with h; subst h; exact runFn_sound mixedOrders Tryz.func79 rfl (keep := none) (π := [.dec true, .dec true, .dec true, .dec true, .dec true, .dec false]) (hrun := by kernel_rfl) (hps := pc (h2) <| pc (h3) <| pc (h4) <| pc (h5) <| pc (h6) <| pc (h7) <| pn)
          · injection h with h; subst h; exact runFn_sound mixedOrders Tryz.func79 rfl (keep := none) (π := [.dec true, .dec true, .dec true, .dec true, .dec false]) (hrun := by kernel_rfl) (hps := pc (h2) <| pc (h3) <| pc (h4) <| pc (h5) <| pc (h6) <| pn)
        · injection h with h; subst h; exact runFn_sound mixedOrders Tryz.func79 rfl (keep := none) (π := [.dec true, .dec true, .dec true, .dec false]) (hrun := by kernel_rfl) (hps := pc (h2) <| pc (h3) <| pc (h4) <| pc (h5) <| pn)
      · injection h with h; subst h; exact runFn_sound mixedOrders Tryz.func79 rfl (keep := none) (π := [.dec true, .dec true, .dec false]) (hrun := by kernel_rfl) (hps := pc (h2) <| pc (h3) <| pc (h4) <| pn)
    · injection h with h; subst h; exact runFn_sound mixedOrders Tryz.func79 rfl (keep := none) (π := [.dec true, .dec false]) (hrun := by kernel_rfl) (hps := pc (h2) <| pc (h3) <| pn)
  · injection h with h; subst h; exact runFn_sound mixedOrders Tryz.func79 rfl (keep := none) (π := [.dec false]) (hrun := by kernel_rfl) (hps := pc (h2) <| pn)

theorem k_names_place_Device {a1 : List Api_Device} {a2 : Int} {r : Bool} (h : names_place_Device a1 a2 = some r) :
    CallsOK Tryz.prog UU 91 [.sl 64 a1, .v (.int .i64 a2)] [] (.v (.bool r)) [] := by
  unfold names_place_Device at h
  rcases ite_out h with ⟨h3, h⟩ | ⟨h3, h⟩
  · injection h with h; subst h; exact runFn_sound mixedOrders Tryz.func91 rfl (keep := none) (π := [.dec true]) (hrun := by kernel_rfl) (hps := pc (h3) <| pn)
  · injection h with h; subst h; exact runFn_sound mixedOrders Tryz.func91 rfl (keep := none) (π := [.dec false]) (hrun := by kernel_rfl) (hps := pc (h3) <| pn)

theorem k_names_judge_domain_1 {a1 : Api_Domain} {a2 : Int} {a3 : Int} {r : Bool} (h : names_judge_domain_1 a1 a2 a3 = some r) :
    CallsOK Tryz.prog UU 208 [.agg (c57 a1), .rp (c3 a2) 0, .rp (c3 a3) 0] [] (.v (.bool r)) [] := by
  unfold names_judge_domain_1 at h
  rcases ite_out h with ⟨h4, h⟩ | ⟨h4, h⟩
  · injection h with h; subst h; exact runFn_sound mixedOrders Tryz.func208 rfl (keep := none) (π := [.dec true]) (hrun := by kernel_rfl) (hps := pc (h4) <| pn)
  · injection h with h; subst h; exact runFn_sound mixedOrders Tryz.func208 rfl (keep := none) (π := [.dec false]) (hrun := by kernel_rfl) (hps := pc (h4) <| pn)

theorem k_slices_IndexFunc_Domain_judge_domain_1_L1 {a1 : List Api_Domain} {a2 : Int} {a3 : Int} : LoopOK Tryz.prog UU 0 19 (subC (codeOf Tryz.f176) [1, 0, 1, 0, 0]) (ρ := Int ⊕ Unit) (slices_IndexFunc_Domain_judge_domain_1_L1 a1 a2 a3)
    (fun v4 : Int => ([(0, .sl 57 a1), (1, .fn (.func 208) [] [.rp (c3 a2) 0, .rp (c3 a3) 0]), (4, .z), (7, .v (.int .i64 (a1.length : Int))), (8, .v (.int .i64 v4))] : Fr DD)) (fun v4 : Int => ([] : Heap DD)) (fun r => match r with | Sum.inl v12 => .ret | Sum.inr _ => .exit 0) (fun r => match r with | Sum.inl v12 => [(4, .v (.int .i64 v12))] | Sum.inr _ => [(4, .z)]) (fun r => match r with | Sum.inl v12 => [] | Sum.inr _ => []) := by
  refine loop_sound3 (fun s q h => ?_) (fun r => ?_)
  · replace h : slices_IndexFunc_Domain_judge_domain_1_L1 a1 a2 a3 s = some q := h; revert h; revert s; intro v4 h
    unfold slices_IndexFunc_Domain_judge_domain_1_L1 at h
    rcases ite_out h with ⟨h5, h⟩ | ⟨h5, h⟩
    · obtain ⟨x6, h7, h⟩ := bind_out h
      obtain ⟨r8, h9, h⟩ := bind_out h
      rcases ite_out h with ⟨h10, h⟩ | ⟨h10, h⟩
      · injection h with h; subst h; exact runLp_sound mixedOrders (live := [4]) (ids := []) (π := [.dec true, .row (c57 x6), .callv (.v (.bool r8)), .dec true]) (hx := by kernel_rfl) (hps := pc (h5) <| pc (ob57 h7) <| pc (k_names_judge_domain_1 h9) <| pc (h10) <| pn)
      · injection h with h; subst h; exact runLp_sound mixedOrders (live := [0, 1, 4, 7, 8]) (ids := []) (π := [.dec true, .row (c57 x6), .callv (.v (.bool r8)), .dec false]) (hx := by kernel_rfl) (hps := pc (h5) <| pc (ob57 h7) <| pc (k_names_judge_domain_1 h9) <| pc (h10) <| pn)
    · injection h with h; subst h; exact runLp_sound mixedOrders (live := [4]) (ids := []) (π := [.dec false]) (hx := by kernel_rfl) (hps := pc (h5) <| pn)
  · rcases r with _ | _ <;> exact Ex.noConfusion

theorem k_slices_IndexFunc_Domain_judge_domain_1 {a1 : List Api_Domain} {a2 : Int} {a3 : Int} {r : Int} (h : slices_IndexFunc_Domain_judge_domain_1 a1 a2 a3 = some r) :
    CallsOK Tryz.prog UU 176 [.sl 57 a1, .fn (.func 208) [] [.rp (c3 a2) 0, .rp (c3 a3) 0]] [] (.v (.int .i64 r)) [] := by
  unfold slices_IndexFunc_Domain_judge_domain_1 at h
  obtain ⟨r14, h13, h⟩ := bind_out h
  rcases r14 with v12 | _
  · injection h with h; subst h; exact runFn_sound mixedOrders Tryz.func176 rfl (keep := none) (π := [.sum [0, 1, 4, 7, 8] [] .ret [(4, .v (.int .i64 v12))] []]) (hrun := by kernel_rfl) (hps := pc (k_slices_IndexFunc_Domain_judge_domain_1_L1 _ _ h13) <| pn)
  · injection h with h; subst h; exact runFn_sound mixedOrders Tryz.func176 rfl (keep := none) (π := [.sum [0, 1, 4, 7, 8] [] (.exit 0) [(4, .z)] []]) (hrun := by kernel_rfl) (hps := pc (k_slices_IndexFunc_Domain_judge_domain_1_L1 _ _ h13) <| pn)

theorem k_names_judge_domain {a1 : Names_judge} {a2 : Int} {a3 : Int} {r : Int} (h : names_judge_domain a1 a2 a3 = some r) :
    CallsOK Tryz.prog UU 165 [.agg (c93 a1), .v (.int .i64 a2), .v (.int .i64 a3)] [] (.v (.int .i64 r)) [] := by
  unfold names_judge_domain at h
  obtain ⟨r4, h5, h⟩ := bind_out h
  injection h with h; subst h; exact runFn_sound mixedOrders Tryz.func165 rfl (keep := none) (π := [.callv (.v (.int .i64 r4))]) (hrun := by kernel_rfl) (hps := pc (k_slices_IndexFunc_Domain_judge_domain_1 h5) <| pn)

theorem k_names_place_Irb {a1 : List Api_Irb} {a2 : Int} {r : Bool} (h : names_place_Irb a1 a2 = some r) :
    CallsOK Tryz.prog UU 164 [.sl 116 a1, .v (.int .i64 a2)] [] (.v (.bool r)) [] := by
  unfold names_place_Irb at h
  rcases ite_out h with ⟨h3, h⟩ | ⟨h3, h⟩
  · injection h with h; subst h; exact runFn_sound mixedOrders Tryz.func164 rfl (keep := none) (π := [.dec true]) (hrun := by kernel_rfl) (hps := pc (h3) <| pn)
  · injection h with h; subst h; exact runFn_sound mixedOrders Tryz.func164 rfl (keep := none) (π := [.dec false]) (hrun := by kernel_rfl) (hps := pc (h3) <| pn)

theorem k_names_judge_bare {a1 : Names_judge} {a2 : Int} {a3 : Api_Domain} {r : Bool} (h : names_judge_bare a1 a2 a3 = some r) :
    CallsOK Tryz.prog UU 81 [.agg (c93 a1), .v (.int .i64 a2), .agg (c57 a3)] [] (.v (.bool r)) [] := by
  unfold names_judge_bare at h
  obtain ⟨r4, h5, h⟩ := bind_out h
  rcases ite_out h with ⟨h6, h⟩ | ⟨h6, h⟩
  · rcases ite_out h with ⟨h7, h⟩ | ⟨h7, h⟩
    · rcases ite_out h with ⟨h8, h⟩ | ⟨h8, h⟩
      · rcases ite_out h with ⟨h9, h⟩ | ⟨h9, h⟩
        · rcases ite_out h with ⟨h10, h⟩ | ⟨h10, h⟩
          · rcases ite_out h with ⟨h11, h⟩ | ⟨h11, h⟩
            · obtain ⟨r12, h13, h⟩ := bind_out h
              injection h with h; subst h; exact runFn_sound mixedOrders Tryz.func81 rfl (keep := none) (π := [.callv (.v (.bool r4)), .dec true, .dec true, .dec true, .dec true, .dec true, .dec true, .callv (.v (.int .i64 r12))]) (hrun := by kernel_rfl) (hps := pc (k_names_place_Device h5) <| pc (h6) <| pc (h7) <| pc (h8) <| pc (h9) <| pc (h10) <| pc (h11) <| pc (k_names_judge_domain h13) <| pn)
            · obtain ⟨r14, h15, h⟩ := bind_out h
              rcases ite_out h with ⟨h16, h⟩ | ⟨h16, h⟩
              · obtain ⟨x17, h18, h⟩ := bind_out h
                rcases ite_out h with ⟨h19, h⟩ | ⟨h19, h⟩
                · obtain ⟨r20, h21, h⟩ := bind_out h
                  injection h with h; subst h; exact runFn_sound mixedOrders Tryz.func81 rfl (keep := none) (π := [.callv (.v (.bool r4)), .dec true, .dec true, .dec true, .dec true, .dec true, .dec false, .callv (.v (.bool r14)), .dec true, .row (c116 x17), .dec true, .callv (.v (.int .i64 r20))]) (hrun := by kernel_rfl) (hps := pc (k_names_place_Device h5) <| pc (h6) <| pc (h7) <| pc (h8) <| pc (h9) <| pc (h10) <| pc (h11) <| pc (k_names_place_Irb h15) <| pc (h16) <| pc (ob116 h18) <| pc (h19) <| pc (k_names_judge_domain h21) <| pn)
                · injection h with h; subst h; exact runFn_sound mixedOrders Tryz.func81 rfl (keep := none) (π := [.callv (.v (.bool r4)), .dec true, .dec true, .dec true, .dec true, .dec true, .dec false, .callv (.v (.bool r14)), .dec true, .row (c116 x17), .dec false]) (hrun := by kernel_rfl) (hps := pc (k_names_place_Device h5) <| pc (h6) <| pc (h7) <| pc (h8) <| pc (h9) <| pc (h10) <| pc (h11) <| pc (k_names_place_Irb h15) <| pc (h16) <| pc (ob116 h18) <| pc (h19) <| pn)
              · injection h with h; subst h; exact runFn_sound mixedOrders Tryz.func81 rfl (keep := none) (π := [.callv (.v (.bool r4)), .dec true, .dec true, .dec true, .dec true, .dec true, .dec false, .callv (.v (.bool r14)), .dec false]) (hrun := by kernel_rfl) (hps := pc (k_names_place_Device h5) <| pc (h6) <| pc (h7) <| pc (h8) <| pc (h9) <| pc (h10) <| pc (h11) <| pc (k_names_place_Irb h15) <| pc (h16) <| pn)
          · injection h with h; subst h; exact runFn_sound mixedOrders Tryz.func81 rfl (keep := none) (π := [.callv (.v (.bool r4)), .dec true, .dec true, .dec true, .dec true, .dec false]) (hrun := by kernel_rfl) (hps := pc (k_names_place_Device h5) <| pc (h6) <| pc (h7) <| pc (h8) <| pc (h9) <| pc (h10) <| pn)
        · injection h with h; subst h; exact runFn_sound mixedOrders Tryz.func81 rfl (keep := none) (π := [.callv (.v (.bool r4)), .dec true, .dec true, .dec true, .dec false]) (hrun := by kernel_rfl) (hps := pc (k_names_place_Device h5) <| pc (h6) <| pc (h7) <| pc (h8) <| pc (h9) <| pn)
      · injection h with h; subst h; exact runFn_sound mixedOrders Tryz.func81 rfl (keep := none) (π := [.callv (.v (.bool r4)), .dec true, .dec true, .dec false]) (hrun := by kernel_rfl) (hps := pc (k_names_place_Device h5) <| pc (h6) <| pc (h7) <| pc (h8) <| pn)
    · injection h with h; subst h; exact runFn_sound mixedOrders Tryz.func81 rfl (keep := none) (π := [.callv (.v (.bool r4)), .dec true, .dec false]) (hrun := by kernel_rfl) (hps := pc (k_names_place_Device h5) <| pc (h6) <| pc (h7) <| pn)
  · injection h with h; subst h; exact runFn_sound mixedOrders Tryz.func81 rfl (keep := none) (π := [.callv (.v (.bool r4)), .dec false]) (hrun := by kernel_rfl) (hps := pc (k_names_place_Device h5) <| pc (h6) <| pn)

theorem k_names_all_Domain_judge_bare_L1 {a1 : List Api_Domain} {a2 : Names_judge} : LoopOK Tryz.prog UU 0 20 (subC (codeOf Tryz.f80) [1, 0, 1, 0, 0]) (ρ := Unit ⊕ Unit) (names_all_Domain_judge_bare_L1 a1 a2)
    (fun v3 : Int => ([(1, .fn (.func 81) [.agg (c93 a2)] []), (4, .v (.bool false)), (7, .sl 57 a1), (8, .v (.int .i64 (a1.length : Int))), (9, .v (.int .i64 v3))] : Fr DD)) (fun v3 : Int => ([] : Heap DD)) (fun r => match r with | Sum.inl _ => .ret | Sum.inr _ => .exit 0) (fun r => match r with | Sum.inl _ => [(4, .v (.bool false))] | Sum.inr _ => [(4, .v (.bool false))]) (fun r => match r with | Sum.inl _ => [] | Sum.inr _ => []) := by
  refine loop_sound3 (fun s q h => ?_) (fun r => ?_)
  · replace h : names_all_Domain_judge_bare_L1 a1 a2 s = some q := h; revert h; revert s; intro v3 h
    unfold names_all_Domain_judge_bare_L1 at h
    rcases ite_out h with ⟨h4, h⟩ | ⟨h4, h⟩
    · obtain ⟨x5, h6, h⟩ := bind_out h
      obtain ⟨r7, h8, h⟩ := bind_out h
      rcases ite_out h with ⟨h9, h⟩ | ⟨h9, h⟩
      · injection h with h; subst h; exact runLp_sound mixedOrders (live := [4]) (ids := []) (π := [.dec true, .row (c57 x5), .callv (.v (.bool r7)), .dec true]) (hx := by kernel_rfl) (hps := pc (h4) <| pc (ob57 h6) <| pc (k_names_judge_bare h8) <| pc (h9) <| pn)
      · injection h with h; subst h; exact runLp_sound mixedOrders (live := [1, 4, 7, 8, 9]) (ids := []) (π := [.dec true, .row (c57 x5), .callv (.v (.bool r7)), .dec false]) (hx := by kernel_rfl) (hps := pc (h4) <| pc (ob57 h6) <| pc (k_names_judge_bare h8) <| pc (h9) <| pn)
    · injection h with h; subst h; exact runLp_sound mixedOrders (live := [4]) (ids := []) (π := [.dec false]) (hx := by kernel_rfl) (hps := pc (h4) <| pn)
  · rcases r with _ | _ <;> exact Ex.noConfusion

theorem k_names_all_Domain_judge_bare {a1 : List Api_Domain} {a2 : Names_judge} {r : Bool} (h : names_all_Domain_judge_bare a1 a2 = some r) :
    CallsOK Tryz.prog UU 80 [.sl 57 a1, .fn (.func 81) [.agg (c93 a2)] []] [] (.v (.bool r)) [] := by
  unfold names_all_Domain_judge_bare at h
  obtain ⟨r11, h10, h⟩ := bind_out h
  rcases r11 with _ | _
  · injection h with h; subst h; exact runFn_sound mixedOrders Tryz.func80 rfl (keep := none) (π := [.sum [1, 4, 7, 8, 9] [] .ret [(4, .v (.bool false))] []]) (hrun := by kernel_rfl) (hps := pc (k_names_all_Domain_judge_bare_L1 _ _ h10) <| pn)
  · injection h with h; subst h; exact runFn_sound mixedOrders Tryz.func80 rfl (keep := none) (π := [.sum [1, 4, 7, 8, 9] [] (.exit 0) [(4, .v (.bool false))] []]) (hrun := by kernel_rfl) (hps := pc (k_names_all_Domain_judge_bare_L1 _ _ h10) <| pn)

theorem k_names_place_Domain {a1 : List Api_Domain} {a2 : Int} {r : Bool} (h : names_place_Domain a1 a2 = some r) :
    CallsOK Tryz.prog UU 172 [.sl 57 a1, .v (.int .i64 a2)] [] (.v (.bool r)) [] := by
  unfold names_place_Domain at h
  rcases ite_out h with ⟨h3, h⟩ | ⟨h3, h⟩
  · injection h with h; subst h; exact runFn_sound mixedOrders Tryz.func172 rfl (keep := none) (π := [.dec true]) (hrun := by kernel_rfl) (hps := pc (h3) <| pn)
  · injection h with h; subst h; exact runFn_sound mixedOrders Tryz.func172 rfl (keep := none) (π := [.dec false]) (hrun := by kernel_rfl) (hps := pc (h3) <| pn)

theorem k_names_judge_vtep {a1 : Names_judge} {a2 : Api_Domain} {r : Bool} (h : names_judge_vtep a1 a2 = some r) :
    CallsOK Tryz.prog UU 209 [.agg (c93 a1), .agg (c57 a2)] [] (.v (.bool r)) [] := by
  unfold names_judge_vtep at h
  obtain ⟨x3, h4, h⟩ := bind_out h
  injection h with h; subst h; exact runFn_sound mixedOrders Tryz.func209 rfl (keep := none) (π := [.row (c64 x3)]) (hrun := by kernel_rfl) (hps := pc (ob64 h4) <| pn)

theorem k_names_judge_peer {a1 : Names_judge} {a2 : Int} {a3 : Api_Domain} {a4 : Int} {r : Bool} (h : names_judge_peer a1 a2 a3 a4 = some r) :
    CallsOK Tryz.prog UU 168 [.agg (c93 a1), .v (.int .i64 a2), .agg (c57 a3), .v (.int .i64 a4)] [] (.v (.bool r)) [] := by
  unfold names_judge_peer at h
  obtain ⟨r5, h6, h⟩ := bind_out h
  rcases ite_out h with ⟨h7, h⟩ | ⟨h7, h⟩
  · injection h with h; subst h; exact runFn_sound mixedOrders Tryz.func168 rfl (keep := none) (π := [.callv (.v (.bool r5)), .dec true]) (hrun := by kernel_rfl) (hps := pc (k_names_place_Domain h6) <| pc (h7) <| pn)
  · rcases ite_out h with ⟨h8, h⟩ | ⟨h8, h⟩
    · injection h with h; subst h; exact runFn_sound mixedOrders Tryz.func168 rfl (keep := none) (π := [.callv (.v (.bool r5)), .dec false, .dec true]) (hrun := by kernel_rfl) (hps := pc (k_names_place_Domain h6) <| pc (h7) <| pc (h8) <| pn)
    · obtain ⟨x9, h10, h⟩ := bind_out h
      obtain ⟨r11, h12, h⟩ := bind_out h
      rcases ite_out h with ⟨h13, h⟩ | ⟨h13, h⟩
      · rcases ite_out h with ⟨h14, h⟩ | ⟨h14, h⟩
        · rcases ite_out h with ⟨h15, h⟩ | ⟨h15, h⟩
          · rcases ite_out h with ⟨h16, h⟩ | ⟨h16, h⟩
            · obtain ⟨r17, h18, h⟩ := bind_out h
              rcases ite_out h with ⟨h19, h⟩ | ⟨h19, h⟩
              · obtain ⟨r20, h21, h⟩ := bind_out h
                rcases ite_out h with ⟨h22, h⟩ | ⟨h22, h⟩
                · obtain ⟨r23, h24, h⟩ := bind_out h
                  injection h with h; subst h; exact runFn_sound mixedOrders Tryz.func168 rfl (keep := none) (π := [.callv (.v (.bool r5)), .dec false, .dec false, .row (c57 x9), .callv (.v (.bool r11)), .dec true, .dec true, .dec true, .dec true, .callv (.v (.bool r17)), .dec true, .callv (.v (.bool r20)), .dec true, .callv (.v (.bool r23))]) (hrun := by kernel_rfl) (hps := pc (k_names_place_Domain h6) <| pc (h7) <| pc (h8) <| pc (ob57 h10) <| pc (k_names_place_Device h12) <| pc (h13) <| pc (h14) <| pc (h15) <| pc (h16) <| pc (k_names_judge_vtep h18) <| pc (h19) <| pc (k_names_judge_vtep h21) <| pc (h22) <| pc (k_slices_Contains_int h24) <| pn)
                · injection h with h; subst h; exact runFn_sound mixedOrders Tryz.func168 rfl (keep := none) (π := [.callv (.v (.bool r5)), .dec false, .dec false, .row (c57 x9), .callv (.v (.bool r11)), .dec true, .dec true, .dec true, .dec true, .callv (.v (.bool r17)), .dec true, .callv (.v (.bool r20)), .dec false]) (hrun := by kernel_rfl) (hps := pc (k_names_place_Domain h6) <| pc (h7) <| pc (h8) <| pc (ob57 h10) <| pc (k_names_place_Device h12) <| pc (h13) <| pc (h14) <| pc (h15) <| pc (h16) <| pc (k_names_judge_vtep h18) <| pc (h19) <| pc (k_names_judge_vtep h21) <| pc (h22) <| pn)
              · injection h with h; subst h; exact runFn_sound mixedOrders Tryz.func168 rfl (keep := none) (π := [.callv (.v (.bool r5)), .dec false, .dec false, .row (c57 x9), .callv (.v (.bool r11)), .dec true, .dec true, .dec true, .dec true, .callv (.v (.bool r17)), .dec false]) (hrun := by kernel_rfl) (hps := pc (k_names_place_Domain h6) <| pc (h7) <| pc (h8) <| pc (ob57 h10) <| pc (k_names_place_Device h12) <| pc (h13) <| pc (h14) <| pc (h15) <| pc (h16) <| pc (k_names_judge_vtep h18) <| pc (h19) <| pn)
            · injection h with h; subst h; exact runFn_sound mixedOrders Tryz.func168 rfl (keep := none) (π := [.callv (.v (.bool r5)), .dec false, .dec false, .row (c57 x9), .callv (.v (.bool r11)), .dec true, .dec true, .dec true, .dec false]) (hrun := by kernel_rfl) (hps := pc (k_names_place_Domain h6) <| pc (h7) <| pc (h8) <| pc (ob57 h10) <| pc (k_names_place_Device h12) <| pc (h13) <| pc (h14) <| pc (h15) <| pc (h16) <| pn)
          · injection h with h; subst h; exact runFn_sound mixedOrders Tryz.func168 rfl (keep := none) (π := [.callv (.v (.bool r5)), .dec false, .dec false, .row (c57 x9), .callv (.v (.bool r11)), .dec true, .dec true, .dec false]) (hrun := by kernel_rfl) (hps := pc (k_names_place_Domain h6) <| pc (h7) <| pc (h8) <| pc (ob57 h10) <| pc (k_names_place_Device h12) <| pc (h13) <| pc (h14) <| pc (h15) <| pn)
        · injection h with h; subst h; exact runFn_sound mixedOrders Tryz.func168 rfl (keep := none) (π := [.callv (.v (.bool r5)), .dec false, .dec false, .row (c57 x9), .callv (.v (.bool r11)), .dec true, .dec false]) (hrun := by kernel_rfl) (hps := pc (k_names_place_Domain h6) <| pc (h7) <| pc (h8) <| pc (ob57 h10) <| pc (k_names_place_Device h12) <| pc (h13) <| pc (h14) <| pn)
      · injection h with h; subst h; exact runFn_sound mixedOrders Tryz.func168 rfl (keep := none) (π := [.callv (.v (.bool r5)), .dec false, .dec false, .row (c57 x9), .callv (.v (.bool r11)), .dec false]) (hrun := by kernel_rfl) (hps := pc (k_names_place_Domain h6) <| pc (h7) <| pc (h8) <| pc (ob57 h10) <| pc (k_names_place_Device h12) <| pc (h13) <| pn)

theorem k_names_judge_peers_1 {a1 : Int} {a2 : Int} {a3 : Names_judge} {a4 : Int} {a5 : Api_Domain} {r : Bool} (h : names_judge_peers_1 a1 a2 a3 a4 a5 = some r) :
    CallsOK Tryz.prog UU 167 [.v (.int .i64 a1), .v (.int .i64 a2), .rp (c93 a3) 0, .rp (c3 a4) 0, .rp (c57 a5) 0] [] (.v (.bool r)) [] := by
  unfold names_judge_peers_1 at h
  obtain ⟨r6, h7, h⟩ := bind_out h
  rcases ite_out h with ⟨h8, h⟩ | ⟨h8, h⟩
  · obtain ⟨r9, h10, h⟩ := bind_out h
    injection h with h; subst h; exact runFn_sound mixedOrders Tryz.func167 rfl (keep := none) (π := [.callv (.v (.bool r6)), .dec true, .callv (.v (.int .i64 r9))]) (hrun := by kernel_rfl) (hps := pc (k_names_judge_peer h7) <| pc (h8) <| pc (k_slices_Index_int h10) <| pn)
  · injection h with h; subst h; exact runFn_sound mixedOrders Tryz.func167 rfl (keep := none) (π := [.callv (.v (.bool r6)), .dec false]) (hrun := by kernel_rfl) (hps := pc (k_names_judge_peer h7) <| pc (h8) <| pn)

theorem k_names_all_int_judge_peers_1_L1 {a1 : List Int} {a2 : Names_judge} {a3 : Int} {a4 : Api_Domain} : LoopOK Tryz.prog UU 0 20 (subC (codeOf Tryz.f166) [1, 0, 1, 0, 0]) (ρ := Unit ⊕ Unit) (names_all_int_judge_peers_1_L1 a1 a2 a3 a4)
    (fun v5 : Int => ([(1, .fn (.func 167) [] [.rp (c93 a2) 0, .rp (c3 a3) 0, .rp (c57 a4) 0]), (4, .v (.bool false)), (7, .sl 3 a1), (8, .v (.int .i64 (a1.length : Int))), (9, .v (.int .i64 v5))] : Fr DD)) (fun v5 : Int => ([] : Heap DD)) (fun r => match r with | Sum.inl _ => .ret | Sum.inr _ => .exit 0) (fun r => match r with | Sum.inl _ => [(4, .v (.bool false))] | Sum.inr _ => [(4, .v (.bool false))]) (fun r => match r with | Sum.inl _ => [] | Sum.inr _ => []) := by
  refine loop_sound3 (fun s q h => ?_) (fun r => ?_)
  · replace h : names_all_int_judge_peers_1_L1 a1 a2 a3 a4 s = some q := h; revert h; revert s; intro v5 h
    unfold names_all_int_judge_peers_1_L1 at h
    rcases ite_out h with ⟨h6, h⟩ | ⟨h6, h⟩
    · obtain ⟨x7, h8, h⟩ := bind_out h
      obtain ⟨r9, h10, h⟩ := bind_out h
      rcases ite_out h with ⟨h11, h⟩ | ⟨h11, h⟩
      · injection h with h; subst h; exact runLp_sound mixedOrders (live := [4]) (ids := []) (π := [.dec true, .row (c3 x7), .callv (.v (.bool r9)), .dec true]) (hx := by kernel_rfl) (hps := pc (h6) <| pc (ob3 h8) <| pc (k_names_judge_peers_1 h10) <| pc (h11) <| pn)
      · injection h with h; subst h; exact runLp_sound mixedOrders (live := [1, 4, 7, 8, 9]) (ids := []) (π := [.dec true, .row (c3 x7), .callv (.v (.bool r9)), .dec false]) (hx := by kernel_rfl) (hps := pc (h6) <| pc (ob3 h8) <| pc (k_names_judge_peers_1 h10) <| pc (h11) <| pn)
    · injection h with h; subst h; exact runLp_sound mixedOrders (live := [4]) (ids := []) (π := [.dec false]) (hx := by kernel_rfl) (hps := pc (h6) <| pn)
  · rcases r with _ | _ <;> exact Ex.noConfusion

theorem k_names_all_int_judge_peers_1 {a1 : List Int} {a2 : Names_judge} {a3 : Int} {a4 : Api_Domain} {r : Bool} (h : names_all_int_judge_peers_1 a1 a2 a3 a4 = some r) :
    CallsOK Tryz.prog UU 166 [.sl 3 a1, .fn (.func 167) [] [.rp (c93 a2) 0, .rp (c3 a3) 0, .rp (c57 a4) 0]] [] (.v (.bool r)) [] := by
  unfold names_all_int_judge_peers_1 at h
  obtain ⟨r13, h12, h⟩ := bind_out h
  rcases r13 with _ | _
  · injection h with h; subst h; exact runFn_sound mixedOrders Tryz.func166 rfl (keep := none) (π := [.sum [1, 4, 7, 8, 9] [] .ret [(4, .v (.bool false))] []]) (hrun := by kernel_rfl) (hps := pc (k_names_all_int_judge_peers_1_L1 _ _ h12) <| pn)
  · injection h with h; subst h; exact runFn_sound mixedOrders Tryz.func166 rfl (keep := none) (π := [.sum [1, 4, 7, 8, 9] [] (.exit 0) [(4, .v (.bool false))] []]) (hrun := by kernel_rfl) (hps := pc (k_names_all_int_judge_peers_1_L1 _ _ h12) <| pn)

theorem k_names_judge_peers {a1 : Names_judge} {a2 : Int} {a3 : Api_Domain} {r : Bool} (h : names_judge_peers a1 a2 a3 = some r) :
    CallsOK Tryz.prog UU 82 [.agg (c93 a1), .v (.int .i64 a2), .agg (c57 a3)] [] (.v (.bool r)) [] := by
  unfold names_judge_peers at h
  obtain ⟨r4, h5, h⟩ := bind_out h
  injection h with h; subst h; exact runFn_sound mixedOrders Tryz.func82 rfl (keep := none) (π := [.callv (.v (.bool r4))]) (hrun := by kernel_rfl) (hps := pc (k_names_all_int_judge_peers_1 h5) <| pn)

theorem k_names_all_Domain_judge_peers_L1 {a1 : List Api_Domain} {a2 : Names_judge} : LoopOK Tryz.prog UU 0 20 (subC (codeOf Tryz.f80) [1, 0, 1, 0, 0]) (ρ := Unit ⊕ Unit) (names_all_Domain_judge_peers_L1 a1 a2)
    (fun v3 : Int => ([(1, .fn (.func 82) [.agg (c93 a2)] []), (4, .v (.bool false)), (7, .sl 57 a1), (8, .v (.int .i64 (a1.length : Int))), (9, .v (.int .i64 v3))] : Fr DD)) (fun v3 : Int => ([] : Heap DD)) (fun r => match r with | Sum.inl _ => .ret | Sum.inr _ => .exit 0) (fun r => match r with | Sum.inl _ => [(4, .v (.bool false))] | Sum.inr _ => [(4, .v (.bool false))]) (fun r => match r with | Sum.inl _ => [] | Sum.inr _ => []) := by
  refine loop_sound3 (fun s q h => ?_) (fun r => ?_)
  · replace h : names_all_Domain_judge_peers_L1 a1 a2 s = some q := h; revert h; revert s; intro v3 h
    unfold names_all_Domain_judge_peers_L1 at h
    rcases ite_out h with ⟨h4, h⟩ | ⟨h4, h⟩
    · obtain ⟨x5, h6, h⟩ := bind_out h
      obtain ⟨r7, h8, h⟩ := bind_out h
      rcases ite_out h with ⟨h9, h⟩ | ⟨h9, h⟩
      · injection h with h; subst h; exact runLp_sound mixedOrders (live := [4]) (ids := []) (π := [.dec true, .row (c57 x5), .callv (.v (.bool r7)), .dec true]) (hx := by kernel_rfl) (hps := pc (h4) <| pc (ob57 h6) <| pc (k_names_judge_peers h8) <| pc (h9) <| pn)
      · injection h with h; subst h; exact runLp_sound mixedOrders (live := [1, 4, 7, 8, 9]) (ids := []) (π := [.dec true, .row (c57 x5), .callv (.v (.bool r7)), .dec false]) (hx := by kernel_rfl) (hps := pc (h4) <| pc (ob57 h6) <| pc (k_names_judge_peers h8) <| pc (h9) <| pn)
    · injection h with h; subst h; exact runLp_sound mixedOrders (live := [4]) (ids := []) (π := [.dec false]) (hx := by kernel_rfl) (hps := pc (h4) <| pn)
  · rcases r with _ | _ <;> exact Ex.noConfusion

theorem k_names_all_Domain_judge_peers {a1 : List Api_Domain} {a2 : Names_judge} {r : Bool} (h : names_all_Domain_judge_peers a1 a2 = some r) :
    CallsOK Tryz.prog UU 80 [.sl 57 a1, .fn (.func 82) [.agg (c93 a2)] []] [] (.v (.bool r)) [] := by
  unfold names_all_Domain_judge_peers at h
  obtain ⟨r11, h10, h⟩ := bind_out h
  rcases r11 with _ | _
  · injection h with h; subst h; exact runFn_sound mixedOrders Tryz.func80 rfl (keep := none) (π := [.sum [1, 4, 7, 8, 9] [] .ret [(4, .v (.bool false))] []]) (hrun := by kernel_rfl) (hps := pc (k_names_all_Domain_judge_peers_L1 _ _ h10) <| pn)
  · injection h with h; subst h; exact runFn_sound mixedOrders Tryz.func80 rfl (keep := none) (π := [.sum [1, 4, 7, 8, 9] [] (.exit 0) [(4, .v (.bool false))] []]) (hrun := by kernel_rfl) (hps := pc (k_names_all_Domain_judge_peers_L1 _ _ h10) <| pn)

theorem k_names_rising {a1 : List Int} {a2 : Int} {r : Bool} (h : names_rising a1 a2 = some r) :
    CallsOK Tryz.prog UU 94 [.sl 3 a1, .v (.int .i64 a2)] [] (.v (.bool r)) [] := by
  unfold names_rising at h
  rcases ite_out h with ⟨h3, h⟩ | ⟨h3, h⟩
  · injection h with h; subst h; exact runFn_sound mixedOrders Tryz.func94 rfl (keep := none) (π := [.dec true]) (hrun := by kernel_rfl) (hps := pc (h3) <| pn)
  · obtain ⟨r4, h5, h⟩ := bind_out h
    injection h with h; subst h; exact runFn_sound mixedOrders Tryz.func94 rfl (keep := none) (π := [.dec false, .callv (.v (.bool r4))]) (hrun := by kernel_rfl) (hps := pc (h3) <| pc (k_num_Rising h5) <| pn)

theorem k_names_place_Link {a1 : List Api_Link} {a2 : Int} {r : Bool} (h : names_place_Link a1 a2 = some r) :
    CallsOK Tryz.prog UU 170 [.sl 100 a1, .v (.int .i64 a2)] [] (.v (.bool r)) [] := by
  unfold names_place_Link at h
  rcases ite_out h with ⟨h3, h⟩ | ⟨h3, h⟩
  · injection h with h; subst h; exact runFn_sound mixedOrders Tryz.func170 rfl (keep := none) (π := [.dec true]) (hrun := by kernel_rfl) (hps := pc (h3) <| pn)
  · injection h with h; subst h; exact runFn_sound mixedOrders Tryz.func170 rfl (keep := none) (π := [.dec false]) (hrun := by kernel_rfl) (hps := pc (h3) <| pn)

theorem k_names_judge_port_J1 {a1 : Names_judge} {a2 : Int} {a3 : Api_Port} {r : Unit ⊕ Unit} (h : names_judge_port_J1 a1 a2 a3 = some r) :
    ExecOK Tryz.prog UU 0 111 (subC (codeOf Tryz.f84) [1, 0]) [(1, .v (.int .i64 a2)), (3, .op 0 1 0 0), (5, .op 1 1 0 0), (6, .v (.bool false))] [.box 93 (c93 a1) false, .box 71 (c71 a3) false] ((fun r => match r with | Sum.inl _ => .ret | Sum.inr _ => .nor) r) ((fun r => match r with | Sum.inl _ => [(6, .v (.bool false))] | Sum.inr _ => [(1, .v (.int .i64 a2)), (3, .op 0 1 0 0), (5, .op 1 1 0 0), (6, .v (.bool false))]) r) ((fun r => match r with | Sum.inl _ => [] | Sum.inr _ => [.box 93 (c93 a1) false, .box 71 (c71 a3) false]) r) := by
  unfold names_judge_port_J1 at h
  obtain ⟨r4, h5, h⟩ := bind_out h
  rcases ite_out h with ⟨h6, h⟩ | ⟨h6, h⟩
  · injection h with h; subst h; exact runLp_sound mixedOrders (live := [6]) (ids := []) (π := [.callv (.v (.bool r4)), .dec true]) (hx := by kernel_rfl) (hps := pc (k_names_place_Device h5) <| pc (h6) <| pn)
  · rcases ite_out h with ⟨h7, h⟩ | ⟨h7, h⟩
    · injection h with h; subst h; exact runLp_sound mixedOrders (live := [6]) (ids := []) (π := [.callv (.v (.bool r4)), .dec false, .dec true]) (hx := by kernel_rfl) (hps := pc (k_names_place_Device h5) <| pc (h6) <| pc (h7) <| pn)
    · rcases ite_out h with ⟨h8, h⟩ | ⟨h8, h⟩
      · injection h with h; subst h; exact runLp_sound mixedOrders (live := [6]) (ids := []) (π := [.callv (.v (.bool r4)), .dec false, .dec false, .dec true]) (hx := by kernel_rfl) (hps := pc (k_names_place_Device h5) <| pc (h6) <| pc (h7) <| pc (h8) <| pn)
      · obtain ⟨r9, h10, h⟩ := bind_out h
        rcases ite_out h with ⟨h11, h⟩ | ⟨h11, h⟩
        · injection h with h; subst h; exact runLp_sound mixedOrders (live := [6]) (ids := []) (π := [.callv (.v (.bool r4)), .dec false, .dec false, .dec false, .callv (.v (.bool r9)), .dec true]) (hx := by kernel_rfl) (hps := pc (k_names_place_Device h5) <| pc (h6) <| pc (h7) <| pc (h8) <| pc (k_names_rising h10) <| pc (h11) <| pn)
        · obtain ⟨r12, h13, h⟩ := bind_out h
          rcases ite_out h with ⟨h14, h⟩ | ⟨h14, h⟩
          · injection h with h; subst h; exact runLp_sound mixedOrders (live := [6]) (ids := []) (π := [.callv (.v (.bool r4)), .dec false, .dec false, .dec false, .callv (.v (.bool r9)), .dec false, .callv (.v (.bool r12)), .dec true]) (hx := by kernel_rfl) (hps := pc (k_names_place_Device h5) <| pc (h6) <| pc (h7) <| pc (h8) <| pc (k_names_rising h10) <| pc (h11) <| pc (k_slices_Contains_int h13) <| pc (h14) <| pn)
          · rcases ite_out h with ⟨h15, h⟩ | ⟨h15, h⟩
            · rcases ite_out h with ⟨h16, h⟩ | ⟨h16, h⟩
              · injection h with h; subst h; exact runLp_sound mixedOrders (live := [6]) (ids := []) (π := [.callv (.v (.bool r4)), .dec false, .dec false, .dec false, .callv (.v (.bool r9)), .dec false, .callv (.v (.bool r12)), .dec false, .dec true, .dec true]) (hx := by kernel_rfl) (hps := pc (k_names_place_Device h5) <| pc (h6) <| pc (h7) <| pc (h8) <| pc (k_names_rising h10) <| pc (h11) <| pc (k_slices_Contains_int h13) <| pc (h14) <| pc (h15) <| pc (h16) <| pn)
              · injection h with h; subst h; exact runLp_sound mixedOrders (live := [1, 3, 5, 6]) (ids := [0, 1]) (π := [.callv (.v (.bool r4)), .dec false, .dec false, .dec false, .callv (.v (.bool r9)), .dec false, .callv (.v (.bool r12)), .dec false, .dec true, .dec false]) (hx := by kernel_rfl) (hps := pc (k_names_place_Device h5) <| pc (h6) <| pc (h7) <| pc (h8) <| pc (k_names_rising h10) <| pc (h11) <| pc (k_slices_Contains_int h13) <| pc (h14) <| pc (h15) <| pc (h16) <| pn)
            · injection h with h; subst h; exact runLp_sound mixedOrders (live := [1, 3, 5, 6]) (ids := [0, 1]) (π := [.callv (.v (.bool r4)), .dec false, .dec false, .dec false, .callv (.v (.bool r9)), .dec false, .callv (.v (.bool r12)), .dec false, .dec false]) (hx := by kernel_rfl) (hps := pc (k_names_place_Device h5) <| pc (h6) <| pc (h7) <| pc (h8) <| pc (k_names_rising h10) <| pc (h11) <| pc (k_slices_Contains_int h13) <| pc (h14) <| pc (h15) <| pn)

theorem k_names_judge_port_L2 {a1 : Names_judge} {a2 : Int} {a3 : Api_Port} : LoopOK Tryz.prog UU 0 111 (subC (codeOf Tryz.f84) [1, 1, 0, 1, 0, 0]) (ρ := Unit ⊕ Unit) (names_judge_port_L2 a1 a2 a3)
    (fun v19 : Int => ([(1, .v (.int .i64 a2)), (3, .op 0 1 0 0), (5, .op 1 1 0 0), (6, .v (.bool false)), (51, .sl 3 a3.tagged), (52, .v (.int .i64 (a3.tagged.length : Int))), (53, .v (.int .i64 v19))] : Fr DD)) (fun v19 : Int => ([.box 93 (c93 a1) false, .box 71 (c71 a3) false] : Heap DD)) (fun r => match r with | Sum.inl _ => .ret | Sum.inr _ => .exit 0) (fun r => match r with | Sum.inl _ => [(6, .v (.bool false))] | Sum.inr _ => [(1, .v (.int .i64 a2)), (3, .op 0 1 0 0), (5, .op 1 1 0 0), (6, .v (.bool false))]) (fun r => match r with | Sum.inl _ => [] | Sum.inr _ => [.box 93 (c93 a1) false, .box 71 (c71 a3) false]) := by
  refine loop_sound3 (fun s q h => ?_) (fun r => ?_)
  · replace h : names_judge_port_L2 a1 a2 a3 s = some q := h; revert h; revert s; intro v19 h
    unfold names_judge_port_L2 at h
    rcases ite_out h with ⟨h20, h⟩ | ⟨h20, h⟩
    · obtain ⟨x21, h22, h⟩ := bind_out h
      obtain ⟨r23, h24, h⟩ := bind_out h
      rcases ite_out h with ⟨h25, h⟩ | ⟨h25, h⟩
      · injection h with h; subst h; exact runLp_sound mixedOrders (live := [6]) (ids := []) (π := [.dec true, .row (c3 x21), .callv (.v (.int .i64 r23)), .dec true]) (hx := by kernel_rfl) (hps := pc (h20) <| pc (ob3 h22) <| pc (k_names_judge_domain h24) <| pc (h25) <| pn)
      · injection h with h; subst h; exact runLp_sound mixedOrders (live := [1, 3, 5, 6, 51, 52, 53]) (ids := [0, 1]) (π := [.dec true, .row (c3 x21), .callv (.v (.int .i64 r23)), .dec false]) (hx := by kernel_rfl) (hps := pc (h20) <| pc (ob3 h22) <| pc (k_names_judge_domain h24) <| pc (h25) <| pn)
    · injection h with h; subst h; exact runLp_sound mixedOrders (live := [1, 3, 5, 6]) (ids := [0, 1]) (π := [.dec false]) (hx := by kernel_rfl) (hps := pc (h20) <| pn)
  · rcases r with _ | _ <;> exact Ex.noConfusion

theorem k_names_judge_port_J3 {a1 : Names_judge} {a2 : Int} {a3 : Api_Port} {r : Unit ⊕ Unit} (h : names_judge_port_J3 a1 a2 a3 = some r) :
    ExecOK Tryz.prog UU 0 111 (subC (codeOf Tryz.f84) [1, 1, 1, 0]) [(1, .v (.int .i64 a2)), (3, .op 0 1 0 0), (5, .op 1 1 0 0), (6, .v (.bool false))] [.box 93 (c93 a1) false, .box 71 (c71 a3) false] ((fun r => match r with | Sum.inl _ => .ret | Sum.inr _ => .nor) r) ((fun r => match r with | Sum.inl _ => [(6, .v (.bool false))] | Sum.inr _ => [(1, .v (.int .i64 a2)), (3, .op 0 1 0 0), (5, .op 1 1 0 0), (6, .v (.bool false))]) r) ((fun r => match r with | Sum.inl _ => [] | Sum.inr _ => [.box 93 (c93 a1) false, .box 71 (c71 a3) false]) r) := by
  unfold names_judge_port_J3 at h
  rcases ite_out h with ⟨h28, h⟩ | ⟨h28, h⟩
  · obtain ⟨r29, h30, h⟩ := bind_out h
    rcases ite_out h with ⟨h31, h⟩ | ⟨h31, h⟩
    · injection h with h; subst h; exact runLp_sound mixedOrders (live := [6]) (ids := []) (π := [.dec true, .callv (.v (.int .i64 r29)), .dec true]) (hx := by kernel_rfl) (hps := pc (h28) <| pc (k_names_judge_domain h30) <| pc (h31) <| pn)
    · injection h with h; subst h; exact runLp_sound mixedOrders (live := [1, 3, 5, 6]) (ids := [0, 1]) (π := [.dec true, .callv (.v (.int .i64 r29)), .dec false]) (hx := by kernel_rfl) (hps := pc (h28) <| pc (k_names_judge_domain h30) <| pc (h31) <| pn)
  · injection h with h; subst h; exact runLp_sound mixedOrders (live := [1, 3, 5, 6]) (ids := [0, 1]) (π := [.dec false]) (hx := by kernel_rfl) (hps := pc (h28) <| pn)

theorem k_names_judge_port {a1 : Names_judge} {a2 : Int} {a3 : Api_Port} {r : Bool} (h : names_judge_port a1 a2 a3 = some r) :
    CallsOK Tryz.prog UU 84 [.agg (c93 a1), .v (.int .i64 a2), .agg (c71 a3)] [] (.v (.bool r)) [] := by
  unfold names_judge_port at h
  obtain ⟨r18, h17, h⟩ := bind_out h
  rcases r18 with _ | _
  · injection h with h; subst h; exact runFn_sound mixedOrders Tryz.func84 rfl (keep := none) (π := [.skp, .cut [1, 3, 5, 6] [0, 1] .ret [(6, .v (.bool false))] []]) (hrun := by kernel_rfl) (hps := pc (k_names_judge_port_J1 h17) <| pn)
  · obtain ⟨r27, h26, h⟩ := bind_out h
    rcases r27 with _ | _
    · injection h with h; subst h; exact runFn_sound mixedOrders Tryz.func84 rfl (keep := none) (π := [.skp, .cut [1, 3, 5, 6] [0, 1] .nor [(1, .v (.int .i64 a2)), (3, .op 0 1 0 0), (5, .op 1 1 0 0), (6, .v (.bool false))] [.box 93 (c93 a1) false, .box 71 (c71 a3) false], .sum [1, 3, 5, 6, 51, 52, 53] [0, 1] .ret [(6, .v (.bool false))] []]) (hrun := by kernel_rfl) (hps := pc (k_names_judge_port_J1 h17) <| pc (k_names_judge_port_L2 _ _ h26) <| pn)
    · obtain ⟨r33, h32, h⟩ := bind_out h
      rcases r33 with _ | _
      · injection h with h; subst h; exact runFn_sound mixedOrders Tryz.func84 rfl (keep := none) (π := [.skp, .cut [1, 3, 5, 6] [0, 1] .nor [(1, .v (.int .i64 a2)), (3, .op 0 1 0 0), (5, .op 1 1 0 0), (6, .v (.bool false))] [.box 93 (c93 a1) false, .box 71 (c71 a3) false], .sum [1, 3, 5, 6, 51, 52, 53] [0, 1] (.exit 0) [(1, .v (.int .i64 a2)), (3, .op 0 1 0 0), (5, .op 1 1 0 0), (6, .v (.bool false))] [.box 93 (c93 a1) false, .box 71 (c71 a3) false], .cut [1, 3, 5, 6] [0, 1] .ret [(6, .v (.bool false))] []]) (hrun := by kernel_rfl) (hps := pc (k_names_judge_port_J1 h17) <| pc (k_names_judge_port_L2 _ _ h26) <| pc (k_names_judge_port_J3 h32) <| pn)
      · rcases ite_out h with ⟨h34, h⟩ | ⟨h34, h⟩
        · injection h with h; subst h; exact runFn_sound mixedOrders Tryz.func84 rfl (keep := none) (π := [.skp, .cut [1, 3, 5, 6] [0, 1] .nor [(1, .v (.int .i64 a2)), (3, .op 0 1 0 0), (5, .op 1 1 0 0), (6, .v (.bool false))] [.box 93 (c93 a1) false, .box 71 (c71 a3) false], .sum [1, 3, 5, 6, 51, 52, 53] [0, 1] (.exit 0) [(1, .v (.int .i64 a2)), (3, .op 0 1 0 0), (5, .op 1 1 0 0), (6, .v (.bool false))] [.box 93 (c93 a1) false, .box 71 (c71 a3) false], .cut [1, 3, 5, 6] [0, 1] .nor [(1, .v (.int .i64 a2)), (3, .op 0 1 0 0), (5, .op 1 1 0 0), (6, .v (.bool false))] [.box 93 (c93 a1) false, .box 71 (c71 a3) false], .dec true]) (hrun := by kernel_rfl) (hps := pc (k_names_judge_port_J1 h17) <| pc (k_names_judge_port_L2 _ _ h26) <| pc (k_names_judge_port_J3 h32) <| pc (h34) <| pn)
        · obtain ⟨r35, h36, h⟩ := bind_out h
          rcases ite_out h with ⟨h37, h⟩ | ⟨h37, h⟩
          · obtain ⟨x38, h39, h⟩ := bind_out h
            rcases ite_out h with ⟨h40, h⟩ | ⟨h40, h⟩
            · injection h with h; subst h; exact runFn_sound mixedOrders Tryz.func84 rfl (keep := none) (π := [.skp, .cut [1, 3, 5, 6] [0, 1] .nor [(1, .v (.int .i64 a2)), (3, .op 0 1 0 0), (5, .op 1 1 0 0), (6, .v (.bool false))] [.box 93 (c93 a1) false, .box 71 (c71 a3) false], .sum [1, 3, 5, 6, 51, 52, 53] [0, 1] (.exit 0) [(1, .v (.int .i64 a2)), (3, .op 0 1 0 0), (5, .op 1 1 0 0), (6, .v (.bool false))] [.box 93 (c93 a1) false, .box 71 (c71 a3) false], .cut [1, 3, 5, 6] [0, 1] .nor [(1, .v (.int .i64 a2)), (3, .op 0 1 0 0), (5, .op 1 1 0 0), (6, .v (.bool false))] [.box 93 (c93 a1) false, .box 71 (c71 a3) false], .dec false, .callv (.v (.bool r35)), .dec true, .row (c100 x38), .dec true]) (hrun := by kernel_rfl) (hps := pc (k_names_judge_port_J1 h17) <| pc (k_names_judge_port_L2 _ _ h26) <| pc (k_names_judge_port_J3 h32) <| pc (h34) <| pc (k_names_place_Link h36) <| pc (h37) <| pc (ob100 h39) <| pc (h40) <| pn)
            · obtain ⟨x41, h42, h⟩ := bind_out h
              injection h with h; subst h; exact runFn_sound mixedOrders Tryz.func84 rfl (keep := none) (π := [.skp, .cut [1, 3, 5, 6] [0, 1] .nor [(1, .v (.int .i64 a2)), (3, .op 0 1 0 0), (5, .op 1 1 0 0), (6, .v (.bool false))] [.box 93 (c93 a1) false, .box 71 (c71 a3) false], .sum [1, 3, 5, 6, 51, 52, 53] [0, 1] (.exit 0) [(1, .v (.int .i64 a2)), (3, .op 0 1 0 0), (5, .op 1 1 0 0), (6, .v (.bool false))] [.box 93 (c93 a1) false, .box 71 (c71 a3) false], .cut [1, 3, 5, 6] [0, 1] .nor [(1, .v (.int .i64 a2)), (3, .op 0 1 0 0), (5, .op 1 1 0 0), (6, .v (.bool false))] [.box 93 (c93 a1) false, .box 71 (c71 a3) false], .dec false, .callv (.v (.bool r35)), .dec true, .row (c100 x38), .dec false, .row (c100 x41)]) (hrun := by kernel_rfl) (hps := pc (k_names_judge_port_J1 h17) <| pc (k_names_judge_port_L2 _ _ h26) <| pc (k_names_judge_port_J3 h32) <| pc (h34) <| pc (k_names_place_Link h36) <| pc (h37) <| pc (ob100 h39) <| pc (h40) <| pc (ob100 h42) <| pn)
          · injection h with h; subst h; exact runFn_sound mixedOrders Tryz.func84 rfl (keep := none) (π := [.skp, .cut [1, 3, 5, 6] [0, 1] .nor [(1, .v (.int .i64 a2)), (3, .op 0 1 0 0), (5, .op 1 1 0 0), (6, .v (.bool false))] [.box 93 (c93 a1) false, .box 71 (c71 a3) false], .sum [1, 3, 5, 6, 51, 52, 53] [0, 1] (.exit 0) [(1, .v (.int .i64 a2)), (3, .op 0 1 0 0), (5, .op 1 1 0 0), (6, .v (.bool false))] [.box 93 (c93 a1) false, .box 71 (c71 a3) false], .cut [1, 3, 5, 6] [0, 1] .nor [(1, .v (.int .i64 a2)), (3, .op 0 1 0 0), (5, .op 1 1 0 0), (6, .v (.bool false))] [.box 93 (c93 a1) false, .box 71 (c71 a3) false], .dec false, .callv (.v (.bool r35)), .dec false]) (hrun := by kernel_rfl) (hps := pc (k_names_judge_port_J1 h17) <| pc (k_names_judge_port_L2 _ _ h26) <| pc (k_names_judge_port_J3 h32) <| pc (h34) <| pc (k_names_place_Link h36) <| pc (h37) <| pn)

theorem k_names_all_Port_judge_port_L1 {a1 : List Api_Port} {a2 : Names_judge} : LoopOK Tryz.prog UU 0 20 (subC (codeOf Tryz.f83) [1, 0, 1, 0, 0]) (ρ := Unit ⊕ Unit) (names_all_Port_judge_port_L1 a1 a2)
    (fun v3 : Int => ([(1, .fn (.func 84) [.agg (c93 a2)] []), (4, .v (.bool false)), (7, .sl 71 a1), (8, .v (.int .i64 (a1.length : Int))), (9, .v (.int .i64 v3))] : Fr DD)) (fun v3 : Int => ([] : Heap DD)) (fun r => match r with | Sum.inl _ => .ret | Sum.inr _ => .exit 0) (fun r => match r with | Sum.inl _ => [(4, .v (.bool false))] | Sum.inr _ => [(4, .v (.bool false))]) (fun r => match r with | Sum.inl _ => [] | Sum.inr _ => []) := by
  refine loop_sound3 (fun s q h => ?_) (fun r => ?_)
  · replace h : names_all_Port_judge_port_L1 a1 a2 s = some q := h; revert h; revert s; intro v3 h
    unfold names_all_Port_judge_port_L1 at h
    rcases ite_out h with ⟨h4, h⟩ | ⟨h4, h⟩
    · obtain ⟨x5, h6, h⟩ := bind_out h
      obtain ⟨r7, h8, h⟩ := bind_out h
      rcases ite_out h with ⟨h9, h⟩ | ⟨h9, h⟩
      · injection h with h; subst h; exact runLp_sound mixedOrders (live := [4]) (ids := []) (π := [.dec true, .row (c71 x5), .callv (.v (.bool r7)), .dec true]) (hx := by kernel_rfl) (hps := pc (h4) <| pc (ob71 h6) <| pc (k_names_judge_port h8) <| pc (h9) <| pn)
      · injection h with h; subst h; exact runLp_sound mixedOrders (live := [1, 4, 7, 8, 9]) (ids := []) (π := [.dec true, .row (c71 x5), .callv (.v (.bool r7)), .dec false]) (hx := by kernel_rfl) (hps := pc (h4) <| pc (ob71 h6) <| pc (k_names_judge_port h8) <| pc (h9) <| pn)
    · injection h with h; subst h; exact runLp_sound mixedOrders (live := [4]) (ids := []) (π := [.dec false]) (hx := by kernel_rfl) (hps := pc (h4) <| pn)
  · rcases r with _ | _ <;> exact Ex.noConfusion

theorem k_names_all_Port_judge_port {a1 : List Api_Port} {a2 : Names_judge} {r : Bool} (h : names_all_Port_judge_port a1 a2 = some r) :
    CallsOK Tryz.prog UU 83 [.sl 71 a1, .fn (.func 84) [.agg (c93 a2)] []] [] (.v (.bool r)) [] := by
  unfold names_all_Port_judge_port at h
  obtain ⟨r11, h10, h⟩ := bind_out h
  rcases r11 with _ | _
  · injection h with h; subst h; exact runFn_sound mixedOrders Tryz.func83 rfl (keep := none) (π := [.sum [1, 4, 7, 8, 9] [] .ret [(4, .v (.bool false))] []]) (hrun := by kernel_rfl) (hps := pc (k_names_all_Port_judge_port_L1 _ _ h10) <| pn)
  · injection h with h; subst h; exact runFn_sound mixedOrders Tryz.func83 rfl (keep := none) (π := [.sum [1, 4, 7, 8, 9] [] (.exit 0) [(4, .v (.bool false))] []]) (hrun := by kernel_rfl) (hps := pc (k_names_all_Port_judge_port_L1 _ _ h10) <| pn)

theorem k_names_place_Port {a1 : List Api_Port} {a2 : Int} {r : Bool} (h : names_place_Port a1 a2 = some r) :
    CallsOK Tryz.prog UU 171 [.sl 71 a1, .v (.int .i64 a2)] [] (.v (.bool r)) [] := by
  unfold names_place_Port at h
  rcases ite_out h with ⟨h3, h⟩ | ⟨h3, h⟩
  · injection h with h; subst h; exact runFn_sound mixedOrders Tryz.func171 rfl (keep := none) (π := [.dec true]) (hrun := by kernel_rfl) (hps := pc (h3) <| pn)
  · injection h with h; subst h; exact runFn_sound mixedOrders Tryz.func171 rfl (keep := none) (π := [.dec false]) (hrun := by kernel_rfl) (hps := pc (h3) <| pn)

theorem k_names_judge_link {a1 : Names_judge} {a2 : Int} {a3 : Api_Link} {r : Bool} (h : names_judge_link a1 a2 a3 = some r) :
    CallsOK Tryz.prog UU 86 [.agg (c93 a1), .v (.int .i64 a2), .agg (c100 a3)] [] (.v (.bool r)) [] := by
  unfold names_judge_link at h
  obtain ⟨r4, h5, h⟩ := bind_out h
  rcases ite_out h with ⟨h6, h⟩ | ⟨h6, h⟩
  · injection h with h; subst h; exact runFn_sound mixedOrders Tryz.func86 rfl (keep := none) (π := [.callv (.v (.bool r4)), .dec true]) (hrun := by kernel_rfl) (hps := pc (k_names_place_Port h5) <| pc (h6) <| pn)
  · obtain ⟨r7, h8, h⟩ := bind_out h
    rcases ite_out h with ⟨h9, h⟩ | ⟨h9, h⟩
    · injection h with h; subst h; exact runFn_sound mixedOrders Tryz.func86 rfl (keep := none) (π := [.callv (.v (.bool r4)), .dec false, .callv (.v (.bool r7)), .dec true]) (hrun := by kernel_rfl) (hps := pc (k_names_place_Port h5) <| pc (h6) <| pc (k_names_place_Port h8) <| pc (h9) <| pn)
    · obtain ⟨x10, h11, h⟩ := bind_out h
      obtain ⟨x12, h13, h⟩ := bind_out h
      rcases ite_out h with ⟨h14, h⟩ | ⟨h14, h⟩
      · rcases ite_out h with ⟨h15, h⟩ | ⟨h15, h⟩
        · injection h with h; subst h; exact runFn_sound mixedOrders Tryz.func86 rfl (keep := none) (π := [.callv (.v (.bool r4)), .dec false, .callv (.v (.bool r7)), .dec false, .row (c71 x10), .row (c71 x12), .dec true, .dec true]) (hrun := by kernel_rfl) (hps := pc (k_names_place_Port h5) <| pc (h6) <| pc (k_names_place_Port h8) <| pc (h9) <| pc (ob71 h11) <| pc (ob71 h13) <| pc (h14) <| pc (h15) <| pn)
        · injection h with h; subst h; exact runFn_sound mixedOrders Tryz.func86 rfl (keep := none) (π := [.callv (.v (.bool r4)), .dec false, .callv (.v (.bool r7)), .dec false, .row (c71 x10), .row (c71 x12), .dec true, .dec false]) (hrun := by kernel_rfl) (hps := pc (k_names_place_Port h5) <| pc (h6) <| pc (k_names_place_Port h8) <| pc (h9) <| pc (ob71 h11) <| pc (ob71 h13) <| pc (h14) <| pc (h15) <| pn)
      · injection h with h; subst h; exact runFn_sound mixedOrders Tryz.func86 rfl (keep := none) (π := [.callv (.v (.bool r4)), .dec false, .callv (.v (.bool r7)), .dec false, .row (c71 x10), .row (c71 x12), .dec false]) (hrun := by kernel_rfl) (hps := pc (k_names_place_Port h5) <| pc (h6) <| pc (k_names_place_Port h8) <| pc (h9) <| pc (ob71 h11) <| pc (ob71 h13) <| pc (h14) <| pn)

theorem k_names_all_Link_judge_link_L1 {a1 : List Api_Link} {a2 : Names_judge} : LoopOK Tryz.prog UU 0 20 (subC (codeOf Tryz.f85) [1, 0, 1, 0, 0]) (ρ := Unit ⊕ Unit) (names_all_Link_judge_link_L1 a1 a2)
    (fun v3 : Int => ([(1, .fn (.func 86) [.agg (c93 a2)] []), (4, .v (.bool false)), (7, .sl 100 a1), (8, .v (.int .i64 (a1.length : Int))), (9, .v (.int .i64 v3))] : Fr DD)) (fun v3 : Int => ([] : Heap DD)) (fun r => match r with | Sum.inl _ => .ret | Sum.inr _ => .exit 0) (fun r => match r with | Sum.inl _ => [(4, .v (.bool false))] | Sum.inr _ => [(4, .v (.bool false))]) (fun r => match r with | Sum.inl _ => [] | Sum.inr _ => []) := by
  refine loop_sound3 (fun s q h => ?_) (fun r => ?_)
  · replace h : names_all_Link_judge_link_L1 a1 a2 s = some q := h; revert h; revert s; intro v3 h
    unfold names_all_Link_judge_link_L1 at h
    rcases ite_out h with ⟨h4, h⟩ | ⟨h4, h⟩
    · obtain ⟨x5, h6, h⟩ := bind_out h
      obtain ⟨r7, h8, h⟩ := bind_out h
      rcases ite_out h with ⟨h9, h⟩ | ⟨h9, h⟩
      · injection h with h; subst h; exact runLp_sound mixedOrders (live := [4]) (ids := []) (π := [.dec true, .row (c100 x5), .callv (.v (.bool r7)), .dec true]) (hx := by kernel_rfl) (hps := pc (h4) <| pc (ob100 h6) <| pc (k_names_judge_link h8) <| pc (h9) <| pn)
      · injection h with h; subst h; exact runLp_sound mixedOrders (live := [1, 4, 7, 8, 9]) (ids := []) (π := [.dec true, .row (c100 x5), .callv (.v (.bool r7)), .dec false]) (hx := by kernel_rfl) (hps := pc (h4) <| pc (ob100 h6) <| pc (k_names_judge_link h8) <| pc (h9) <| pn)
    · injection h with h; subst h; exact runLp_sound mixedOrders (live := [4]) (ids := []) (π := [.dec false]) (hx := by kernel_rfl) (hps := pc (h4) <| pn)
  · rcases r with _ | _ <;> exact Ex.noConfusion

theorem k_names_all_Link_judge_link {a1 : List Api_Link} {a2 : Names_judge} {r : Bool} (h : names_all_Link_judge_link a1 a2 = some r) :
    CallsOK Tryz.prog UU 85 [.sl 100 a1, .fn (.func 86) [.agg (c93 a2)] []] [] (.v (.bool r)) [] := by
  unfold names_all_Link_judge_link at h
  obtain ⟨r11, h10, h⟩ := bind_out h
  rcases r11 with _ | _
  · injection h with h; subst h; exact runFn_sound mixedOrders Tryz.func85 rfl (keep := none) (π := [.sum [1, 4, 7, 8, 9] [] .ret [(4, .v (.bool false))] []]) (hrun := by kernel_rfl) (hps := pc (k_names_all_Link_judge_link_L1 _ _ h10) <| pn)
  · injection h with h; subst h; exact runFn_sound mixedOrders Tryz.func85 rfl (keep := none) (π := [.sum [1, 4, 7, 8, 9] [] (.exit 0) [(4, .v (.bool false))] []]) (hrun := by kernel_rfl) (hps := pc (k_names_all_Link_judge_link_L1 _ _ h10) <| pn)

theorem k_names_Member {a1 : Api_Port} {a2 : Int} {r : Bool} (h : names_Member a1 a2 = some r) :
    CallsOK Tryz.prog UU 64 [.agg (c71 a1), .v (.int .i64 a2)] [] (.v (.bool r)) [] := by
  unfold names_Member at h
  rcases ite_out h with ⟨h3, h⟩ | ⟨h3, h⟩
  · rcases ite_out h with ⟨h4, h⟩ | ⟨h4, h⟩
    · injection h with h; subst h; exact runFn_sound mixedOrders Tryz.func64 rfl (keep := none) (π := [.dec true, .dec true]) (hrun := by kernel_rfl) (hps := pc (h3) <| pc (h4) <| pn)
    · obtain ⟨r5, h6, h⟩ := bind_out h
      injection h with h; subst h; exact runFn_sound mixedOrders Tryz.func64 rfl (keep := none) (π := [.dec true, .dec false, .callv (.v (.bool r5))]) (hrun := by kernel_rfl) (hps := pc (h3) <| pc (h4) <| pc (k_slices_Contains_int h6) <| pn)
  · injection h with h; subst h; exact runFn_sound mixedOrders Tryz.func64 rfl (keep := none) (π := [.dec false]) (hrun := by kernel_rfl) (hps := pc (h3) <| pn)

theorem k_names_judge_static {a1 : Names_judge} {a2 : Int} {a3 : Api_Static} {r : Bool} (h : names_judge_static a1 a2 a3 = some r) :
    CallsOK Tryz.prog UU 88 [.agg (c93 a1), .v (.int .i64 a2), .agg (c104 a3)] [] (.v (.bool r)) [] := by
  unfold names_judge_static at h
  obtain ⟨r4, h5, h⟩ := bind_out h
  rcases ite_out h with ⟨h6, h⟩ | ⟨h6, h⟩
  · injection h with h; subst h; exact runFn_sound mixedOrders Tryz.func88 rfl (keep := none) (π := [.callv (.v (.bool r4)), .dec true]) (hrun := by kernel_rfl) (hps := pc (k_names_place_Domain h5) <| pc (h6) <| pn)
  · obtain ⟨r7, h8, h⟩ := bind_out h
    rcases ite_out h with ⟨h9, h⟩ | ⟨h9, h⟩
    · injection h with h; subst h; exact runFn_sound mixedOrders Tryz.func88 rfl (keep := none) (π := [.callv (.v (.bool r4)), .dec false, .callv (.v (.bool r7)), .dec true]) (hrun := by kernel_rfl) (hps := pc (k_names_place_Domain h5) <| pc (h6) <| pc (k_names_place_Port h8) <| pc (h9) <| pn)
    · obtain ⟨x10, h11, h⟩ := bind_out h
      obtain ⟨x12, h13, h⟩ := bind_out h
      rcases ite_out h with ⟨h14, h⟩ | ⟨h14, h⟩
      · obtain ⟨r15, h16, h⟩ := bind_out h
        injection h with h; subst h; exact runFn_sound mixedOrders Tryz.func88 rfl (keep := none) (π := [.callv (.v (.bool r4)), .dec false, .callv (.v (.bool r7)), .dec false, .row (c71 x10), .row (c57 x12), .dec true, .callv (.v (.bool r15))]) (hrun := by kernel_rfl) (hps := pc (k_names_place_Domain h5) <| pc (h6) <| pc (k_names_place_Port h8) <| pc (h9) <| pc (ob71 h11) <| pc (ob57 h13) <| pc (h14) <| pc (k_names_Member h16) <| pn)
      · injection h with h; subst h; exact runFn_sound mixedOrders Tryz.func88 rfl (keep := none) (π := [.callv (.v (.bool r4)), .dec false, .callv (.v (.bool r7)), .dec false, .row (c71 x10), .row (c57 x12), .dec false]) (hrun := by kernel_rfl) (hps := pc (k_names_place_Domain h5) <| pc (h6) <| pc (k_names_place_Port h8) <| pc (h9) <| pc (ob71 h11) <| pc (ob57 h13) <| pc (h14) <| pn)

theorem k_names_all_Static_judge_static_L1 {a1 : List Api_Static} {a2 : Names_judge} : LoopOK Tryz.prog UU 0 20 (subC (codeOf Tryz.f87) [1, 0, 1, 0, 0]) (ρ := Unit ⊕ Unit) (names_all_Static_judge_static_L1 a1 a2)
    (fun v3 : Int => ([(1, .fn (.func 88) [.agg (c93 a2)] []), (4, .v (.bool false)), (7, .sl 104 a1), (8, .v (.int .i64 (a1.length : Int))), (9, .v (.int .i64 v3))] : Fr DD)) (fun v3 : Int => ([] : Heap DD)) (fun r => match r with | Sum.inl _ => .ret | Sum.inr _ => .exit 0) (fun r => match r with | Sum.inl _ => [(4, .v (.bool false))] | Sum.inr _ => [(4, .v (.bool false))]) (fun r => match r with | Sum.inl _ => [] | Sum.inr _ => []) := by
  refine loop_sound3 (fun s q h => ?_) (fun r => ?_)
  · replace h : names_all_Static_judge_static_L1 a1 a2 s = some q := h; revert h; revert s; intro v3 h
    unfold names_all_Static_judge_static_L1 at h
    rcases ite_out h with ⟨h4, h⟩ | ⟨h4, h⟩
    · obtain ⟨x5, h6, h⟩ := bind_out h
      obtain ⟨r7, h8, h⟩ := bind_out h
      rcases ite_out h with ⟨h9, h⟩ | ⟨h9, h⟩
      · injection h with h; subst h; exact runLp_sound mixedOrders (live := [4]) (ids := []) (π := [.dec true, .row (c104 x5), .callv (.v (.bool r7)), .dec true]) (hx := by kernel_rfl) (hps := pc (h4) <| pc (ob104 h6) <| pc (k_names_judge_static h8) <| pc (h9) <| pn)
      · injection h with h; subst h; exact runLp_sound mixedOrders (live := [1, 4, 7, 8, 9]) (ids := []) (π := [.dec true, .row (c104 x5), .callv (.v (.bool r7)), .dec false]) (hx := by kernel_rfl) (hps := pc (h4) <| pc (ob104 h6) <| pc (k_names_judge_static h8) <| pc (h9) <| pn)
    · injection h with h; subst h; exact runLp_sound mixedOrders (live := [4]) (ids := []) (π := [.dec false]) (hx := by kernel_rfl) (hps := pc (h4) <| pn)
  · rcases r with _ | _ <;> exact Ex.noConfusion

theorem k_names_all_Static_judge_static {a1 : List Api_Static} {a2 : Names_judge} {r : Bool} (h : names_all_Static_judge_static a1 a2 = some r) :
    CallsOK Tryz.prog UU 87 [.sl 104 a1, .fn (.func 88) [.agg (c93 a2)] []] [] (.v (.bool r)) [] := by
  unfold names_all_Static_judge_static at h
  obtain ⟨r11, h10, h⟩ := bind_out h
  rcases r11 with _ | _
  · injection h with h; subst h; exact runFn_sound mixedOrders Tryz.func87 rfl (keep := none) (π := [.sum [1, 4, 7, 8, 9] [] .ret [(4, .v (.bool false))] []]) (hrun := by kernel_rfl) (hps := pc (k_names_all_Static_judge_static_L1 _ _ h10) <| pn)
  · injection h with h; subst h; exact runFn_sound mixedOrders Tryz.func87 rfl (keep := none) (π := [.sum [1, 4, 7, 8, 9] [] (.exit 0) [(4, .v (.bool false))] []]) (hrun := by kernel_rfl) (hps := pc (k_names_all_Static_judge_static_L1 _ _ h10) <| pn)

theorem k_names_Right_1 {a1 : Int} {a2 : Api_Flood} {a3 : Api_Net} {r : Bool} (h : names_Right_1 a1 a2 a3 = some r) :
    CallsOK Tryz.prog UU 90 [.v (.int .i64 a1), .agg (c87 a2), .rp (c31 a3) 0] [] (.v (.bool r)) [] := by
  unfold names_Right_1 at h
  obtain ⟨r4, h5, h⟩ := bind_out h
  rcases ite_out h with ⟨h6, h⟩ | ⟨h6, h⟩
  · injection h with h; subst h; exact runFn_sound mixedOrders Tryz.func90 rfl (keep := none) (π := [.callv (.v (.bool r4)), .dec true]) (hrun := by kernel_rfl) (hps := pc (k_names_place_Device h5) <| pc (h6) <| pn)
  · injection h with h; subst h; exact runFn_sound mixedOrders Tryz.func90 rfl (keep := none) (π := [.callv (.v (.bool r4)), .dec false]) (hrun := by kernel_rfl) (hps := pc (k_names_place_Device h5) <| pc (h6) <| pn)

theorem k_names_all_Flood_Right_1_L1 {a1 : List Api_Flood} {a2 : Api_Net} : LoopOK Tryz.prog UU 0 20 (subC (codeOf Tryz.f89) [1, 0, 1, 0, 0]) (ρ := Unit ⊕ Unit) (names_all_Flood_Right_1_L1 a1 a2)
    (fun v3 : Int => ([(1, .fn (.func 90) [] [.rp (c31 a2) 0]), (4, .v (.bool false)), (7, .sl 87 a1), (8, .v (.int .i64 (a1.length : Int))), (9, .v (.int .i64 v3))] : Fr DD)) (fun v3 : Int => ([] : Heap DD)) (fun r => match r with | Sum.inl _ => .ret | Sum.inr _ => .exit 0) (fun r => match r with | Sum.inl _ => [(4, .v (.bool false))] | Sum.inr _ => [(4, .v (.bool false))]) (fun r => match r with | Sum.inl _ => [] | Sum.inr _ => []) := by
  refine loop_sound3 (fun s q h => ?_) (fun r => ?_)
  · replace h : names_all_Flood_Right_1_L1 a1 a2 s = some q := h; revert h; revert s; intro v3 h
    unfold names_all_Flood_Right_1_L1 at h
    rcases ite_out h with ⟨h4, h⟩ | ⟨h4, h⟩
    · obtain ⟨x5, h6, h⟩ := bind_out h
      obtain ⟨r7, h8, h⟩ := bind_out h
      rcases ite_out h with ⟨h9, h⟩ | ⟨h9, h⟩
      · injection h with h; subst h; exact runLp_sound mixedOrders (live := [4]) (ids := []) (π := [.dec true, .row (c87 x5), .callv (.v (.bool r7)), .dec true]) (hx := by kernel_rfl) (hps := pc (h4) <| pc (ob87 h6) <| pc (k_names_Right_1 h8) <| pc (h9) <| pn)
      · injection h with h; subst h; exact runLp_sound mixedOrders (live := [1, 4, 7, 8, 9]) (ids := []) (π := [.dec true, .row (c87 x5), .callv (.v (.bool r7)), .dec false]) (hx := by kernel_rfl) (hps := pc (h4) <| pc (ob87 h6) <| pc (k_names_Right_1 h8) <| pc (h9) <| pn)
    · injection h with h; subst h; exact runLp_sound mixedOrders (live := [4]) (ids := []) (π := [.dec false]) (hx := by kernel_rfl) (hps := pc (h4) <| pn)
  · rcases r with _ | _ <;> exact Ex.noConfusion

theorem k_names_all_Flood_Right_1 {a1 : List Api_Flood} {a2 : Api_Net} {r : Bool} (h : names_all_Flood_Right_1 a1 a2 = some r) :
    CallsOK Tryz.prog UU 89 [.sl 87 a1, .fn (.func 90) [] [.rp (c31 a2) 0]] [] (.v (.bool r)) [] := by
  unfold names_all_Flood_Right_1 at h
  obtain ⟨r11, h10, h⟩ := bind_out h
  rcases r11 with _ | _
  · injection h with h; subst h; exact runFn_sound mixedOrders Tryz.func89 rfl (keep := none) (π := [.sum [1, 4, 7, 8, 9] [] .ret [(4, .v (.bool false))] []]) (hrun := by kernel_rfl) (hps := pc (k_names_all_Flood_Right_1_L1 _ _ h10) <| pn)
  · injection h with h; subst h; exact runFn_sound mixedOrders Tryz.func89 rfl (keep := none) (π := [.sum [1, 4, 7, 8, 9] [] (.exit 0) [(4, .v (.bool false))] []]) (hrun := by kernel_rfl) (hps := pc (k_names_all_Flood_Right_1_L1 _ _ h10) <| pn)

theorem k_names_Right_2 {a1 : Int} {a2 : Api_Vrf} {a3 : Api_Net} {r : Bool} (h : names_Right_2 a1 a2 a3 = some r) :
    CallsOK Tryz.prog UU 93 [.v (.int .i64 a1), .agg (c90 a2), .rp (c31 a3) 0] [] (.v (.bool r)) [] := by
  unfold names_Right_2 at h
  obtain ⟨r4, h5, h⟩ := bind_out h
  rcases ite_out h with ⟨h6, h⟩ | ⟨h6, h⟩
  · obtain ⟨r7, h8, h⟩ := bind_out h
    rcases ite_out h with ⟨h9, h⟩ | ⟨h9, h⟩
    · obtain ⟨r10, h11, h⟩ := bind_out h
      injection h with h; subst h; exact runFn_sound mixedOrders Tryz.func93 rfl (keep := none) (π := [.callv (.v (.bool r4)), .dec true, .callv (.v (.bool r7)), .dec true, .callv (.v (.bool r10))]) (hrun := by kernel_rfl) (hps := pc (k_names_place_Device h5) <| pc (h6) <| pc (k_names_rising h8) <| pc (h9) <| pc (k_names_rising h11) <| pn)
    · injection h with h; subst h; exact runFn_sound mixedOrders Tryz.func93 rfl (keep := none) (π := [.callv (.v (.bool r4)), .dec true, .callv (.v (.bool r7)), .dec false]) (hrun := by kernel_rfl) (hps := pc (k_names_place_Device h5) <| pc (h6) <| pc (k_names_rising h8) <| pc (h9) <| pn)
  · injection h with h; subst h; exact runFn_sound mixedOrders Tryz.func93 rfl (keep := none) (π := [.callv (.v (.bool r4)), .dec false]) (hrun := by kernel_rfl) (hps := pc (k_names_place_Device h5) <| pc (h6) <| pn)

theorem k_names_all_Vrf_Right_2_L1 {a1 : List Api_Vrf} {a2 : Api_Net} : LoopOK Tryz.prog UU 0 20 (subC (codeOf Tryz.f92) [1, 0, 1, 0, 0]) (ρ := Unit ⊕ Unit) (names_all_Vrf_Right_2_L1 a1 a2)
    (fun v3 : Int => ([(1, .fn (.func 93) [] [.rp (c31 a2) 0]), (4, .v (.bool false)), (7, .sl 90 a1), (8, .v (.int .i64 (a1.length : Int))), (9, .v (.int .i64 v3))] : Fr DD)) (fun v3 : Int => ([] : Heap DD)) (fun r => match r with | Sum.inl _ => .ret | Sum.inr _ => .exit 0) (fun r => match r with | Sum.inl _ => [(4, .v (.bool false))] | Sum.inr _ => [(4, .v (.bool false))]) (fun r => match r with | Sum.inl _ => [] | Sum.inr _ => []) := by
  refine loop_sound3 (fun s q h => ?_) (fun r => ?_)
  · replace h : names_all_Vrf_Right_2_L1 a1 a2 s = some q := h; revert h; revert s; intro v3 h
    unfold names_all_Vrf_Right_2_L1 at h
    rcases ite_out h with ⟨h4, h⟩ | ⟨h4, h⟩
    · obtain ⟨x5, h6, h⟩ := bind_out h
      obtain ⟨r7, h8, h⟩ := bind_out h
      rcases ite_out h with ⟨h9, h⟩ | ⟨h9, h⟩
      · injection h with h; subst h; exact runLp_sound mixedOrders (live := [4]) (ids := []) (π := [.dec true, .row (c90 x5), .callv (.v (.bool r7)), .dec true]) (hx := by kernel_rfl) (hps := pc (h4) <| pc (ob90 h6) <| pc (k_names_Right_2 h8) <| pc (h9) <| pn)
      · injection h with h; subst h; exact runLp_sound mixedOrders (live := [1, 4, 7, 8, 9]) (ids := []) (π := [.dec true, .row (c90 x5), .callv (.v (.bool r7)), .dec false]) (hx := by kernel_rfl) (hps := pc (h4) <| pc (ob90 h6) <| pc (k_names_Right_2 h8) <| pc (h9) <| pn)
    · injection h with h; subst h; exact runLp_sound mixedOrders (live := [4]) (ids := []) (π := [.dec false]) (hx := by kernel_rfl) (hps := pc (h4) <| pn)
  · rcases r with _ | _ <;> exact Ex.noConfusion

theorem k_names_all_Vrf_Right_2 {a1 : List Api_Vrf} {a2 : Api_Net} {r : Bool} (h : names_all_Vrf_Right_2 a1 a2 = some r) :
    CallsOK Tryz.prog UU 92 [.sl 90 a1, .fn (.func 93) [] [.rp (c31 a2) 0]] [] (.v (.bool r)) [] := by
  unfold names_all_Vrf_Right_2 at h
  obtain ⟨r11, h10, h⟩ := bind_out h
  rcases r11 with _ | _
  · injection h with h; subst h; exact runFn_sound mixedOrders Tryz.func92 rfl (keep := none) (π := [.sum [1, 4, 7, 8, 9] [] .ret [(4, .v (.bool false))] []]) (hrun := by kernel_rfl) (hps := pc (k_names_all_Vrf_Right_2_L1 _ _ h10) <| pn)
  · injection h with h; subst h; exact runFn_sound mixedOrders Tryz.func92 rfl (keep := none) (π := [.sum [1, 4, 7, 8, 9] [] (.exit 0) [(4, .v (.bool false))] []]) (hrun := by kernel_rfl) (hps := pc (k_names_all_Vrf_Right_2_L1 _ _ h10) <| pn)

theorem k_names_place_Vrf {a1 : List Api_Vrf} {a2 : Int} {r : Bool} (h : names_place_Vrf a1 a2 = some r) :
    CallsOK Tryz.prog UU 174 [.sl 90 a1, .v (.int .i64 a2)] [] (.v (.bool r)) [] := by
  unfold names_place_Vrf at h
  rcases ite_out h with ⟨h3, h⟩ | ⟨h3, h⟩
  · injection h with h; subst h; exact runFn_sound mixedOrders Tryz.func174 rfl (keep := none) (π := [.dec true]) (hrun := by kernel_rfl) (hps := pc (h3) <| pn)
  · injection h with h; subst h; exact runFn_sound mixedOrders Tryz.func174 rfl (keep := none) (π := [.dec false]) (hrun := by kernel_rfl) (hps := pc (h3) <| pn)

theorem k_names_judge_irb {a1 : Names_judge} {a2 : Int} {a3 : Api_Irb} {r : Bool} (h : names_judge_irb a1 a2 a3 = some r) :
    CallsOK Tryz.prog UU 96 [.agg (c93 a1), .v (.int .i64 a2), .agg (c116 a3)] [] (.v (.bool r)) [] := by
  unfold names_judge_irb at h
  obtain ⟨r4, h5, h⟩ := bind_out h
  rcases ite_out h with ⟨h6, h⟩ | ⟨h6, h⟩
  · obtain ⟨r7, h8, h⟩ := bind_out h
    rcases ite_out h with ⟨h9, h⟩ | ⟨h9, h⟩
    · obtain ⟨x10, h11, h⟩ := bind_out h
      obtain ⟨x12, h13, h⟩ := bind_out h
      rcases ite_out h with ⟨h14, h⟩ | ⟨h14, h⟩
      · obtain ⟨x15, h16, h⟩ := bind_out h
        rcases ite_out h with ⟨h17, h⟩ | ⟨h17, h⟩
        · rcases ite_out h with ⟨h18, h⟩ | ⟨h18, h⟩
          · injection h with h; subst h; exact runFn_sound mixedOrders Tryz.func96 rfl (keep := none) (π := [.callv (.v (.bool r4)), .dec true, .callv (.v (.bool r7)), .dec true, .row (c57 x10), .row (c90 x12), .dec true, .row (c57 x15), .dec true, .dec true]) (hrun := by kernel_rfl) (hps := pc (k_names_place_Domain h5) <| pc (h6) <| pc (k_names_place_Vrf h8) <| pc (h9) <| pc (ob57 h11) <| pc (ob90 h13) <| pc (h14) <| pc (ob57 h16) <| pc (h17) <| pc (h18) <| pn)
          · injection h with h; subst h; exact runFn_sound mixedOrders Tryz.func96 rfl (keep := none) (π := [.callv (.v (.bool r4)), .dec true, .callv (.v (.bool r7)), .dec true, .row (c57 x10), .row (c90 x12), .dec true, .row (c57 x15), .dec true, .dec false]) (hrun := by kernel_rfl) (hps := pc (k_names_place_Domain h5) <| pc (h6) <| pc (k_names_place_Vrf h8) <| pc (h9) <| pc (ob57 h11) <| pc (ob90 h13) <| pc (h14) <| pc (ob57 h16) <| pc (h17) <| pc (h18) <| pn)
        · injection h with h; subst h; exact runFn_sound mixedOrders Tryz.func96 rfl (keep := none) (π := [.callv (.v (.bool r4)), .dec true, .callv (.v (.bool r7)), .dec true, .row (c57 x10), .row (c90 x12), .dec true, .row (c57 x15), .dec false]) (hrun := by kernel_rfl) (hps := pc (k_names_place_Domain h5) <| pc (h6) <| pc (k_names_place_Vrf h8) <| pc (h9) <| pc (ob57 h11) <| pc (ob90 h13) <| pc (h14) <| pc (ob57 h16) <| pc (h17) <| pn)
      · injection h with h; subst h; exact runFn_sound mixedOrders Tryz.func96 rfl (keep := none) (π := [.callv (.v (.bool r4)), .dec true, .callv (.v (.bool r7)), .dec true, .row (c57 x10), .row (c90 x12), .dec false]) (hrun := by kernel_rfl) (hps := pc (k_names_place_Domain h5) <| pc (h6) <| pc (k_names_place_Vrf h8) <| pc (h9) <| pc (ob57 h11) <| pc (ob90 h13) <| pc (h14) <| pn)
    · injection h with h; subst h; exact runFn_sound mixedOrders Tryz.func96 rfl (keep := none) (π := [.callv (.v (.bool r4)), .dec true, .callv (.v (.bool r7)), .dec false]) (hrun := by kernel_rfl) (hps := pc (k_names_place_Domain h5) <| pc (h6) <| pc (k_names_place_Vrf h8) <| pc (h9) <| pn)
  · injection h with h; subst h; exact runFn_sound mixedOrders Tryz.func96 rfl (keep := none) (π := [.callv (.v (.bool r4)), .dec false]) (hrun := by kernel_rfl) (hps := pc (k_names_place_Domain h5) <| pc (h6) <| pn)

theorem k_names_all_Irb_judge_irb_L1 {a1 : List Api_Irb} {a2 : Names_judge} : LoopOK Tryz.prog UU 0 20 (subC (codeOf Tryz.f95) [1, 0, 1, 0, 0]) (ρ := Unit ⊕ Unit) (names_all_Irb_judge_irb_L1 a1 a2)
    (fun v3 : Int => ([(1, .fn (.func 96) [.agg (c93 a2)] []), (4, .v (.bool false)), (7, .sl 116 a1), (8, .v (.int .i64 (a1.length : Int))), (9, .v (.int .i64 v3))] : Fr DD)) (fun v3 : Int => ([] : Heap DD)) (fun r => match r with | Sum.inl _ => .ret | Sum.inr _ => .exit 0) (fun r => match r with | Sum.inl _ => [(4, .v (.bool false))] | Sum.inr _ => [(4, .v (.bool false))]) (fun r => match r with | Sum.inl _ => [] | Sum.inr _ => []) := by
  refine loop_sound3 (fun s q h => ?_) (fun r => ?_)
  · replace h : names_all_Irb_judge_irb_L1 a1 a2 s = some q := h; revert h; revert s; intro v3 h
    unfold names_all_Irb_judge_irb_L1 at h
    rcases ite_out h with ⟨h4, h⟩ | ⟨h4, h⟩
    · obtain ⟨x5, h6, h⟩ := bind_out h
      obtain ⟨r7, h8, h⟩ := bind_out h
      rcases ite_out h with ⟨h9, h⟩ | ⟨h9, h⟩
      · injection h with h; subst h; exact runLp_sound mixedOrders (live := [4]) (ids := []) (π := [.dec true, .row (c116 x5), .callv (.v (.bool r7)), .dec true]) (hx := by kernel_rfl) (hps := pc (h4) <| pc (ob116 h6) <| pc (k_names_judge_irb h8) <| pc (h9) <| pn)
      · injection h with h; subst h; exact runLp_sound mixedOrders (live := [1, 4, 7, 8, 9]) (ids := []) (π := [.dec true, .row (c116 x5), .callv (.v (.bool r7)), .dec false]) (hx := by kernel_rfl) (hps := pc (h4) <| pc (ob116 h6) <| pc (k_names_judge_irb h8) <| pc (h9) <| pn)
    · injection h with h; subst h; exact runLp_sound mixedOrders (live := [4]) (ids := []) (π := [.dec false]) (hx := by kernel_rfl) (hps := pc (h4) <| pn)
  · rcases r with _ | _ <;> exact Ex.noConfusion

theorem k_names_all_Irb_judge_irb {a1 : List Api_Irb} {a2 : Names_judge} {r : Bool} (h : names_all_Irb_judge_irb a1 a2 = some r) :
    CallsOK Tryz.prog UU 95 [.sl 116 a1, .fn (.func 96) [.agg (c93 a2)] []] [] (.v (.bool r)) [] := by
  unfold names_all_Irb_judge_irb at h
  obtain ⟨r11, h10, h⟩ := bind_out h
  rcases r11 with _ | _
  · injection h with h; subst h; exact runFn_sound mixedOrders Tryz.func95 rfl (keep := none) (π := [.sum [1, 4, 7, 8, 9] [] .ret [(4, .v (.bool false))] []]) (hrun := by kernel_rfl) (hps := pc (k_names_all_Irb_judge_irb_L1 _ _ h10) <| pn)
  · injection h with h; subst h; exact runFn_sound mixedOrders Tryz.func95 rfl (keep := none) (π := [.sum [1, 4, 7, 8, 9] [] (.exit 0) [(4, .v (.bool false))] []]) (hrun := by kernel_rfl) (hps := pc (k_names_all_Irb_judge_irb_L1 _ _ h10) <| pn)

theorem k_names_Right {a1 : Api_Net} {r : Bool} (h : names_Right a1 = some r) :
    CallsOK Tryz.prog UU 24 [.agg (c31 a1)] [] (.v (.bool r)) [] := by
  unfold names_Right at h
  obtain ⟨r2, h3, h⟩ := bind_out h
  rcases ite_out h with ⟨h4, h⟩ | ⟨h4, h⟩
  · obtain ⟨r5, h6, h⟩ := bind_out h
    rcases ite_out h with ⟨h7, h⟩ | ⟨h7, h⟩
    · obtain ⟨r8, h9, h⟩ := bind_out h
      rcases ite_out h with ⟨h10, h⟩ | ⟨h10, h⟩
      · obtain ⟨r11, h12, h⟩ := bind_out h
        rcases ite_out h with ⟨h13, h⟩ | ⟨h13, h⟩
        · obtain ⟨r14, h15, h⟩ := bind_out h
          rcases ite_out h with ⟨h16, h⟩ | ⟨h16, h⟩
          · obtain ⟨r17, h18, h⟩ := bind_out h
            rcases ite_out h with ⟨h19, h⟩ | ⟨h19, h⟩
            · obtain ⟨r20, h21, h⟩ := bind_out h
              rcases ite_out h with ⟨h22, h⟩ | ⟨h22, h⟩
              · obtain ⟨r23, h24, h⟩ := bind_out h
                rcases ite_out h with ⟨h25, h⟩ | ⟨h25, h⟩
                · obtain ⟨r26, h27, h⟩ := bind_out h
                  injection h with h; subst h; exact runFn_sound mixedOrders Tryz.func24 rfl (keep := none) (π := [.callv (.v (.bool r2)), .dec true, .callv (.v (.bool r5)), .dec true, .callv (.v (.bool r8)), .dec true, .callv (.v (.bool r11)), .dec true, .callv (.v (.bool r14)), .dec true, .callv (.v (.bool r17)), .dec true, .callv (.v (.bool r20)), .dec true, .callv (.v (.bool r23)), .dec true, .callv (.v (.bool r26))]) (hrun := by kernel_rfl) (hps := pc (k_names_judge_few h3) <| pc (h4) <| pc (k_names_all_Domain_judge_bare h6) <| pc (h7) <| pc (k_names_all_Domain_judge_peers h9) <| pc (h10) <| pc (k_names_all_Port_judge_port h12) <| pc (h13) <| pc (k_names_all_Link_judge_link h15) <| pc (h16) <| pc (k_names_all_Static_judge_static h18) <| pc (h19) <| pc (k_names_all_Flood_Right_1 h21) <| pc (h22) <| pc (k_names_all_Vrf_Right_2 h24) <| pc (h25) <| pc (k_names_all_Irb_judge_irb h27) <| pn)
                · injection h with h; subst h; exact runFn_sound mixedOrders Tryz.func24 rfl (keep := none) (π := [.callv (.v (.bool r2)), .dec true, .callv (.v (.bool r5)), .dec true, .callv (.v (.bool r8)), .dec true, .callv (.v (.bool r11)), .dec true, .callv (.v (.bool r14)), .dec true, .callv (.v (.bool r17)), .dec true, .callv (.v (.bool r20)), .dec true, .callv (.v (.bool r23)), .dec false]) (hrun := by kernel_rfl) (hps := pc (k_names_judge_few h3) <| pc (h4) <| pc (k_names_all_Domain_judge_bare h6) <| pc (h7) <| pc (k_names_all_Domain_judge_peers h9) <| pc (h10) <| pc (k_names_all_Port_judge_port h12) <| pc (h13) <| pc (k_names_all_Link_judge_link h15) <| pc (h16) <| pc (k_names_all_Static_judge_static h18) <| pc (h19) <| pc (k_names_all_Flood_Right_1 h21) <| pc (h22) <| pc (k_names_all_Vrf_Right_2 h24) <| pc (h25) <| pn)
              · injection h with h; subst h; exact runFn_sound mixedOrders Tryz.func24 rfl (keep := none) (π := [.callv (.v (.bool r2)), .dec true, .callv (.v (.bool r5)), .dec true, .callv (.v (.bool r8)), .dec true, .callv (.v (.bool r11)), .dec true, .callv (.v (.bool r14)), .dec true, .callv (.v (.bool r17)), .dec true, .callv (.v (.bool r20)), .dec false]) (hrun := by kernel_rfl) (hps := pc (k_names_judge_few h3) <| pc (h4) <| pc (k_names_all_Domain_judge_bare h6) <| pc (h7) <| pc (k_names_all_Domain_judge_peers h9) <| pc (h10) <| pc (k_names_all_Port_judge_port h12) <| pc (h13) <| pc (k_names_all_Link_judge_link h15) <| pc (h16) <| pc (k_names_all_Static_judge_static h18) <| pc (h19) <| pc (k_names_all_Flood_Right_1 h21) <| pc (h22) <| pn)
            · injection h with h; subst h; exact runFn_sound mixedOrders Tryz.func24 rfl (keep := none) (π := [.callv (.v (.bool r2)), .dec true, .callv (.v (.bool r5)), .dec true, .callv (.v (.bool r8)), .dec true, .callv (.v (.bool r11)), .dec true, .callv (.v (.bool r14)), .dec true, .callv (.v (.bool r17)), .dec false]) (hrun := by kernel_rfl) (hps := pc (k_names_judge_few h3) <| pc (h4) <| pc (k_names_all_Domain_judge_bare h6) <| pc (h7) <| pc (k_names_all_Domain_judge_peers h9) <| pc (h10) <| pc (k_names_all_Port_judge_port h12) <| pc (h13) <| pc (k_names_all_Link_judge_link h15) <| pc (h16) <| pc (k_names_all_Static_judge_static h18) <| pc (h19) <| pn)
          · injection h with h; subst h; exact runFn_sound mixedOrders Tryz.func24 rfl (keep := none) (π := [.callv (.v (.bool r2)), .dec true, .callv (.v (.bool r5)), .dec true, .callv (.v (.bool r8)), .dec true, .callv (.v (.bool r11)), .dec true, .callv (.v (.bool r14)), .dec false]) (hrun := by kernel_rfl) (hps := pc (k_names_judge_few h3) <| pc (h4) <| pc (k_names_all_Domain_judge_bare h6) <| pc (h7) <| pc (k_names_all_Domain_judge_peers h9) <| pc (h10) <| pc (k_names_all_Port_judge_port h12) <| pc (h13) <| pc (k_names_all_Link_judge_link h15) <| pc (h16) <| pn)
        · injection h with h; subst h; exact runFn_sound mixedOrders Tryz.func24 rfl (keep := none) (π := [.callv (.v (.bool r2)), .dec true, .callv (.v (.bool r5)), .dec true, .callv (.v (.bool r8)), .dec true, .callv (.v (.bool r11)), .dec false]) (hrun := by kernel_rfl) (hps := pc (k_names_judge_few h3) <| pc (h4) <| pc (k_names_all_Domain_judge_bare h6) <| pc (h7) <| pc (k_names_all_Domain_judge_peers h9) <| pc (h10) <| pc (k_names_all_Port_judge_port h12) <| pc (h13) <| pn)
      · injection h with h; subst h; exact runFn_sound mixedOrders Tryz.func24 rfl (keep := none) (π := [.callv (.v (.bool r2)), .dec true, .callv (.v (.bool r5)), .dec true, .callv (.v (.bool r8)), .dec false]) (hrun := by kernel_rfl) (hps := pc (k_names_judge_few h3) <| pc (h4) <| pc (k_names_all_Domain_judge_bare h6) <| pc (h7) <| pc (k_names_all_Domain_judge_peers h9) <| pc (h10) <| pn)
    · injection h with h; subst h; exact runFn_sound mixedOrders Tryz.func24 rfl (keep := none) (π := [.callv (.v (.bool r2)), .dec true, .callv (.v (.bool r5)), .dec false]) (hrun := by kernel_rfl) (hps := pc (k_names_judge_few h3) <| pc (h4) <| pc (k_names_all_Domain_judge_bare h6) <| pc (h7) <| pn)
  · injection h with h; subst h; exact runFn_sound mixedOrders Tryz.func24 rfl (keep := none) (π := [.callv (.v (.bool r2)), .dec false]) (hrun := by kernel_rfl) (hps := pc (k_names_judge_few h3) <| pc (h4) <| pn)

theorem k_slices_Clone_Device {a1 : List Api_Device} {r : List Api_Device} (h : slices_Clone_Device a1 = some r) :
    CallsOK Tryz.prog UU 180 [.sl 64 a1] [] (.os 0 (List.length r)) [.arr 64 r (List.length r) false] := by
  unfold slices_Clone_Device at h
  rcases ite_out h with ⟨h1, h⟩ | ⟨h1, h⟩
  · injection h with h; subst h
    refine sn_split ?_ (fun e => ?_)
    · exact runFn_sound mixedOrders Tryz.func180 rfl (keep := some [1]) (π := [.obj [] (.n 64), .obj [] (.arr 64 a1 (List.length a1) false)]) (hrun := by kernel_rfl) (hps := pc (bs_ob 64 []) <| pc (app_ob 64 (n := 0) (l := []) (xs := a1) h1) <| pn)
    · subst e; exact runFn_sound mixedOrders Tryz.func180 rfl (keep := some [1]) (π := []) (hrun := by kernel_rfl) (hps := pn)
  · cases h

theorem k_slices_Clone_Port {a1 : List Api_Port} {r : List Api_Port} (h : slices_Clone_Port a1 = some r) :
    CallsOK Tryz.prog UU 181 [.sl 71 a1] [] (.os 0 (List.length r)) [.arr 71 r (List.length r) false] := by
  unfold slices_Clone_Port at h
  rcases ite_out h with ⟨h1, h⟩ | ⟨h1, h⟩
  · injection h with h; subst h
    refine sn_split ?_ (fun e => ?_)
    · exact runFn_sound mixedOrders Tryz.func181 rfl (keep := some [1]) (π := [.obj [] (.n 71), .obj [] (.arr 71 a1 (List.length a1) false)]) (hrun := by kernel_rfl) (hps := pc (bs_ob 71 []) <| pc (app_ob 71 (n := 0) (l := []) (xs := a1) h1) <| pn)
    · subst e; exact runFn_sound mixedOrders Tryz.func181 rfl (keep := some [1]) (π := []) (hrun := by kernel_rfl) (hps := pn)
  · cases h

theorem k_slices_Clone_Link {a1 : List Api_Link} {r : List Api_Link} (h : slices_Clone_Link a1 = some r) :
    CallsOK Tryz.prog UU 182 [.sl 100 a1] [] (.os 0 (List.length r)) [.arr 100 r (List.length r) false] := by
  unfold slices_Clone_Link at h
  rcases ite_out h with ⟨h1, h⟩ | ⟨h1, h⟩
  · injection h with h; subst h
    refine sn_split ?_ (fun e => ?_)
    · exact runFn_sound mixedOrders Tryz.func182 rfl (keep := some [1]) (π := [.obj [] (.n 100), .obj [] (.arr 100 a1 (List.length a1) false)]) (hrun := by kernel_rfl) (hps := pc (bs_ob 100 []) <| pc (app_ob 100 (n := 0) (l := []) (xs := a1) h1) <| pn)
    · subst e; exact runFn_sound mixedOrders Tryz.func182 rfl (keep := some [1]) (π := []) (hrun := by kernel_rfl) (hps := pn)
  · cases h

theorem k_slices_Clone_Domain {a1 : List Api_Domain} {r : List Api_Domain} (h : slices_Clone_Domain a1 = some r) :
    CallsOK Tryz.prog UU 183 [.sl 57 a1] [] (.os 0 (List.length r)) [.arr 57 r (List.length r) false] := by
  unfold slices_Clone_Domain at h
  rcases ite_out h with ⟨h1, h⟩ | ⟨h1, h⟩
  · injection h with h; subst h
    refine sn_split ?_ (fun e => ?_)
    · exact runFn_sound mixedOrders Tryz.func183 rfl (keep := some [1]) (π := [.obj [] (.n 57), .obj [] (.arr 57 a1 (List.length a1) false)]) (hrun := by kernel_rfl) (hps := pc (bs_ob 57 []) <| pc (app_ob 57 (n := 0) (l := []) (xs := a1) h1) <| pn)
    · subst e; exact runFn_sound mixedOrders Tryz.func183 rfl (keep := some [1]) (π := []) (hrun := by kernel_rfl) (hps := pn)
  · cases h

theorem k_slices_Clone_Static {a1 : List Api_Static} {r : List Api_Static} (h : slices_Clone_Static a1 = some r) :
    CallsOK Tryz.prog UU 184 [.sl 104 a1] [] (.os 0 (List.length r)) [.arr 104 r (List.length r) false] := by
  unfold slices_Clone_Static at h
  rcases ite_out h with ⟨h1, h⟩ | ⟨h1, h⟩
  · injection h with h; subst h
    refine sn_split ?_ (fun e => ?_)
    · exact runFn_sound mixedOrders Tryz.func184 rfl (keep := some [1]) (π := [.obj [] (.n 104), .obj [] (.arr 104 a1 (List.length a1) false)]) (hrun := by kernel_rfl) (hps := pc (bs_ob 104 []) <| pc (app_ob 104 (n := 0) (l := []) (xs := a1) h1) <| pn)
    · subst e; exact runFn_sound mixedOrders Tryz.func184 rfl (keep := some [1]) (π := []) (hrun := by kernel_rfl) (hps := pn)
  · cases h

theorem k_slices_Clone_Flood {a1 : List Api_Flood} {r : List Api_Flood} (h : slices_Clone_Flood a1 = some r) :
    CallsOK Tryz.prog UU 185 [.sl 87 a1] [] (.os 0 (List.length r)) [.arr 87 r (List.length r) false] := by
  unfold slices_Clone_Flood at h
  rcases ite_out h with ⟨h1, h⟩ | ⟨h1, h⟩
  · injection h with h; subst h
    refine sn_split ?_ (fun e => ?_)
    · exact runFn_sound mixedOrders Tryz.func185 rfl (keep := some [1]) (π := [.obj [] (.n 87), .obj [] (.arr 87 a1 (List.length a1) false)]) (hrun := by kernel_rfl) (hps := pc (bs_ob 87 []) <| pc (app_ob 87 (n := 0) (l := []) (xs := a1) h1) <| pn)
    · subst e; exact runFn_sound mixedOrders Tryz.func185 rfl (keep := some [1]) (π := []) (hrun := by kernel_rfl) (hps := pn)
  · cases h

theorem k_slices_Clone_Vrf {a1 : List Api_Vrf} {r : List Api_Vrf} (h : slices_Clone_Vrf a1 = some r) :
    CallsOK Tryz.prog UU 186 [.sl 90 a1] [] (.os 0 (List.length r)) [.arr 90 r (List.length r) false] := by
  unfold slices_Clone_Vrf at h
  rcases ite_out h with ⟨h1, h⟩ | ⟨h1, h⟩
  · injection h with h; subst h
    refine sn_split ?_ (fun e => ?_)
    · exact runFn_sound mixedOrders Tryz.func186 rfl (keep := some [1]) (π := [.obj [] (.n 90), .obj [] (.arr 90 a1 (List.length a1) false)]) (hrun := by kernel_rfl) (hps := pc (bs_ob 90 []) <| pc (app_ob 90 (n := 0) (l := []) (xs := a1) h1) <| pn)
    · subst e; exact runFn_sound mixedOrders Tryz.func186 rfl (keep := some [1]) (π := []) (hrun := by kernel_rfl) (hps := pn)
  · cases h

theorem k_slices_Clone_Irb {a1 : List Api_Irb} {r : List Api_Irb} (h : slices_Clone_Irb a1 = some r) :
    CallsOK Tryz.prog UU 187 [.sl 116 a1] [] (.os 0 (List.length r)) [.arr 116 r (List.length r) false] := by
  unfold slices_Clone_Irb at h
  rcases ite_out h with ⟨h1, h⟩ | ⟨h1, h⟩
  · injection h with h; subst h
    refine sn_split ?_ (fun e => ?_)
    · exact runFn_sound mixedOrders Tryz.func187 rfl (keep := some [1]) (π := [.obj [] (.n 116), .obj [] (.arr 116 a1 (List.length a1) false)]) (hrun := by kernel_rfl) (hps := pc (bs_ob 116 []) <| pc (app_ob 116 (n := 0) (l := []) (xs := a1) h1) <| pn)
    · subst e; exact runFn_sound mixedOrders Tryz.func187 rfl (keep := some [1]) (π := []) (hrun := by kernel_rfl) (hps := pn)
  · cases h

theorem k_slices_Clone_int {a1 : List Int} {r : List Int} (h : slices_Clone_int a1 = some r) :
    CallsOK Tryz.prog UU 70 [.sl 3 a1] [] (.os 0 (List.length r)) [.arr 3 r (List.length r) false] := by
  unfold slices_Clone_int at h
  rcases ite_out h with ⟨h1, h⟩ | ⟨h1, h⟩
  · injection h with h; subst h
    refine sn_split ?_ (fun e => ?_)
    · exact runFn_sound mixedOrders Tryz.func70 rfl (keep := some [1]) (π := [.obj [] (.n 3), .obj [] (.arr 3 a1 (List.length a1) false)]) (hrun := by kernel_rfl) (hps := pc (bs_ob 3 []) <| pc (app_ob 3 (n := 0) (l := []) (xs := a1) h1) <| pn)
    · subst e; exact runFn_sound mixedOrders Tryz.func70 rfl (keep := some [1]) (π := []) (hrun := by kernel_rfl) (hps := pn)
  · cases h

theorem k_slices_Clone_uint32 {a1 : List Int} {r : List Int} (h : slices_Clone_uint32 a1 = some r) :
    CallsOK Tryz.prog UU 149 [.sl 33 a1] [] (.os 0 (List.length r)) [.arr 33 r (List.length r) false] := by
  unfold slices_Clone_uint32 at h
  rcases ite_out h with ⟨h1, h⟩ | ⟨h1, h⟩
  · injection h with h; subst h
    refine sn_split ?_ (fun e => ?_)
    · exact runFn_sound mixedOrders Tryz.func149 rfl (keep := some [1]) (π := [.obj [] (.n 33), .obj [] (.arr 33 a1 (List.length a1) false)]) (hrun := by kernel_rfl) (hps := pc (bs_ob 33 []) <| pc (app_ob 33 (n := 0) (l := []) (xs := a1) h1) <| pn)
    · subst e; exact runFn_sound mixedOrders Tryz.func149 rfl (keep := some [1]) (π := []) (hrun := by kernel_rfl) (hps := pn)
  · cases h

end Go.Eng
