/- Part of the proof of OwnersAssigns: printed mirrors of the functions, or their contracts. No conditions. -/
import Derived.Test.YtakginbgngjhkaaMAK3
set_option linter.unusedVariables false
set_option maxRecDepth 100000
namespace Go.Eng
open Go Go.Proofs
theorem k_palingref03_Ints_L1 {a1 : List Int} {a2 : List Int} : LoopOK Try.prog UU 0 26 (subC (codeOf Try.f23) [1, 1, 0, 1, 0, 0]) (ρ := Unit ⊕ Unit) (palingref03_Ints_L1 a1 a2)
    (fun v4 : Int => ([(0, .sl 3 a1), (1, .sl 3 a2), (4, .v (.bool false)), (5, .v (.int .i64 v4))] : Fr DD)) (fun v4 : Int => ([] : Heap DD)) (fun r => match r with | Sum.inl _ => .ret | Sum.inr _ => .exit 0) (fun r => match r with | Sum.inl _ => [(4, .v (.bool false))] | Sum.inr _ => [(4, .v (.bool false))]) (fun r => match r with | Sum.inl _ => [] | Sum.inr _ => []) := by
  refine loop_sound3 (fun s q h => ?_) (fun r => ?_)
  · replace h : palingref03_Ints_L1 a1 a2 s = some q := h; revert h; revert s; intro v4 h
    unfold palingref03_Ints_L1 at h
    rcases ite_out h with ⟨h5, h⟩ | ⟨h5, h⟩
    · obtain ⟨x6, h7, h⟩ := bind_out h
      obtain ⟨x8, h9, h⟩ := bind_out h
      rcases ite_out h with ⟨h10, h⟩ | ⟨h10, h⟩
      · injection h with h; subst h; exact runLp_sound mixedOrders (live := [4]) (ids := []) (π := [.dec true, .row (c3 x6), .row (c3 x8), .dec true]) (hx := by kernel_rfl) (hps := pc (h5) <| pc (ob3 h7) <| pc (ob3 h9) <| pc (h10) <| pn)
      · injection h with h; subst h; exact runLp_sound mixedOrders (live := [0, 1, 4, 5]) (ids := []) (π := [.dec true, .row (c3 x6), .row (c3 x8), .dec false]) (hx := by kernel_rfl) (hps := pc (h5) <| pc (ob3 h7) <| pc (ob3 h9) <| pc (h10) <| pn)
    · injection h with h; subst h; exact runLp_sound mixedOrders (live := [4]) (ids := []) (π := [.dec false]) (hx := by kernel_rfl) (hps := pc (h5) <| pn)
  · rcases r with _ | _ <;> exact Ex.noConfusion

theorem k_palingref03_Ints {a1 : List Int} {a2 : List Int} {r : Bool} (h : palingref03_Ints a1 a2 = some r) :
    CallsOK Try.prog UU 23 [.sl 3 a1, .sl 3 a2] [] (.v (.bool r)) [] := by
  unfold palingref03_Ints at h
  rcases ite_out h with ⟨h3, h⟩ | ⟨h3, h⟩
  · injection h with h; subst h; exact runFn_sound mixedOrders Try.func23 rfl (keep := none) (π := [.dec true]) (hrun := by kernel_rfl) (hps := pc (h3) <| pn)
  · obtain ⟨r12, h11, h⟩ := bind_out h
    rcases r12 with _ | _
    · injection h with h; subst h; exact runFn_sound mixedOrders Try.func23 rfl (keep := none) (π := [.dec false, .sum [0, 1, 4, 5] [] .ret [(4, .v (.bool false))] []]) (hrun := by kernel_rfl) (hps := pc (h3) <| pc (k_palingref03_Ints_L1 _ _ h11) <| pn)
    · injection h with h; subst h; exact runFn_sound mixedOrders Try.func23 rfl (keep := none) (π := [.dec false, .sum [0, 1, 4, 5] [] (.exit 0) [(4, .v (.bool false))] []]) (hrun := by kernel_rfl) (hps := pc (h3) <| pc (k_palingref03_Ints_L1 _ _ h11) <| pn)

theorem k_palinglaw23_OwnersAssigns {a1 : Api_Net} {a2 : List Api_Tenant} {r : Bool} (h : palinglaw23_OwnersAssigns a1 a2 = some r) :
    CallsOK Try.prog UU 7 [.agg (c31 a1), .sl 56 a2] [] (.v (.bool r)) [] := by
  unfold palinglaw23_OwnersAssigns at h
  obtain ⟨r3, h4, h⟩ := bind_out h
  rcases ite_out h with ⟨h5, h⟩ | ⟨h5, h⟩
  · obtain ⟨r6, h7, h⟩ := bind_out h
    injection h with h; subst h; exact runFn_sound mixedOrders Try.func7 rfl (keep := none) (π := [.callv (.v (.bool r3)), .dec true, .callv (.v (.bool r6))]) (hrun := by kernel_rfl) (hps := pc (k_palinglaw15_Great h4) <| pc (h5) <| pc (k_palinglaw23_works h7) <| pn)
  · obtain ⟨r8, h9, h⟩ := bind_out h
    rcases ite_out h with ⟨h10, h⟩ | ⟨h10, h⟩
    · obtain ⟨r11, h12, h⟩ := bind_out h
      injection h with h; subst h; exact runFn_sound mixedOrders Try.func7 rfl (keep := none) (π := [.callv (.v (.bool r3)), .dec false, .callv (.v (.bool r8)), .dec true, .callv (.v (.bool r11))]) (hrun := by kernel_rfl) (hps := pc (k_palinglaw15_Great h4) <| pc (h5) <| pc (k_palinglaw14_Great h9) <| pc (h10) <| pc (k_palinglaw23_works h12) <| pn)
    · obtain ⟨r13, h14, h⟩ := bind_out h
      obtain ⟨r15, r16, r17, r18⟩ := r13
      obtain ⟨r19, h20, h⟩ := bind_out h
      obtain ⟨r21, r22, r23, r24⟩ := r19
      obtain ⟨r25, h26, h⟩ := bind_out h
      rcases ite_out h with ⟨h27, h⟩ | ⟨h27, h⟩
      · rcases ite_out h with ⟨h28, h⟩ | ⟨h28, h⟩
        · rcases ite_out h with ⟨h29, h⟩ | ⟨h29, h⟩
          · rcases ite_out h with ⟨h30, h⟩ | ⟨h30, h⟩
            · obtain ⟨r31, h32, h⟩ := bind_out h
              injection h with h; subst h; exact runFn_sound mixedOrders Try.func7 rfl (keep := none) (π := [.callv (.v (.bool r3)), .dec false, .callv (.v (.bool r8)), .dec false, .callm [] (.tup [.sl 3 r15, .v (.int .i64 r16), .v (.int .i64 r17), .v (.int .i64 r18)]) [], .callm [] (.tup [.sl 3 r21, .v (.int .i64 r22), .v (.int .i64 r23), .v (.int .i64 r24)]) [], .callv (.v (.bool r25)), .dec true, .dec true, .dec true, .dec true, .callv (.v (.bool r31))]) (hrun := by kernel_rfl) (hps := pc (k_palinglaw15_Great h4) <| pc (h5) <| pc (k_palinglaw14_Great h9) <| pc (h10) <| pc (k_owners_Assign h14) <| pc (k_palingref23_Assign h20) <| pc (k_palingref03_Ints h26) <| pc (h27) <| pc (h28) <| pc (h29) <| pc (h30) <| pc (k_palinglaw23_works h32) <| pn)
            · injection h with h; subst h; exact runFn_sound mixedOrders Try.func7 rfl (keep := none) (π := [.callv (.v (.bool r3)), .dec false, .callv (.v (.bool r8)), .dec false, .callm [] (.tup [.sl 3 r15, .v (.int .i64 r16), .v (.int .i64 r17), .v (.int .i64 r18)]) [], .callm [] (.tup [.sl 3 r21, .v (.int .i64 r22), .v (.int .i64 r23), .v (.int .i64 r24)]) [], .callv (.v (.bool r25)), .dec true, .dec true, .dec true, .dec false]) (hrun := by kernel_rfl) (hps := pc (k_palinglaw15_Great h4) <| pc (h5) <| pc (k_palinglaw14_Great h9) <| pc (h10) <| pc (k_owners_Assign h14) <| pc (k_palingref23_Assign h20) <| pc (k_palingref03_Ints h26) <| pc (h27) <| pc (h28) <| pc (h29) <| pc (h30) <| pn)
          · injection h with h; subst h; exact runFn_sound mixedOrders Try.func7 rfl (keep := none) (π := [.callv (.v (.bool r3)), .dec false, .callv (.v (.bool r8)), .dec false, .callm [] (.tup [.sl 3 r15, .v (.int .i64 r16), .v (.int .i64 r17), .v (.int .i64 r18)]) [], .callm [] (.tup [.sl 3 r21, .v (.int .i64 r22), .v (.int .i64 r23), .v (.int .i64 r24)]) [], .callv (.v (.bool r25)), .dec true, .dec true, .dec false]) (hrun := by kernel_rfl) (hps := pc (k_palinglaw15_Great h4) <| pc (h5) <| pc (k_palinglaw14_Great h9) <| pc (h10) <| pc (k_owners_Assign h14) <| pc (k_palingref23_Assign h20) <| pc (k_palingref03_Ints h26) <| pc (h27) <| pc (h28) <| pc (h29) <| pn)
        · injection h with h; subst h; exact runFn_sound mixedOrders Try.func7 rfl (keep := none) (π := [.callv (.v (.bool r3)), .dec false, .callv (.v (.bool r8)), .dec false, .callm [] (.tup [.sl 3 r15, .v (.int .i64 r16), .v (.int .i64 r17), .v (.int .i64 r18)]) [], .callm [] (.tup [.sl 3 r21, .v (.int .i64 r22), .v (.int .i64 r23), .v (.int .i64 r24)]) [], .callv (.v (.bool r25)), .dec true, .dec false]) (hrun := by kernel_rfl) (hps := pc (k_palinglaw15_Great h4) <| pc (h5) <| pc (k_palinglaw14_Great h9) <| pc (h10) <| pc (k_owners_Assign h14) <| pc (k_palingref23_Assign h20) <| pc (k_palingref03_Ints h26) <| pc (h27) <| pc (h28) <| pn)
      · injection h with h; subst h; exact runFn_sound mixedOrders Try.func7 rfl (keep := none) (π := [.callv (.v (.bool r3)), .dec false, .callv (.v (.bool r8)), .dec false, .callm [] (.tup [.sl 3 r15, .v (.int .i64 r16), .v (.int .i64 r17), .v (.int .i64 r18)]) [], .callm [] (.tup [.sl 3 r21, .v (.int .i64 r22), .v (.int .i64 r23), .v (.int .i64 r24)]) [], .callv (.v (.bool r25)), .dec false]) (hrun := by kernel_rfl) (hps := pc (k_palinglaw15_Great h4) <| pc (h5) <| pc (k_palinglaw14_Great h9) <| pc (h10) <| pc (k_owners_Assign h14) <| pc (k_palingref23_Assign h20) <| pc (k_palingref03_Ints h26) <| pc (h27) <| pn)

end Go.Eng
