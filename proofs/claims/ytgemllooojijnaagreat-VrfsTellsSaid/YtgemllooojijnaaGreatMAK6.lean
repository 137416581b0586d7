/- Part of the proof of VrfsTells: printed mirrors of the functions, or their contracts. No conditions. -/
import Derived.Test.YtgemllooojijnaaGreatMAK5
set_option linter.unusedVariables false
set_option maxRecDepth 100000
namespace Go.Eng
open Go Go.Proofs
theorem k_palinglaw20_VrfsTells {a1 : Api_Net} {a2 : Int} {a3 : Int} {a4 : Int} {r : Bool} (h : palinglaw20_VrfsTells a1 a2 a3 a4 = some r) :
    CallsOK Tryz.prog UU 7 [.agg (c31 a1), .v (.int .i64 a2), .v (.int .i64 a3), .v (.int .u64 a4)] [] (.v (.bool r)) [] := by
  unfold palinglaw20_VrfsTells at h
  obtain ⟨r5, h6, h⟩ := bind_out h
  rcases ite_out h with ⟨h7, h⟩ | ⟨h7, h⟩
  · obtain ⟨r8, h9, h⟩ := bind_out h
    injection h with h; subst h; exact runFn_sound mixedOrders Tryz.func7 rfl (keep := none) (π := [.callv (.v (.bool r5)), .dec true, .callv (.v (.bool r8))]) (hrun := by kernel_rfl) (hps := pc (k_palinglaw15_Great h6) <| pc (h7) <| pc (k_palinglaw20_works h9) <| pn)
  · obtain ⟨r10, h11, h⟩ := bind_out h
    obtain ⟨r12, h13, h⟩ := bind_out h
    obtain ⟨r14, h15, h⟩ := bind_out h
    rcases ite_out h with ⟨h16, h⟩ | ⟨h16, h⟩
    · rcases ite_out h with ⟨h17, h⟩ | ⟨h17, h⟩
      · rcases ite_out h with ⟨h18, h⟩ | ⟨h18, h⟩
        · rcases ite_out h with ⟨h19, h⟩ | ⟨h19, h⟩
          · obtain ⟨r20, h21, h⟩ := bind_out h
            injection h with h; subst h; exact runFn_sound mixedOrders Tryz.func7 rfl (keep := none) (π := [.callv (.v (.bool r5)), .dec false, .callv (.v (.bool r10)), .callv (.tup [.v (.int .i64 r12.1), .v (.bool r12.2)]), .callv (.v (.bool r14)), .dec true, .dec true, .dec true, .dec true, .callv (.v (.bool r20))]) (hrun := by kernel_rfl) (hps := pc (k_palinglaw15_Great h6) <| pc (h7) <| pc (k_vrfs_Leaks h11) <| pc (k_vrfs_Router h13) <| pc (k_palingref15_Right h15) <| pc (h16) <| pc (h17) <| pc (h18) <| pc (h19) <| pc (k_palinglaw20_works h21) <| pn)
          · injection h with h; subst h; exact runFn_sound mixedOrders Tryz.func7 rfl (keep := none) (π := [.callv (.v (.bool r5)), .dec false, .callv (.v (.bool r10)), .callv (.tup [.v (.int .i64 r12.1), .v (.bool r12.2)]), .callv (.v (.bool r14)), .dec true, .dec true, .dec true, .dec false]) (hrun := by kernel_rfl) (hps := pc (k_palinglaw15_Great h6) <| pc (h7) <| pc (k_vrfs_Leaks h11) <| pc (k_vrfs_Router h13) <| pc (k_palingref15_Right h15) <| pc (h16) <| pc (h17) <| pc (h18) <| pc (h19) <| pn)
        · injection h with h; subst h; exact runFn_sound mixedOrders Tryz.func7 rfl (keep := none) (π := [.callv (.v (.bool r5)), .dec false, .callv (.v (.bool r10)), .callv (.tup [.v (.int .i64 r12.1), .v (.bool r12.2)]), .callv (.v (.bool r14)), .dec true, .dec true, .dec false]) (hrun := by kernel_rfl) (hps := pc (k_palinglaw15_Great h6) <| pc (h7) <| pc (k_vrfs_Leaks h11) <| pc (k_vrfs_Router h13) <| pc (k_palingref15_Right h15) <| pc (h16) <| pc (h17) <| pc (h18) <| pn)
      · injection h with h; subst h; exact runFn_sound mixedOrders Tryz.func7 rfl (keep := none) (π := [.callv (.v (.bool r5)), .dec false, .callv (.v (.bool r10)), .callv (.tup [.v (.int .i64 r12.1), .v (.bool r12.2)]), .callv (.v (.bool r14)), .dec true, .dec false]) (hrun := by kernel_rfl) (hps := pc (k_palinglaw15_Great h6) <| pc (h7) <| pc (k_vrfs_Leaks h11) <| pc (k_vrfs_Router h13) <| pc (k_palingref15_Right h15) <| pc (h16) <| pc (h17) <| pn)
    · obtain ⟨r22, h23, h⟩ := bind_out h
      obtain ⟨r24, h25, h⟩ := bind_out h
      rcases ite_out h with ⟨h26, h⟩ | ⟨h26, h⟩
      · rcases ite_out h with ⟨h27, h⟩ | ⟨h27, h⟩
        · rcases ite_out h with ⟨h28, h⟩ | ⟨h28, h⟩
          · obtain ⟨r29, h30, h⟩ := bind_out h
            injection h with h; subst h; exact runFn_sound mixedOrders Tryz.func7 rfl (keep := none) (π := [.callv (.v (.bool r5)), .dec false, .callv (.v (.bool r10)), .callv (.tup [.v (.int .i64 r12.1), .v (.bool r12.2)]), .callv (.v (.bool r14)), .dec false, .callv (.tup [.v (.int .i64 r22.1), .v (.bool r22.2)]), .callv (.v (.bool r24)), .dec true, .dec true, .dec true, .callv (.v (.bool r29))]) (hrun := by kernel_rfl) (hps := pc (k_palinglaw15_Great h6) <| pc (h7) <| pc (k_vrfs_Leaks h11) <| pc (k_vrfs_Router h13) <| pc (k_palingref15_Right h15) <| pc (h16) <| pc (k_palingref20_Router h23) <| pc (k_palingref20_Leaks h25) <| pc (h26) <| pc (h27) <| pc (h28) <| pc (k_palinglaw20_works h30) <| pn)
          · injection h with h; subst h; exact runFn_sound mixedOrders Tryz.func7 rfl (keep := none) (π := [.callv (.v (.bool r5)), .dec false, .callv (.v (.bool r10)), .callv (.tup [.v (.int .i64 r12.1), .v (.bool r12.2)]), .callv (.v (.bool r14)), .dec false, .callv (.tup [.v (.int .i64 r22.1), .v (.bool r22.2)]), .callv (.v (.bool r24)), .dec true, .dec true, .dec false]) (hrun := by kernel_rfl) (hps := pc (k_palinglaw15_Great h6) <| pc (h7) <| pc (k_vrfs_Leaks h11) <| pc (k_vrfs_Router h13) <| pc (k_palingref15_Right h15) <| pc (h16) <| pc (k_palingref20_Router h23) <| pc (k_palingref20_Leaks h25) <| pc (h26) <| pc (h27) <| pc (h28) <| pn)
        · injection h with h; subst h; exact runFn_sound mixedOrders Tryz.func7 rfl (keep := none) (π := [.callv (.v (.bool r5)), .dec false, .callv (.v (.bool r10)), .callv (.tup [.v (.int .i64 r12.1), .v (.bool r12.2)]), .callv (.v (.bool r14)), .dec false, .callv (.tup [.v (.int .i64 r22.1), .v (.bool r22.2)]), .callv (.v (.bool r24)), .dec true, .dec false]) (hrun := by kernel_rfl) (hps := pc (k_palinglaw15_Great h6) <| pc (h7) <| pc (k_vrfs_Leaks h11) <| pc (k_vrfs_Router h13) <| pc (k_palingref15_Right h15) <| pc (h16) <| pc (k_palingref20_Router h23) <| pc (k_palingref20_Leaks h25) <| pc (h26) <| pc (h27) <| pn)
      · injection h with h; subst h; exact runFn_sound mixedOrders Tryz.func7 rfl (keep := none) (π := [.callv (.v (.bool r5)), .dec false, .callv (.v (.bool r10)), .callv (.tup [.v (.int .i64 r12.1), .v (.bool r12.2)]), .callv (.v (.bool r14)), .dec false, .callv (.tup [.v (.int .i64 r22.1), .v (.bool r22.2)]), .callv (.v (.bool r24)), .dec false]) (hrun := by kernel_rfl) (hps := pc (k_palinglaw15_Great h6) <| pc (h7) <| pc (k_vrfs_Leaks h11) <| pc (k_vrfs_Router h13) <| pc (k_palingref15_Right h15) <| pc (h16) <| pc (k_palingref20_Router h23) <| pc (k_palingref20_Leaks h25) <| pc (h26) <| pn)

end Go.Eng
