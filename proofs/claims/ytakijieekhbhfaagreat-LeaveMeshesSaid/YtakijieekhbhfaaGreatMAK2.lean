/- Part of the proof of LeaveMeshes: printed mirrors of the functions, or their contracts. No conditions. -/
import Derived.Test.YtakijieekhbhfaaGreatMAK1
set_option linter.unusedVariables false
set_option maxRecDepth 100000
namespace Go.Eng
open Go Go.Proofs
theorem k_leave_At_J1 {a1 : Api_Net} {a4 : Api_Frame} {x14 : Api_Port} {x16 : Api_Domain} {r : Bool} (h : leave_At_J1 a1 a4 x14 x16 = some r) :
    ExecOK Tryz.prog UU 0 78 (subC (codeOf Tryz.f38) [1, 1, 1, 1, 1, 0, 0, 0]) [(7, .op 0 1 0 0), (8, .os 1 0), (9, .z), (10, .op 2 1 0 0), (11, .op 3 1 0 0), (12, .op 4 1 0 0), (13, .fn (.func 95) [.agg [.sl 89 a1.devices, .sl 59 a1.ports, .sl 116 a1.links, .sl 61 a1.domains, .sl 120 a1.statics, .sl 64 a1.floods, .sl 66 a1.vrfs, .sl 76 a1.irbs]] [])] [.box 36 (c36 a4) false, .n 5, .box 59 (c59 x14) false, .box 61 (c61 x16) false, .box 92 [.sl 89 a1.devices, .sl 59 a1.ports, .sl 116 a1.links, .sl 61 a1.domains, .sl 120 a1.statics, .sl 64 a1.floods, .sl 66 a1.vrfs, .sl 76 a1.irbs] false] ((fun r => match r with | v22 => .nor) r) ((fun r => match r with | v22 => [(7, .op 0 1 0 0), (8, .os 1 0), (9, .z), (10, .op 2 1 0 0), (11, .op 3 1 0 0), (12, .op 4 1 0 0), (13, .fn (.func 95) [.agg [.sl 89 a1.devices, .sl 59 a1.ports, .sl 116 a1.links, .sl 61 a1.domains, .sl 120 a1.statics, .sl 64 a1.floods, .sl 66 a1.vrfs, .sl 76 a1.irbs]] []), (47, .v (.bool v22))]) r) ((fun r => match r with | v22 => [.box 36 (c36 a4) false, .n 5, .box 59 (c59 x14) false, .box 61 (c61 x16) false, .box 92 [.sl 89 a1.devices, .sl 59 a1.ports, .sl 116 a1.links, .sl 61 a1.domains, .sl 120 a1.statics, .sl 64 a1.floods, .sl 66 a1.vrfs, .sl 76 a1.irbs] false]) r) := by
  unfold leave_At_J1 at h
  rcases ite_out h with ⟨h18, h⟩ | ⟨h18, h⟩
  · injection h with h; subst h; exact runLp_sound mixedOrders (live := [7, 8, 9, 10, 11, 12, 13, 47]) (ids := [0, 1, 2, 3, 4]) (π := [.dec true]) (hx := by kernel_rfl) (hps := pc (h18) <| pn)
  · obtain ⟨r19, h20, h⟩ := bind_out h
    injection h with h; subst h; exact runLp_sound mixedOrders (live := [7, 8, 9, 10, 11, 12, 13, 47]) (ids := [0, 1, 2, 3, 4]) (π := [.dec false, .callv (.v (.bool r19))]) (hx := by kernel_rfl) (hps := pc (h18) <| pc (k_names_Member h20) <| pn)

theorem k_leave_At {a1 : Api_Net} {a2 : Int} {a3 : Int} {a4 : Api_Frame} {r : ((List Int) × Int)} (h : leave_At a1 a2 a3 a4 = some r) :
    CallsOK Tryz.prog UU 38 [.agg (c31 a1), .v (.int .i64 a2), .v (.int .i64 a3), .agg (c36 a4)] [] ((fun r => match r with | (l38, v39) => .tup [.os 0 (List.length l38), .v (.int .i64 v39)]) r) ((fun r => match r with | (l38, v39) => [.arr 5 l38 (List.length l38) false]) r) := by
  unfold leave_At at h
  obtain ⟨r5, h6, h⟩ := bind_out h
  rcases ite_out h with ⟨h7, h⟩ | ⟨h7, h⟩
  · injection h with h; subst h; exact runFn_sound mixedOrders Tryz.func38 rfl (keep := some [3]) (π := [.callv (.v (.bool r5)), .dec true]) (hrun := by kernel_rfl) (hps := pc (k_leave_place h6) <| pc (h7) <| pn)
  · obtain ⟨r8, h9, h⟩ := bind_out h
    rcases ite_out h with ⟨h10, h⟩ | ⟨h10, h⟩
    · injection h with h; subst h; exact runFn_sound mixedOrders Tryz.func38 rfl (keep := some [3]) (π := [.callv (.v (.bool r5)), .dec false, .callv (.v (.bool r8)), .dec true]) (hrun := by kernel_rfl) (hps := pc (k_leave_place h6) <| pc (h7) <| pc (k_leave_place h9) <| pc (h10) <| pn)
    · obtain ⟨r11, h12, h⟩ := bind_out h
      rcases ite_out h with ⟨h13, h⟩ | ⟨h13, h⟩
      · injection h with h; subst h; exact runFn_sound mixedOrders Tryz.func38 rfl (keep := some [3]) (π := [.callv (.v (.bool r5)), .dec false, .callv (.v (.bool r8)), .dec false, .callv (.v (.bool r11)), .dec true]) (hrun := by kernel_rfl) (hps := pc (k_leave_place h6) <| pc (h7) <| pc (k_leave_place h9) <| pc (h10) <| pc (k_names_Right h12) <| pc (h13) <| pn)
      · obtain ⟨x14, h15, h⟩ := bind_out h
        obtain ⟨x16, h17, h⟩ := bind_out h
        obtain ⟨v22, h23, h⟩ := bind_out h
        rcases ite_out h with ⟨h25, h⟩ | ⟨h25, h⟩
        · injection h with h; subst h; exact runFn_sound mixedOrders Tryz.func38 rfl (keep := some [5]) (π := [.callv (.v (.bool r5)), .dec false, .callv (.v (.bool r8)), .dec false, .callv (.v (.bool r11)), .dec false, .row (c59 x14), .row (c61 x16), .skp, .skp, .skp, .cut [7, 8, 9, 10, 11, 12, 13] [1, 2, 3, 5, 14] .nor [(7, .op 0 1 0 0), (8, .os 1 0), (9, .z), (10, .op 2 1 0 0), (11, .op 3 1 0 0), (12, .op 4 1 0 0), (13, .fn (.func 95) [.agg [.sl 89 a1.devices, .sl 59 a1.ports, .sl 116 a1.links, .sl 61 a1.domains, .sl 120 a1.statics, .sl 64 a1.floods, .sl 66 a1.vrfs, .sl 76 a1.irbs]] []), (47, .v (.bool v22))] [.box 36 (c36 a4) false, .n 5, .box 59 (c59 x14) false, .box 61 (c61 x16) false, .box 92 [.sl 89 a1.devices, .sl 59 a1.ports, .sl 116 a1.links, .sl 61 a1.domains, .sl 120 a1.statics, .sl 64 a1.floods, .sl 66 a1.vrfs, .sl 76 a1.irbs] false], .dec true]) (hrun := by kernel_rfl) (hps := pc (k_leave_place h6) <| pc (h7) <| pc (k_leave_place h9) <| pc (h10) <| pc (k_names_Right h12) <| pc (h13) <| pc (ob59 h15) <| pc (ob61 h17) <| pc (k_leave_At_J1 h23) <| pc (h25) <| pn)
        · obtain ⟨r26, h27, h⟩ := bind_out h
          rcases ite_out h with ⟨h28, h⟩ | ⟨h28, h⟩
          · injection h with h; subst h; exact runFn_sound mixedOrders Tryz.func38 rfl (keep := some [5]) (π := [.callv (.v (.bool r5)), .dec false, .callv (.v (.bool r8)), .dec false, .callv (.v (.bool r11)), .dec false, .row (c59 x14), .row (c61 x16), .skp, .skp, .skp, .cut [7, 8, 9, 10, 11, 12, 13] [1, 2, 3, 5, 14] .nor [(7, .op 0 1 0 0), (8, .os 1 0), (9, .z), (10, .op 2 1 0 0), (11, .op 3 1 0 0), (12, .op 4 1 0 0), (13, .fn (.func 95) [.agg [.sl 89 a1.devices, .sl 59 a1.ports, .sl 116 a1.links, .sl 61 a1.domains, .sl 120 a1.statics, .sl 64 a1.floods, .sl 66 a1.vrfs, .sl 76 a1.irbs]] []), (47, .v (.bool v22))] [.box 36 (c36 a4) false, .n 5, .box 59 (c59 x14) false, .box 61 (c61 x16) false, .box 92 [.sl 89 a1.devices, .sl 59 a1.ports, .sl 116 a1.links, .sl 61 a1.domains, .sl 120 a1.statics, .sl 64 a1.floods, .sl 66 a1.vrfs, .sl 76 a1.irbs] false], .dec false, .callv (.v (.bool r26)), .dec true]) (hrun := by kernel_rfl) (hps := pc (k_leave_place h6) <| pc (h7) <| pc (k_leave_place h9) <| pc (h10) <| pc (k_names_Right h12) <| pc (h13) <| pc (ob59 h15) <| pc (ob61 h17) <| pc (k_leave_At_J1 h23) <| pc (h25) <| pc (k_tag_Is h27) <| pc (h28) <| pn)
          · rcases ite_out h with ⟨h29, h⟩ | ⟨h29, h⟩
            · obtain ⟨r30, h31, h⟩ := bind_out h
              obtain ⟨l32, v33⟩ := r30
              injection h with h; subst h; exact runFn_sound mixedOrders Tryz.func38 rfl (keep := some [5]) (π := [.callv (.v (.bool r5)), .dec false, .callv (.v (.bool r8)), .dec false, .callv (.v (.bool r11)), .dec false, .row (c59 x14), .row (c61 x16), .skp, .skp, .skp, .cut [7, 8, 9, 10, 11, 12, 13] [1, 2, 3, 5, 14] .nor [(7, .op 0 1 0 0), (8, .os 1 0), (9, .z), (10, .op 2 1 0 0), (11, .op 3 1 0 0), (12, .op 4 1 0 0), (13, .fn (.func 95) [.agg [.sl 89 a1.devices, .sl 59 a1.ports, .sl 116 a1.links, .sl 61 a1.domains, .sl 120 a1.statics, .sl 64 a1.floods, .sl 66 a1.vrfs, .sl 76 a1.irbs]] []), (47, .v (.bool v22))] [.box 36 (c36 a4) false, .n 5, .box 59 (c59 x14) false, .box 61 (c61 x16) false, .box 92 [.sl 89 a1.devices, .sl 59 a1.ports, .sl 116 a1.links, .sl 61 a1.domains, .sl 120 a1.statics, .sl 64 a1.floods, .sl 66 a1.vrfs, .sl 76 a1.irbs] false], .dec false, .callv (.v (.bool r26)), .dec false, .dec true, .callo (.tup [.os 0 (List.length l32), .v (.int .i64 v33)]) [.arr 5 l32 (List.length l32) false]]) (hrun := by kernel_rfl) (hps := pc (k_leave_place h6) <| pc (h7) <| pc (k_leave_place h9) <| pc (h10) <| pc (k_names_Right h12) <| pc (h13) <| pc (ob59 h15) <| pc (ob61 h17) <| pc (k_leave_At_J1 h23) <| pc (h25) <| pc (k_tag_Is h27) <| pc (h28) <| pc (h29) <| pc (k_leave_whole_bare h31) <| pc (im5 l32) <| pn)
            · obtain ⟨r34, h35, h⟩ := bind_out h
              obtain ⟨l36, v37⟩ := r34
              injection h with h; subst h; exact runFn_sound mixedOrders Tryz.func38 rfl (keep := some [5]) (π := [.callv (.v (.bool r5)), .dec false, .callv (.v (.bool r8)), .dec false, .callv (.v (.bool r11)), .dec false, .row (c59 x14), .row (c61 x16), .skp, .skp, .skp, .cut [7, 8, 9, 10, 11, 12, 13] [1, 2, 3, 5, 14] .nor [(7, .op 0 1 0 0), (8, .os 1 0), (9, .z), (10, .op 2 1 0 0), (11, .op 3 1 0 0), (12, .op 4 1 0 0), (13, .fn (.func 95) [.agg [.sl 89 a1.devices, .sl 59 a1.ports, .sl 116 a1.links, .sl 61 a1.domains, .sl 120 a1.statics, .sl 64 a1.floods, .sl 66 a1.vrfs, .sl 76 a1.irbs]] []), (47, .v (.bool v22))] [.box 36 (c36 a4) false, .n 5, .box 59 (c59 x14) false, .box 61 (c61 x16) false, .box 92 [.sl 89 a1.devices, .sl 59 a1.ports, .sl 116 a1.links, .sl 61 a1.domains, .sl 120 a1.statics, .sl 64 a1.floods, .sl 66 a1.vrfs, .sl 76 a1.irbs] false], .dec false, .callv (.v (.bool r26)), .dec false, .dec false, .callo (.tup [.os 0 (List.length l36), .v (.int .i64 v37)]) [.arr 5 l36 (List.length l36) false]]) (hrun := by kernel_rfl) (hps := pc (k_leave_place h6) <| pc (h7) <| pc (k_leave_place h9) <| pc (h10) <| pc (k_names_Right h12) <| pc (h13) <| pc (ob59 h15) <| pc (ob61 h17) <| pc (k_leave_At_J1 h23) <| pc (h25) <| pc (k_tag_Is h27) <| pc (h28) <| pc (h29) <| pc (k_leave_whole_tagged h35) <| pc (im5 l36) <| pn)

theorem k_palinglaw28_works {r : Bool} (h : palinglaw28_works = some r) :
    CallsOK Tryz.prog UU 13 [] [] (.v (.bool r)) [] := by
  unfold palinglaw28_works at h
  obtain ⟨r1, h2, h⟩ := bind_out h
  obtain ⟨l3, v4⟩ := r1
  obtain ⟨r5, h6, h⟩ := bind_out h
  obtain ⟨l7, v8⟩ := r5
  obtain ⟨r9, h10, h⟩ := bind_out h
  obtain ⟨l11, v12⟩ := r9
  rcases ite_out h with ⟨h13, h⟩ | ⟨h13, h⟩
  · rcases ite_out h with ⟨h14, h⟩ | ⟨h14, h⟩
    · rcases ite_out h with ⟨h15, h⟩ | ⟨h15, h⟩
      · rcases ite_out h with ⟨h16, h⟩ | ⟨h16, h⟩
        · rcases ite_out h with ⟨h17, h⟩ | ⟨h17, h⟩
          · obtain ⟨x18, h19, h⟩ := bind_out h
            rcases ite_out h with ⟨h20, h⟩ | ⟨h20, h⟩
            · injection h with h; subst h; exact runFn_sound mixedOrders Tryz.func13 rfl (keep := none) (π := [.obj [] (.arr 89 [(⟨0, 0, (⟨#[97]⟩ : ByteArray), 0, 0⟩ : Api_Device)] (List.length [(⟨0, 0, (⟨#[97]⟩ : ByteArray), 0, 0⟩ : Api_Device)]) false), .obj [] (.arr 3 [(20 : Int)] (List.length [(20 : Int)]) false), .obj [1] (.arr 59 [(⟨0, 0, 10, 0, (-1), (⟨#[112]⟩ : ByteArray), [(20 : Int)]⟩ : Api_Port)] (List.length [(⟨0, 0, 10, 0, (-1), (⟨#[112]⟩ : ByteArray), [(20 : Int)]⟩ : Api_Port)]) false), .obj [] (.arr 61 [(⟨0, 10, 0, (-1), 0, []⟩ : Api_Domain), (⟨0, 20, 0, (-1), 0, []⟩ : Api_Domain)] (List.length [(⟨0, 10, 0, (-1), 0, []⟩ : Api_Domain), (⟨0, 20, 0, (-1), 0, []⟩ : Api_Domain)]) false), .callo (.tup [.os 0 (List.length l3), .v (.int .i64 v4)]) [.arr 5 l3 (List.length l3) false], .callo (.tup [.os 0 (List.length l7), .v (.int .i64 v8)]) [.arr 5 l7 (List.length l7) false], .callo (.tup [.os 0 (List.length l11), .v (.int .i64 v12)]) [.arr 5 l11 (List.length l11) false], .dec true, .dec true, .dec true, .dec true, .row (c5 x18), .dec true]) (hrun := by kernel_rfl) (hps := pc (bs_ob 89 [(⟨0, 0, (⟨#[97]⟩ : ByteArray), 0, 0⟩ : Api_Device)]) <| pc (bs_ob 3 [(20 : Int)]) <| pc (bs_ob 59 [(⟨0, 0, 10, 0, (-1), (⟨#[112]⟩ : ByteArray), [(20 : Int)]⟩ : Api_Port)]) <| pc ((rfl : ((List.length [(20 : Int)]) : Nat) = (List.length [(20 : Int)]))) <| pc (bs_ob 61 [(⟨0, 10, 0, (-1), 0, []⟩ : Api_Domain), (⟨0, 20, 0, (-1), 0, []⟩ : Api_Domain)]) <| pc (k_leave_At h2) <| pc (im5 l3) <| pc ((rfl : ((List.length [(⟨0, 0, (⟨#[97]⟩ : ByteArray), 0, 0⟩ : Api_Device)]) : Nat) = (List.length [(⟨0, 0, (⟨#[97]⟩ : ByteArray), 0, 0⟩ : Api_Device)]))) <| pc ((rfl : ((List.length [(⟨0, 0, 10, 0, (-1), (⟨#[112]⟩ : ByteArray), [(20 : Int)]⟩ : Api_Port)]) : Nat) = (List.length [(⟨0, 0, 10, 0, (-1), (⟨#[112]⟩ : ByteArray), [(20 : Int)]⟩ : Api_Port)]))) <| pc ((rfl : (0 : Nat) = 0)) <| pc ((rfl : ((List.length [(⟨0, 10, 0, (-1), 0, []⟩ : Api_Domain), (⟨0, 20, 0, (-1), 0, []⟩ : Api_Domain)]) : Nat) = (List.length [(⟨0, 10, 0, (-1), 0, []⟩ : Api_Domain), (⟨0, 20, 0, (-1), 0, []⟩ : Api_Domain)]))) <| pc ((rfl : (0 : Nat) = 0)) <| pc ((rfl : (0 : Nat) = 0)) <| pc ((rfl : (0 : Nat) = 0)) <| pc ((rfl : (0 : Nat) = 0)) <| pc ((rfl : (0 : Nat) = 0)) <| pc (k_leave_At h6) <| pc (im5 l7) <| pc ((rfl : ((List.length [(⟨0, 0, (⟨#[97]⟩ : ByteArray), 0, 0⟩ : Api_Device)]) : Nat) = (List.length [(⟨0, 0, (⟨#[97]⟩ : ByteArray), 0, 0⟩ : Api_Device)]))) <| pc ((rfl : ((List.length [(⟨0, 0, 10, 0, (-1), (⟨#[112]⟩ : ByteArray), [(20 : Int)]⟩ : Api_Port)]) : Nat) = (List.length [(⟨0, 0, 10, 0, (-1), (⟨#[112]⟩ : ByteArray), [(20 : Int)]⟩ : Api_Port)]))) <| pc ((rfl : (0 : Nat) = 0)) <| pc ((rfl : ((List.length [(⟨0, 10, 0, (-1), 0, []⟩ : Api_Domain), (⟨0, 20, 0, (-1), 0, []⟩ : Api_Domain)]) : Nat) = (List.length [(⟨0, 10, 0, (-1), 0, []⟩ : Api_Domain), (⟨0, 20, 0, (-1), 0, []⟩ : Api_Domain)]))) <| pc ((rfl : (0 : Nat) = 0)) <| pc ((rfl : (0 : Nat) = 0)) <| pc ((rfl : (0 : Nat) = 0)) <| pc ((rfl : (0 : Nat) = 0)) <| pc ((rfl : (0 : Nat) = 0)) <| pc (k_leave_At h10) <| pc (im5 l11) <| pc ((rfl : ((List.length [(⟨0, 0, (⟨#[97]⟩ : ByteArray), 0, 0⟩ : Api_Device)]) : Nat) = (List.length [(⟨0, 0, (⟨#[97]⟩ : ByteArray), 0, 0⟩ : Api_Device)]))) <| pc ((rfl : ((List.length [(⟨0, 0, 10, 0, (-1), (⟨#[112]⟩ : ByteArray), [(20 : Int)]⟩ : Api_Port)]) : Nat) = (List.length [(⟨0, 0, 10, 0, (-1), (⟨#[112]⟩ : ByteArray), [(20 : Int)]⟩ : Api_Port)]))) <| pc ((rfl : (0 : Nat) = 0)) <| pc ((rfl : ((List.length [(⟨0, 10, 0, (-1), 0, []⟩ : Api_Domain), (⟨0, 20, 0, (-1), 0, []⟩ : Api_Domain)]) : Nat) = (List.length [(⟨0, 10, 0, (-1), 0, []⟩ : Api_Domain), (⟨0, 20, 0, (-1), 0, []⟩ : Api_Domain)]))) <| pc ((rfl : (0 : Nat) = 0)) <| pc ((rfl : (0 : Nat) = 0)) <| pc ((rfl : (0 : Nat) = 0)) <| pc ((rfl : (0 : Nat) = 0)) <| pc ((rfl : (0 : Nat) = 0)) <| pc (h13) <| pc ((rfl : ((List.length l3) : Nat) = (List.length l3))) <| pc (h14) <| pc (h15) <| pc ((rfl : ((List.length l7) : Nat) = (List.length l7))) <| pc (h16) <| pc (And.intro (rfl : ((List.length l7) : Nat) = (List.length l7)) (lin_ob h17)) <| pc (And.intro (rfl : ((List.length l7) : Nat) = (List.length l7)) (obn5 h19)) <| pc (h20) <| pn)
            · injection h with h; subst h; exact runFn_sound mixedOrders Tryz.func13 rfl (keep := none) (π := [.obj [] (.arr 89 [(⟨0, 0, (⟨#[97]⟩ : ByteArray), 0, 0⟩ : Api_Device)] (List.length [(⟨0, 0, (⟨#[97]⟩ : ByteArray), 0, 0⟩ : Api_Device)]) false), .obj [] (.arr 3 [(20 : Int)] (List.length [(20 : Int)]) false), .obj [1] (.arr 59 [(⟨0, 0, 10, 0, (-1), (⟨#[112]⟩ : ByteArray), [(20 : Int)]⟩ : Api_Port)] (List.length [(⟨0, 0, 10, 0, (-1), (⟨#[112]⟩ : ByteArray), [(20 : Int)]⟩ : Api_Port)]) false), .obj [] (.arr 61 [(⟨0, 10, 0, (-1), 0, []⟩ : Api_Domain), (⟨0, 20, 0, (-1), 0, []⟩ : Api_Domain)] (List.length [(⟨0, 10, 0, (-1), 0, []⟩ : Api_Domain), (⟨0, 20, 0, (-1), 0, []⟩ : Api_Domain)]) false), .callo (.tup [.os 0 (List.length l3), .v (.int .i64 v4)]) [.arr 5 l3 (List.length l3) false], .callo (.tup [.os 0 (List.length l7), .v (.int .i64 v8)]) [.arr 5 l7 (List.length l7) false], .callo (.tup [.os 0 (List.length l11), .v (.int .i64 v12)]) [.arr 5 l11 (List.length l11) false], .dec true, .dec true, .dec true, .dec true, .row (c5 x18), .dec false]) (hrun := by kernel_rfl) (hps := pc (bs_ob 89 [(⟨0, 0, (⟨#[97]⟩ : ByteArray), 0, 0⟩ : Api_Device)]) <| pc (bs_ob 3 [(20 : Int)]) <| pc (bs_ob 59 [(⟨0, 0, 10, 0, (-1), (⟨#[112]⟩ : ByteArray), [(20 : Int)]⟩ : Api_Port)]) <| pc ((rfl : ((List.length [(20 : Int)]) : Nat) = (List.length [(20 : Int)]))) <| pc (bs_ob 61 [(⟨0, 10, 0, (-1), 0, []⟩ : Api_Domain), (⟨0, 20, 0, (-1), 0, []⟩ : Api_Domain)]) <| pc (k_leave_At h2) <| pc (im5 l3) <| pc ((rfl : ((List.length [(⟨0, 0, (⟨#[97]⟩ : ByteArray), 0, 0⟩ : Api_Device)]) : Nat) = (List.length [(⟨0, 0, (⟨#[97]⟩ : ByteArray), 0, 0⟩ : Api_Device)]))) <| pc ((rfl : ((List.length [(⟨0, 0, 10, 0, (-1), (⟨#[112]⟩ : ByteArray), [(20 : Int)]⟩ : Api_Port)]) : Nat) = (List.length [(⟨0, 0, 10, 0, (-1), (⟨#[112]⟩ : ByteArray), [(20 : Int)]⟩ : Api_Port)]))) <| pc ((rfl : (0 : Nat) = 0)) <| pc ((rfl : ((List.length [(⟨0, 10, 0, (-1), 0, []⟩ : Api_Domain), (⟨0, 20, 0, (-1), 0, []⟩ : Api_Domain)]) : Nat) = (List.length [(⟨0, 10, 0, (-1), 0, []⟩ : Api_Domain), (⟨0, 20, 0, (-1), 0, []⟩ : Api_Domain)]))) <| pc ((rfl : (0 : Nat) = 0)) <| pc ((rfl : (0 : Nat) = 0)) <| pc ((rfl : (0 : Nat) = 0)) <| pc ((rfl : (0 : Nat) = 0)) <| pc ((rfl : (0 : Nat) = 0)) <| pc (k_leave_At h6) <| pc (im5 l7) <| pc ((rfl : ((List.length [(⟨0, 0, (⟨#[97]⟩ : ByteArray), 0, 0⟩ : Api_Device)]) : Nat) = (List.length [(⟨0, 0, (⟨#[97]⟩ : ByteArray), 0, 0⟩ : Api_Device)]))) <| pc ((rfl : ((List.length [(⟨0, 0, 10, 0, (-1), (⟨#[112]⟩ : ByteArray), [(20 : Int)]⟩ : Api_Port)]) : Nat) = (List.length [(⟨0, 0, 10, 0, (-1), (⟨#[112]⟩ : ByteArray), [(20 : Int)]⟩ : Api_Port)]))) <| pc ((rfl : (0 : Nat) = 0)) <| pc ((rfl : ((List.length [(⟨0, 10, 0, (-1), 0, []⟩ : Api_Domain), (⟨0, 20, 0, (-1), 0, []⟩ : Api_Domain)]) : Nat) = (List.length [(⟨0, 10, 0, (-1), 0, []⟩ : Api_Domain), (⟨0, 20, 0, (-1), 0, []⟩ : Api_Domain)]))) <| pc ((rfl : (0 : Nat) = 0)) <| pc ((rfl : (0 : Nat) = 0)) <| pc ((rfl : (0 : Nat) = 0)) <| pc ((rfl : (0 : Nat) = 0)) <| pc ((rfl : (0 : Nat) = 0)) <| pc (k_leave_At h10) <| pc (im5 l11) <| pc ((rfl : ((List.length [(⟨0, 0, (⟨#[97]⟩ : ByteArray), 0, 0⟩ : Api_Device)]) : Nat) = (List.length [(⟨0, 0, (⟨#[97]⟩ : ByteArray), 0, 0⟩ : Api_Device)]))) <| pc ((rfl : ((List.length [(⟨0, 0, 10, 0, (-1), (⟨#[112]⟩ : ByteArray), [(20 : Int)]⟩ : Api_Port)]) : Nat) = (List.length [(⟨0, 0, 10, 0, (-1), (⟨#[112]⟩ : ByteArray), [(20 : Int)]⟩ : Api_Port)]))) <| pc ((rfl : (0 : Nat) = 0)) <| pc ((rfl : ((List.length [(⟨0, 10, 0, (-1), 0, []⟩ : Api_Domain), (⟨0, 20, 0, (-1), 0, []⟩ : Api_Domain)]) : Nat) = (List.length [(⟨0, 10, 0, (-1), 0, []⟩ : Api_Domain), (⟨0, 20, 0, (-1), 0, []⟩ : Api_Domain)]))) <| pc ((rfl : (0 : Nat) = 0)) <| pc ((rfl : (0 : Nat) = 0)) <| pc ((rfl : (0 : Nat) = 0)) <| pc ((rfl : (0 : Nat) = 0)) <| pc ((rfl : (0 : Nat) = 0)) <| pc (h13) <| pc ((rfl : ((List.length l3) : Nat) = (List.length l3))) <| pc (h14) <| pc (h15) <| pc ((rfl : ((List.length l7) : Nat) = (List.length l7))) <| pc (h16) <| pc (And.intro (rfl : ((List.length l7) : Nat) = (List.length l7)) (lin_ob h17)) <| pc (And.intro (rfl : ((List.length l7) : Nat) = (List.length l7)) (obn5 h19)) <| pc (h20) <| pn)
          · cases h
        · injection h with h; subst h; exact runFn_sound mixedOrders Tryz.func13 rfl (keep := none) (π := [.obj [] (.arr 89 [(⟨0, 0, (⟨#[97]⟩ : ByteArray), 0, 0⟩ : Api_Device)] (List.length [(⟨0, 0, (⟨#[97]⟩ : ByteArray), 0, 0⟩ : Api_Device)]) false), .obj [] (.arr 3 [(20 : Int)] (List.length [(20 : Int)]) false), .obj [1] (.arr 59 [(⟨0, 0, 10, 0, (-1), (⟨#[112]⟩ : ByteArray), [(20 : Int)]⟩ : Api_Port)] (List.length [(⟨0, 0, 10, 0, (-1), (⟨#[112]⟩ : ByteArray), [(20 : Int)]⟩ : Api_Port)]) false), .obj [] (.arr 61 [(⟨0, 10, 0, (-1), 0, []⟩ : Api_Domain), (⟨0, 20, 0, (-1), 0, []⟩ : Api_Domain)] (List.length [(⟨0, 10, 0, (-1), 0, []⟩ : Api_Domain), (⟨0, 20, 0, (-1), 0, []⟩ : Api_Domain)]) false), .callo (.tup [.os 0 (List.length l3), .v (.int .i64 v4)]) [.arr 5 l3 (List.length l3) false], .callo (.tup [.os 0 (List.length l7), .v (.int .i64 v8)]) [.arr 5 l7 (List.length l7) false], .callo (.tup [.os 0 (List.length l11), .v (.int .i64 v12)]) [.arr 5 l11 (List.length l11) false], .dec true, .dec true, .dec true, .dec false]) (hrun := by kernel_rfl) (hps := pc (bs_ob 89 [(⟨0, 0, (⟨#[97]⟩ : ByteArray), 0, 0⟩ : Api_Device)]) <| pc (bs_ob 3 [(20 : Int)]) <| pc (bs_ob 59 [(⟨0, 0, 10, 0, (-1), (⟨#[112]⟩ : ByteArray), [(20 : Int)]⟩ : Api_Port)]) <| pc ((rfl : ((List.length [(20 : Int)]) : Nat) = (List.length [(20 : Int)]))) <| pc (bs_ob 61 [(⟨0, 10, 0, (-1), 0, []⟩ : Api_Domain), (⟨0, 20, 0, (-1), 0, []⟩ : Api_Domain)]) <| pc (k_leave_At h2) <| pc (im5 l3) <| pc ((rfl : ((List.length [(⟨0, 0, (⟨#[97]⟩ : ByteArray), 0, 0⟩ : Api_Device)]) : Nat) = (List.length [(⟨0, 0, (⟨#[97]⟩ : ByteArray), 0, 0⟩ : Api_Device)]))) <| pc ((rfl : ((List.length [(⟨0, 0, 10, 0, (-1), (⟨#[112]⟩ : ByteArray), [(20 : Int)]⟩ : Api_Port)]) : Nat) = (List.length [(⟨0, 0, 10, 0, (-1), (⟨#[112]⟩ : ByteArray), [(20 : Int)]⟩ : Api_Port)]))) <| pc ((rfl : (0 : Nat) = 0)) <| pc ((rfl : ((List.length [(⟨0, 10, 0, (-1), 0, []⟩ : Api_Domain), (⟨0, 20, 0, (-1), 0, []⟩ : Api_Domain)]) : Nat) = (List.length [(⟨0, 10, 0, (-1), 0, []⟩ : Api_Domain), (⟨0, 20, 0, (-1), 0, []⟩ : Api_Domain)]))) <| pc ((rfl : (0 : Nat) = 0)) <| pc ((rfl : (0 : Nat) = 0)) <| pc ((rfl : (0 : Nat) = 0)) <| pc ((rfl : (0 : Nat) = 0)) <| pc ((rfl : (0 : Nat) = 0)) <| pc (k_leave_At h6) <| pc (im5 l7) <| pc ((rfl : ((List.length [(⟨0, 0, (⟨#[97]⟩ : ByteArray), 0, 0⟩ : Api_Device)]) : Nat) = (List.length [(⟨0, 0, (⟨#[97]⟩ : ByteArray), 0, 0⟩ : Api_Device)]))) <| pc ((rfl : ((List.length [(⟨0, 0, 10, 0, (-1), (⟨#[112]⟩ : ByteArray), [(20 : Int)]⟩ : Api_Port)]) : Nat) = (List.length [(⟨0, 0, 10, 0, (-1), (⟨#[112]⟩ : ByteArray), [(20 : Int)]⟩ : Api_Port)]))) <| pc ((rfl : (0 : Nat) = 0)) <| pc ((rfl : ((List.length [(⟨0, 10, 0, (-1), 0, []⟩ : Api_Domain), (⟨0, 20, 0, (-1), 0, []⟩ : Api_Domain)]) : Nat) = (List.length [(⟨0, 10, 0, (-1), 0, []⟩ : Api_Domain), (⟨0, 20, 0, (-1), 0, []⟩ : Api_Domain)]))) <| pc ((rfl : (0 : Nat) = 0)) <| pc ((rfl : (0 : Nat) = 0)) <| pc ((rfl : (0 : Nat) = 0)) <| pc ((rfl : (0 : Nat) = 0)) <| pc ((rfl : (0 : Nat) = 0)) <| pc (k_leave_At h10) <| pc (im5 l11) <| pc ((rfl : ((List.length [(⟨0, 0, (⟨#[97]⟩ : ByteArray), 0, 0⟩ : Api_Device)]) : Nat) = (List.length [(⟨0, 0, (⟨#[97]⟩ : ByteArray), 0, 0⟩ : Api_Device)]))) <| pc ((rfl : ((List.length [(⟨0, 0, 10, 0, (-1), (⟨#[112]⟩ : ByteArray), [(20 : Int)]⟩ : Api_Port)]) : Nat) = (List.length [(⟨0, 0, 10, 0, (-1), (⟨#[112]⟩ : ByteArray), [(20 : Int)]⟩ : Api_Port)]))) <| pc ((rfl : (0 : Nat) = 0)) <| pc ((rfl : ((List.length [(⟨0, 10, 0, (-1), 0, []⟩ : Api_Domain), (⟨0, 20, 0, (-1), 0, []⟩ : Api_Domain)]) : Nat) = (List.length [(⟨0, 10, 0, (-1), 0, []⟩ : Api_Domain), (⟨0, 20, 0, (-1), 0, []⟩ : Api_Domain)]))) <| pc ((rfl : (0 : Nat) = 0)) <| pc ((rfl : (0 : Nat) = 0)) <| pc ((rfl : (0 : Nat) = 0)) <| pc ((rfl : (0 : Nat) = 0)) <| pc ((rfl : (0 : Nat) = 0)) <| pc (h13) <| pc ((rfl : ((List.length l3) : Nat) = (List.length l3))) <| pc (h14) <| pc (h15) <| pc ((rfl : ((List.length l7) : Nat) = (List.length l7))) <| pc (h16) <| pn)
      · injection h with h; subst h; exact runFn_sound mixedOrders Tryz.func13 rfl (keep := none) (π := [.obj [] (.arr 89 [(⟨0, 0, (⟨#[97]⟩ : ByteArray), 0, 0⟩ : Api_Device)] (List.length [(⟨0, 0, (⟨#[97]⟩ : ByteArray), 0, 0⟩ : Api_Device)]) false), .obj [] (.arr 3 [(20 : Int)] (List.length [(20 : Int)]) false), .obj [1] (.arr 59 [(⟨0, 0, 10, 0, (-1), (⟨#[112]⟩ : ByteArray), [(20 : Int)]⟩ : Api_Port)] (List.length [(⟨0, 0, 10, 0, (-1), (⟨#[112]⟩ : ByteArray), [(20 : Int)]⟩ : Api_Port)]) false), .obj [] (.arr 61 [(⟨0, 10, 0, (-1), 0, []⟩ : Api_Domain), (⟨0, 20, 0, (-1), 0, []⟩ : Api_Domain)] (List.length [(⟨0, 10, 0, (-1), 0, []⟩ : Api_Domain), (⟨0, 20, 0, (-1), 0, []⟩ : Api_Domain)]) false), .callo (.tup [.os 0 (List.length l3), .v (.int .i64 v4)]) [.arr 5 l3 (List.length l3) false], .callo (.tup [.os 0 (List.length l7), .v (.int .i64 v8)]) [.arr 5 l7 (List.length l7) false], .callo (.tup [.os 0 (List.length l11), .v (.int .i64 v12)]) [.arr 5 l11 (List.length l11) false], .dec true, .dec true, .dec false]) (hrun := by kernel_rfl) (hps := pc (bs_ob 89 [(⟨0, 0, (⟨#[97]⟩ : ByteArray), 0, 0⟩ : Api_Device)]) <| pc (bs_ob 3 [(20 : Int)]) <| pc (bs_ob 59 [(⟨0, 0, 10, 0, (-1), (⟨#[112]⟩ : ByteArray), [(20 : Int)]⟩ : Api_Port)]) <| pc ((rfl : ((List.length [(20 : Int)]) : Nat) = (List.length [(20 : Int)]))) <| pc (bs_ob 61 [(⟨0, 10, 0, (-1), 0, []⟩ : Api_Domain), (⟨0, 20, 0, (-1), 0, []⟩ : Api_Domain)]) <| pc (k_leave_At h2) <| pc (im5 l3) <| pc ((rfl : ((List.length [(⟨0, 0, (⟨#[97]⟩ : ByteArray), 0, 0⟩ : Api_Device)]) : Nat) = (List.length [(⟨0, 0, (⟨#[97]⟩ : ByteArray), 0, 0⟩ : Api_Device)]))) <| pc ((rfl : ((List.length [(⟨0, 0, 10, 0, (-1), (⟨#[112]⟩ : ByteArray), [(20 : Int)]⟩ : Api_Port)]) : Nat) = (List.length [(⟨0, 0, 10, 0, (-1), (⟨#[112]⟩ : ByteArray), [(20 : Int)]⟩ : Api_Port)]))) <| pc ((rfl : (0 : Nat) = 0)) <| pc ((rfl : ((List.length [(⟨0, 10, 0, (-1), 0, []⟩ : Api_Domain), (⟨0, 20, 0, (-1), 0, []⟩ : Api_Domain)]) : Nat) = (List.length [(⟨0, 10, 0, (-1), 0, []⟩ : Api_Domain), (⟨0, 20, 0, (-1), 0, []⟩ : Api_Domain)]))) <| pc ((rfl : (0 : Nat) = 0)) <| pc ((rfl : (0 : Nat) = 0)) <| pc ((rfl : (0 : Nat) = 0)) <| pc ((rfl : (0 : Nat) = 0)) <| pc ((rfl : (0 : Nat) = 0)) <| pc (k_leave_At h6) <| pc (im5 l7) <| pc ((rfl : ((List.length [(⟨0, 0, (⟨#[97]⟩ : ByteArray), 0, 0⟩ : Api_Device)]) : Nat) = (List.length [(⟨0, 0, (⟨#[97]⟩ : ByteArray), 0, 0⟩ : Api_Device)]))) <| pc ((rfl : ((List.length [(⟨0, 0, 10, 0, (-1), (⟨#[112]⟩ : ByteArray), [(20 : Int)]⟩ : Api_Port)]) : Nat) = (List.length [(⟨0, 0, 10, 0, (-1), (⟨#[112]⟩ : ByteArray), [(20 : Int)]⟩ : Api_Port)]))) <| pc ((rfl : (0 : Nat) = 0)) <| pc ((rfl : ((List.length [(⟨0, 10, 0, (-1), 0, []⟩ : Api_Domain), (⟨0, 20, 0, (-1), 0, []⟩ : Api_Domain)]) : Nat) = (List.length [(⟨0, 10, 0, (-1), 0, []⟩ : Api_Domain), (⟨0, 20, 0, (-1), 0, []⟩ : Api_Domain)]))) <| pc ((rfl : (0 : Nat) = 0)) <| pc ((rfl : (0 : Nat) = 0)) <| pc ((rfl : (0 : Nat) = 0)) <| pc ((rfl : (0 : Nat) = 0)) <| pc ((rfl : (0 : Nat) = 0)) <| pc (k_leave_At h10) <| pc (im5 l11) <| pc ((rfl : ((List.length [(⟨0, 0, (⟨#[97]⟩ : ByteArray), 0, 0⟩ : Api_Device)]) : Nat) = (List.length [(⟨0, 0, (⟨#[97]⟩ : ByteArray), 0, 0⟩ : Api_Device)]))) <| pc ((rfl : ((List.length [(⟨0, 0, 10, 0, (-1), (⟨#[112]⟩ : ByteArray), [(20 : Int)]⟩ : Api_Port)]) : Nat) = (List.length [(⟨0, 0, 10, 0, (-1), (⟨#[112]⟩ : ByteArray), [(20 : Int)]⟩ : Api_Port)]))) <| pc ((rfl : (0 : Nat) = 0)) <| pc ((rfl : ((List.length [(⟨0, 10, 0, (-1), 0, []⟩ : Api_Domain), (⟨0, 20, 0, (-1), 0, []⟩ : Api_Domain)]) : Nat) = (List.length [(⟨0, 10, 0, (-1), 0, []⟩ : Api_Domain), (⟨0, 20, 0, (-1), 0, []⟩ : Api_Domain)]))) <| pc ((rfl : (0 : Nat) = 0)) <| pc ((rfl : (0 : Nat) = 0)) <| pc ((rfl : (0 : Nat) = 0)) <| pc ((rfl : (0 : Nat) = 0)) <| pc ((rfl : (0 : Nat) = 0)) <| pc (h13) <| pc ((rfl : ((List.length l3) : Nat) = (List.length l3))) <| pc (h14) <| pc (h15) <| pn)
    · injection h with h; subst h; exact runFn_sound mixedOrders Tryz.func13 rfl (keep := none) (π := [.obj [] (.arr 89 [(⟨0, 0, (⟨#[97]⟩ : ByteArray), 0, 0⟩ : Api_Device)] (List.length [(⟨0, 0, (⟨#[97]⟩ : ByteArray), 0, 0⟩ : Api_Device)]) false), .obj [] (.arr 3 [(20 : Int)] (List.length [(20 : Int)]) false), .obj [1] (.arr 59 [(⟨0, 0, 10, 0, (-1), (⟨#[112]⟩ : ByteArray), [(20 : Int)]⟩ : Api_Port)] (List.length [(⟨0, 0, 10, 0, (-1), (⟨#[112]⟩ : ByteArray), [(20 : Int)]⟩ : Api_Port)]) false), .obj [] (.arr 61 [(⟨0, 10, 0, (-1), 0, []⟩ : Api_Domain), (⟨0, 20, 0, (-1), 0, []⟩ : Api_Domain)] (List.length [(⟨0, 10, 0, (-1), 0, []⟩ : Api_Domain), (⟨0, 20, 0, (-1), 0, []⟩ : Api_Domain)]) false), .callo (.tup [.os 0 (List.length l3), .v (.int .i64 v4)]) [.arr 5 l3 (List.length l3) false], .callo (.tup [.os 0 (List.length l7), .v (.int .i64 v8)]) [.arr 5 l7 (List.length l7) false], .callo (.tup [.os 0 (List.length l11), .v (.int .i64 v12)]) [.arr 5 l11 (List.length l11) false], .dec true, .dec false]) (hrun := by kernel_rfl) (hps := pc (bs_ob 89 [(⟨0, 0, (⟨#[97]⟩ : ByteArray), 0, 0⟩ : Api_Device)]) <| pc (bs_ob 3 [(20 : Int)]) <| pc (bs_ob 59 [(⟨0, 0, 10, 0, (-1), (⟨#[112]⟩ : ByteArray), [(20 : Int)]⟩ : Api_Port)]) <| pc ((rfl : ((List.length [(20 : Int)]) : Nat) = (List.length [(20 : Int)]))) <| pc (bs_ob 61 [(⟨0, 10, 0, (-1), 0, []⟩ : Api_Domain), (⟨0, 20, 0, (-1), 0, []⟩ : Api_Domain)]) <| pc (k_leave_At h2) <| pc (im5 l3) <| pc ((rfl : ((List.length [(⟨0, 0, (⟨#[97]⟩ : ByteArray), 0, 0⟩ : Api_Device)]) : Nat) = (List.length [(⟨0, 0, (⟨#[97]⟩ : ByteArray), 0, 0⟩ : Api_Device)]))) <| pc ((rfl : ((List.length [(⟨0, 0, 10, 0, (-1), (⟨#[112]⟩ : ByteArray), [(20 : Int)]⟩ : Api_Port)]) : Nat) = (List.length [(⟨0, 0, 10, 0, (-1), (⟨#[112]⟩ : ByteArray), [(20 : Int)]⟩ : Api_Port)]))) <| pc ((rfl : (0 : Nat) = 0)) <| pc ((rfl : ((List.length [(⟨0, 10, 0, (-1), 0, []⟩ : Api_Domain), (⟨0, 20, 0, (-1), 0, []⟩ : Api_Domain)]) : Nat) = (List.length [(⟨0, 10, 0, (-1), 0, []⟩ : Api_Domain), (⟨0, 20, 0, (-1), 0, []⟩ : Api_Domain)]))) <| pc ((rfl : (0 : Nat) = 0)) <| pc ((rfl : (0 : Nat) = 0)) <| pc ((rfl : (0 : Nat) = 0)) <| pc ((rfl : (0 : Nat) = 0)) <| pc ((rfl : (0 : Nat) = 0)) <| pc (k_leave_At h6) <| pc (im5 l7) <| pc ((rfl : ((List.length [(⟨0, 0, (⟨#[97]⟩ : ByteArray), 0, 0⟩ : Api_Device)]) : Nat) = (List.length [(⟨0, 0, (⟨#[97]⟩ : ByteArray), 0, 0⟩ : Api_Device)]))) <| pc ((rfl : ((List.length [(⟨0, 0, 10, 0, (-1), (⟨#[112]⟩ : ByteArray), [(20 : Int)]⟩ : Api_Port)]) : Nat) = (List.length [(⟨0, 0, 10, 0, (-1), (⟨#[112]⟩ : ByteArray), [(20 : Int)]⟩ : Api_Port)]))) <| pc ((rfl : (0 : Nat) = 0)) <| pc ((rfl : ((List.length [(⟨0, 10, 0, (-1), 0, []⟩ : Api_Domain), (⟨0, 20, 0, (-1), 0, []⟩ : Api_Domain)]) : Nat) = (List.length [(⟨0, 10, 0, (-1), 0, []⟩ : Api_Domain), (⟨0, 20, 0, (-1), 0, []⟩ : Api_Domain)]))) <| pc ((rfl : (0 : Nat) = 0)) <| pc ((rfl : (0 : Nat) = 0)) <| pc ((rfl : (0 : Nat) = 0)) <| pc ((rfl : (0 : Nat) = 0)) <| pc ((rfl : (0 : Nat) = 0)) <| pc (k_leave_At h10) <| pc (im5 l11) <| pc ((rfl : ((List.length [(⟨0, 0, (⟨#[97]⟩ : ByteArray), 0, 0⟩ : Api_Device)]) : Nat) = (List.length [(⟨0, 0, (⟨#[97]⟩ : ByteArray), 0, 0⟩ : Api_Device)]))) <| pc ((rfl : ((List.length [(⟨0, 0, 10, 0, (-1), (⟨#[112]⟩ : ByteArray), [(20 : Int)]⟩ : Api_Port)]) : Nat) = (List.length [(⟨0, 0, 10, 0, (-1), (⟨#[112]⟩ : ByteArray), [(20 : Int)]⟩ : Api_Port)]))) <| pc ((rfl : (0 : Nat) = 0)) <| pc ((rfl : ((List.length [(⟨0, 10, 0, (-1), 0, []⟩ : Api_Domain), (⟨0, 20, 0, (-1), 0, []⟩ : Api_Domain)]) : Nat) = (List.length [(⟨0, 10, 0, (-1), 0, []⟩ : Api_Domain), (⟨0, 20, 0, (-1), 0, []⟩ : Api_Domain)]))) <| pc ((rfl : (0 : Nat) = 0)) <| pc ((rfl : (0 : Nat) = 0)) <| pc ((rfl : (0 : Nat) = 0)) <| pc ((rfl : (0 : Nat) = 0)) <| pc ((rfl : (0 : Nat) = 0)) <| pc (h13) <| pc ((rfl : ((List.length l3) : Nat) = (List.length l3))) <| pc (h14) <| pn)
  · injection h with h; subst h; exact runFn_sound mixedOrders Tryz.func13 rfl (keep := none) (π := [.obj [] (.arr 89 [(⟨0, 0, (⟨#[97]⟩ : ByteArray), 0, 0⟩ : Api_Device)] (List.length [(⟨0, 0, (⟨#[97]⟩ : ByteArray), 0, 0⟩ : Api_Device)]) false), .obj [] (.arr 3 [(20 : Int)] (List.length [(20 : Int)]) false), .obj [1] (.arr 59 [(⟨0, 0, 10, 0, (-1), (⟨#[112]⟩ : ByteArray), [(20 : Int)]⟩ : Api_Port)] (List.length [(⟨0, 0, 10, 0, (-1), (⟨#[112]⟩ : ByteArray), [(20 : Int)]⟩ : Api_Port)]) false), .obj [] (.arr 61 [(⟨0, 10, 0, (-1), 0, []⟩ : Api_Domain), (⟨0, 20, 0, (-1), 0, []⟩ : Api_Domain)] (List.length [(⟨0, 10, 0, (-1), 0, []⟩ : Api_Domain), (⟨0, 20, 0, (-1), 0, []⟩ : Api_Domain)]) false), .callo (.tup [.os 0 (List.length l3), .v (.int .i64 v4)]) [.arr 5 l3 (List.length l3) false], .callo (.tup [.os 0 (List.length l7), .v (.int .i64 v8)]) [.arr 5 l7 (List.length l7) false], .callo (.tup [.os 0 (List.length l11), .v (.int .i64 v12)]) [.arr 5 l11 (List.length l11) false], .dec false]) (hrun := by kernel_rfl) (hps := pc (bs_ob 89 [(⟨0, 0, (⟨#[97]⟩ : ByteArray), 0, 0⟩ : Api_Device)]) <| pc (bs_ob 3 [(20 : Int)]) <| pc (bs_ob 59 [(⟨0, 0, 10, 0, (-1), (⟨#[112]⟩ : ByteArray), [(20 : Int)]⟩ : Api_Port)]) <| pc ((rfl : ((List.length [(20 : Int)]) : Nat) = (List.length [(20 : Int)]))) <| pc (bs_ob 61 [(⟨0, 10, 0, (-1), 0, []⟩ : Api_Domain), (⟨0, 20, 0, (-1), 0, []⟩ : Api_Domain)]) <| pc (k_leave_At h2) <| pc (im5 l3) <| pc ((rfl : ((List.length [(⟨0, 0, (⟨#[97]⟩ : ByteArray), 0, 0⟩ : Api_Device)]) : Nat) = (List.length [(⟨0, 0, (⟨#[97]⟩ : ByteArray), 0, 0⟩ : Api_Device)]))) <| pc ((rfl : ((List.length [(⟨0, 0, 10, 0, (-1), (⟨#[112]⟩ : ByteArray), [(20 : Int)]⟩ : Api_Port)]) : Nat) = (List.length [(⟨0, 0, 10, 0, (-1), (⟨#[112]⟩ : ByteArray), [(20 : Int)]⟩ : Api_Port)]))) <| pc ((rfl : (0 : Nat) = 0)) <| pc ((rfl : ((List.length [(⟨0, 10, 0, (-1), 0, []⟩ : Api_Domain), (⟨0, 20, 0, (-1), 0, []⟩ : Api_Domain)]) : Nat) = (List.length [(⟨0, 10, 0, (-1), 0, []⟩ : Api_Domain), (⟨0, 20, 0, (-1), 0, []⟩ : Api_Domain)]))) <| pc ((rfl : (0 : Nat) = 0)) <| pc ((rfl : (0 : Nat) = 0)) <| pc ((rfl : (0 : Nat) = 0)) <| pc ((rfl : (0 : Nat) = 0)) <| pc ((rfl : (0 : Nat) = 0)) <| pc (k_leave_At h6) <| pc (im5 l7) <| pc ((rfl : ((List.length [(⟨0, 0, (⟨#[97]⟩ : ByteArray), 0, 0⟩ : Api_Device)]) : Nat) = (List.length [(⟨0, 0, (⟨#[97]⟩ : ByteArray), 0, 0⟩ : Api_Device)]))) <| pc ((rfl : ((List.length [(⟨0, 0, 10, 0, (-1), (⟨#[112]⟩ : ByteArray), [(20 : Int)]⟩ : Api_Port)]) : Nat) = (List.length [(⟨0, 0, 10, 0, (-1), (⟨#[112]⟩ : ByteArray), [(20 : Int)]⟩ : Api_Port)]))) <| pc ((rfl : (0 : Nat) = 0)) <| pc ((rfl : ((List.length [(⟨0, 10, 0, (-1), 0, []⟩ : Api_Domain), (⟨0, 20, 0, (-1), 0, []⟩ : Api_Domain)]) : Nat) = (List.length [(⟨0, 10, 0, (-1), 0, []⟩ : Api_Domain), (⟨0, 20, 0, (-1), 0, []⟩ : Api_Domain)]))) <| pc ((rfl : (0 : Nat) = 0)) <| pc ((rfl : (0 : Nat) = 0)) <| pc ((rfl : (0 : Nat) = 0)) <| pc ((rfl : (0 : Nat) = 0)) <| pc ((rfl : (0 : Nat) = 0)) <| pc (k_leave_At h10) <| pc (im5 l11) <| pc ((rfl : ((List.length [(⟨0, 0, (⟨#[97]⟩ : ByteArray), 0, 0⟩ : Api_Device)]) : Nat) = (List.length [(⟨0, 0, (⟨#[97]⟩ : ByteArray), 0, 0⟩ : Api_Device)]))) <| pc ((rfl : ((List.length [(⟨0, 0, 10, 0, (-1), (⟨#[112]⟩ : ByteArray), [(20 : Int)]⟩ : Api_Port)]) : Nat) = (List.length [(⟨0, 0, 10, 0, (-1), (⟨#[112]⟩ : ByteArray), [(20 : Int)]⟩ : Api_Port)]))) <| pc ((rfl : (0 : Nat) = 0)) <| pc ((rfl : ((List.length [(⟨0, 10, 0, (-1), 0, []⟩ : Api_Domain), (⟨0, 20, 0, (-1), 0, []⟩ : Api_Domain)]) : Nat) = (List.length [(⟨0, 10, 0, (-1), 0, []⟩ : Api_Domain), (⟨0, 20, 0, (-1), 0, []⟩ : Api_Domain)]))) <| pc ((rfl : (0 : Nat) = 0)) <| pc ((rfl : (0 : Nat) = 0)) <| pc ((rfl : (0 : Nat) = 0)) <| pc ((rfl : (0 : Nat) = 0)) <| pc ((rfl : (0 : Nat) = 0)) <| pc (h13) <| pn)

theorem k_leave_whole_vtep {a1 : Leave_whole} {a2 : Int} {r : Int} (h : leave_whole_vtep a1 a2 = some r) :
    CallsOK Tryz.prog UU 42 [.agg (c92 a1), .v (.int .i64 a2)] [] (.v (.int .u32 r)) [] := by
  unfold leave_whole_vtep at h
  obtain ⟨x3, h4, h⟩ := bind_out h
  obtain ⟨x5, h6, h⟩ := bind_out h
  injection h with h; subst h; exact runFn_sound mixedOrders Tryz.func42 rfl (keep := none) (π := [.row (c61 x3), .row (c89 x5)]) (hrun := by kernel_rfl) (hps := pc (ob61 h4) <| pc (ob89 h6) <| pn)

theorem k_vxlan_Head {a1 : Int} {r : ((List Int) × Int)} (h : vxlan_Head a1 = some r) :
    CallsOK Tryz.prog UU 101 [.v (.int .i64 a1)] [] ((fun r => match r with | (l4, v5) => .tup [.os 0 (List.length l4), .v (.int .i64 v5)]) r) ((fun r => match r with | (l4, v5) => [.arr 5 l4 (List.length l4) false]) r) := by
  unfold vxlan_Head at h
  rcases ite_out h with ⟨h2, h⟩ | ⟨h2, h⟩
  · injection h with h; subst h; exact runFn_sound mixedOrders Tryz.func101 rfl (keep := some [1]) (π := [.dec true]) (hrun := by kernel_rfl) (hps := pc (h2) <| pn)
  · rcases ite_out h with ⟨h3, h⟩ | ⟨h3, h⟩
    · injection h with h; subst h; exact runFn_sound mixedOrders Tryz.func101 rfl (keep := some [1]) (π := [.dec false, .dec true]) (hrun := by kernel_rfl) (hps := pc (h2) <| pc (h3) <| pn)
    · injection h with h; subst h; exact runFn_sound mixedOrders Tryz.func101 rfl (keep := some [1]) (π := [.dec false, .dec false, .obj [] (.arr 5 [(8 : Int), (0 : Int), (0 : Int), (0 : Int), (wr_u8 (Int.fdiv a1 (2 ^ 16)) : Int), (wr_u8 (Int.fdiv a1 (2 ^ 8)) : Int), (wr_u8 a1 : Int), (0 : Int)] (List.length [(8 : Int), (0 : Int), (0 : Int), (0 : Int), (wr_u8 (Int.fdiv a1 (2 ^ 16)) : Int), (wr_u8 (Int.fdiv a1 (2 ^ 8)) : Int), (wr_u8 a1 : Int), (0 : Int)]) false)]) (hrun := by kernel_rfl) (hps := pc (h2) <| pc (h3) <| pc ((show (0 : Int) ≤ 16 from by decide)) <| pc ((show (0 : Int) ≤ 8 from by decide)) <| pc (bs_ob 5 [(8 : Int), (0 : Int), (0 : Int), (0 : Int), (wr_u8 (Int.fdiv a1 (2 ^ 16)) : Int), (wr_u8 (Int.fdiv a1 (2 ^ 8)) : Int), (wr_u8 a1 : Int), (0 : Int)]) <| pn)

theorem k_udp_Port {a1 : Int} {a2 : Int} {r : Int} (h : udp_Port a1 a2 = some r) :
    CallsOK Tryz.prog UU 103 [.v (.int .u64 a1), .v (.int .u64 a2)] [] (.v (.int .i64 r)) [] := by
  unfold udp_Port at h
  injection h with h; subst h; exact runFn_sound mixedOrders Tryz.func103 rfl (keep := none) (π := []) (hrun := by kernel_rfl) (hps := pc ((show (16384 : Int) ≠ 0 from by decide)) <| pn)

theorem k_udp_Put_L1 {a1 : Int} {a2 : Int} {a3 : List Int} : LoopOK Tryz.prog UU 0 51 (subC (codeOf Tryz.f102) [1, 1, 1, 0, 1, 0, 0]) (fun s : (List Int) × Int => match s with | (l9, v10) => udp_Put_L1 a1 a2 a3 l9 v10)
    (fun s : (List Int) × Int => (match s with | (l9, v10) => [(2, .sl 5 a3), (6, .os 0 0), (7, .z), (8, .os 1 (List.length l9)), (35, .agg [.v (.int .i64 a1), .v (.int .i64 a2), .v (.int .i64 (wr_i64 (8 + (a3.length : Int)))), .z]), (36, .v (.int .i64 v10))] : Fr DD)) (fun s : (List Int) × Int => (match s with | (l9, v10) => [.n 5, .arr 5 l9 (List.length l9) false] : Heap DD)) (fun r => match r with | l24 => .exit 1) (fun r => match r with | l24 => [(2, .sl 5 a3), (6, .os 0 0), (7, .z), (8, .os 1 (List.length l24))]) (fun r => match r with | l24 => [.n 5, .arr 5 l24 (List.length l24) false]) := by
  refine loop_sound3 (fun s q h => ?_) (fun r => ?_)
  · obtain ⟨l9, v10⟩ := s; replace h : udp_Put_L1 a1 a2 a3 l9 v10 = some q := h
    unfold udp_Put_L1 at h
    rcases ite_out h with ⟨h11, h⟩ | ⟨h11, h⟩
    · rcases ite_out h with ⟨h12, h⟩ | ⟨h12, h⟩
      · rcases ite_out h with ⟨h13, h⟩ | ⟨h13, h⟩
        · injection h with h; subst h; exact runLp_sound mixedOrders (live := [2, 6, 7, 8, 35, 36]) (ids := [0, 1]) (π := [.dec true, .frz [0], .obj [] (.arr 5 [(wr_u8 (Int.fdiv a1 (2 ^ 8)) : Int), (wr_u8 a1 : Int)] (List.length [(wr_u8 (Int.fdiv a1 (2 ^ 8)) : Int), (wr_u8 a1 : Int)]) false), .obj [] (.arr 5 (l9 ++ [(wr_u8 (Int.fdiv a1 (2 ^ 8)) : Int), (wr_u8 a1 : Int)]) (List.length (l9 ++ [(wr_u8 (Int.fdiv a1 (2 ^ 8)) : Int), (wr_u8 a1 : Int)])) false)]) (hx := by kernel_rfl) (hps := pc (h11) <| pc (eq_of_beq h12) <| pc ((show (0 : Int) ≤ 8 from by decide)) <| pc (bs_ob 5 [(wr_u8 (Int.fdiv a1 (2 ^ 8)) : Int), (wr_u8 a1 : Int)]) <| pc (app_ob 5 (n := (List.length l9)) (l := l9) (xs := [(wr_u8 (Int.fdiv a1 (2 ^ 8)) : Int), (wr_u8 a1 : Int)]) h13) <| pc ((rfl : ((List.length [(wr_u8 (Int.fdiv a1 (2 ^ 8)) : Int), (wr_u8 a1 : Int)]) : Nat) = (List.length [(wr_u8 (Int.fdiv a1 (2 ^ 8)) : Int), (wr_u8 a1 : Int)]))) <| pn)
        · cases h
      · rcases ite_out h with ⟨h14, h⟩ | ⟨h14, h⟩
        · rcases ite_out h with ⟨h15, h⟩ | ⟨h15, h⟩
          · injection h with h; subst h; exact runLp_sound mixedOrders (live := [2, 6, 7, 8, 35, 36]) (ids := [0, 1]) (π := [.dec true, .frz [1], .obj [] (.arr 5 [(wr_u8 (Int.fdiv a2 (2 ^ 8)) : Int), (wr_u8 a2 : Int)] (List.length [(wr_u8 (Int.fdiv a2 (2 ^ 8)) : Int), (wr_u8 a2 : Int)]) false), .obj [] (.arr 5 (l9 ++ [(wr_u8 (Int.fdiv a2 (2 ^ 8)) : Int), (wr_u8 a2 : Int)]) (List.length (l9 ++ [(wr_u8 (Int.fdiv a2 (2 ^ 8)) : Int), (wr_u8 a2 : Int)])) false)]) (hx := by kernel_rfl) (hps := pc (h11) <| pc (eq_of_beq h14) <| pc ((show (0 : Int) ≤ 8 from by decide)) <| pc (bs_ob 5 [(wr_u8 (Int.fdiv a2 (2 ^ 8)) : Int), (wr_u8 a2 : Int)]) <| pc (app_ob 5 (n := (List.length l9)) (l := l9) (xs := [(wr_u8 (Int.fdiv a2 (2 ^ 8)) : Int), (wr_u8 a2 : Int)]) h15) <| pc ((rfl : ((List.length [(wr_u8 (Int.fdiv a2 (2 ^ 8)) : Int), (wr_u8 a2 : Int)]) : Nat) = (List.length [(wr_u8 (Int.fdiv a2 (2 ^ 8)) : Int), (wr_u8 a2 : Int)]))) <| pn)
          · cases h
        · rcases ite_out h with ⟨h16, h⟩ | ⟨h16, h⟩
          · rcases ite_out h with ⟨h17, h⟩ | ⟨h17, h⟩
            · injection h with h; subst h; exact runLp_sound mixedOrders (live := [2, 6, 7, 8, 35, 36]) (ids := [0, 1]) (π := [.dec true, .frz [2], .obj [] (.arr 5 [(wr_u8 (Int.fdiv (wr_i64 (8 + (a3.length : Int))) (2 ^ 8)) : Int), (wr_u8 (wr_i64 (8 + (a3.length : Int))) : Int)] (List.length [(wr_u8 (Int.fdiv (wr_i64 (8 + (a3.length : Int))) (2 ^ 8)) : Int), (wr_u8 (wr_i64 (8 + (a3.length : Int))) : Int)]) false), .obj [] (.arr 5 (l9 ++ [(wr_u8 (Int.fdiv (wr_i64 (8 + (a3.length : Int))) (2 ^ 8)) : Int), (wr_u8 (wr_i64 (8 + (a3.length : Int))) : Int)]) (List.length (l9 ++ [(wr_u8 (Int.fdiv (wr_i64 (8 + (a3.length : Int))) (2 ^ 8)) : Int), (wr_u8 (wr_i64 (8 + (a3.length : Int))) : Int)])) false)]) (hx := by kernel_rfl) (hps := pc (h11) <| pc (eq_of_beq h16) <| pc ((show (0 : Int) ≤ 8 from by decide)) <| pc (bs_ob 5 [(wr_u8 (Int.fdiv (wr_i64 (8 + (a3.length : Int))) (2 ^ 8)) : Int), (wr_u8 (wr_i64 (8 + (a3.length : Int))) : Int)]) <| pc (app_ob 5 (n := (List.length l9)) (l := l9) (xs := [(wr_u8 (Int.fdiv (wr_i64 (8 + (a3.length : Int))) (2 ^ 8)) : Int), (wr_u8 (wr_i64 (8 + (a3.length : Int))) : Int)]) h17) <| pc ((rfl : ((List.length [(wr_u8 (Int.fdiv (wr_i64 (8 + (a3.length : Int))) (2 ^ 8)) : Int), (wr_u8 (wr_i64 (8 + (a3.length : Int))) : Int)]) : Nat) = (List.length [(wr_u8 (Int.fdiv (wr_i64 (8 + (a3.length : Int))) (2 ^ 8)) : Int), (wr_u8 (wr_i64 (8 + (a3.length : Int))) : Int)]))) <| pn)
            · cases h
          · rcases ite_out h with ⟨h18, h⟩ | ⟨h18, h⟩
            · rcases ite_out h with ⟨h19, h⟩ | ⟨h19, h⟩
              · injection h with h; subst h; exact runLp_sound mixedOrders (live := [2, 6, 7, 8, 35, 36]) (ids := [0, 1]) (π := [.dec true, .frz [3], .obj [] (.arr 5 [(wr_u8 (Int.fdiv 0 (2 ^ 8)) : Int), (wr_u8 0 : Int)] (List.length [(wr_u8 (Int.fdiv 0 (2 ^ 8)) : Int), (wr_u8 0 : Int)]) false), .obj [] (.arr 5 (l9 ++ [(wr_u8 (Int.fdiv 0 (2 ^ 8)) : Int), (wr_u8 0 : Int)]) (List.length (l9 ++ [(wr_u8 (Int.fdiv 0 (2 ^ 8)) : Int), (wr_u8 0 : Int)])) false)]) (hx := by kernel_rfl) (hps := pc (h11) <| pc (eq_of_beq h18) <| pc ((show (0 : Int) ≤ 8 from by decide)) <| pc (bs_ob 5 [(wr_u8 (Int.fdiv 0 (2 ^ 8)) : Int), (wr_u8 0 : Int)]) <| pc (app_ob 5 (n := (List.length l9)) (l := l9) (xs := [(wr_u8 (Int.fdiv 0 (2 ^ 8)) : Int), (wr_u8 0 : Int)]) h19) <| pc ((rfl : ((List.length [(wr_u8 (Int.fdiv 0 (2 ^ 8)) : Int), (wr_u8 0 : Int)]) : Nat) = (List.length [(wr_u8 (Int.fdiv 0 (2 ^ 8)) : Int), (wr_u8 0 : Int)]))) <| pn)
              · cases h
            · cases h
    · injection h with h; subst h; exact runLp_sound mixedOrders (live := [2, 6, 7, 8]) (ids := [0, 1]) (π := [.dec false]) (hx := by kernel_rfl) (hps := pc (h11) <| pn)
  · exact Ex.noConfusion

theorem k_udp_Put {a1 : Int} {a2 : Int} {a3 : List Int} {r : ((List Int) × Int)} (h : udp_Put a1 a2 a3 = some r) :
    CallsOK Tryz.prog UU 102 [.v (.int .i64 a1), .v (.int .i64 a2), .sl 5 a3] [] ((fun r => match r with | (l28, v29) => .tup [.os 0 (List.length l28), .v (.int .i64 v29)]) r) ((fun r => match r with | (l28, v29) => [.arr 5 l28 (List.length l28) false]) r) := by
  unfold udp_Put at h
  rcases ite_out h with ⟨h4, h⟩ | ⟨h4, h⟩
  · injection h with h; subst h; exact runFn_sound mixedOrders Tryz.func102 rfl (keep := some [1]) (π := [.dec true]) (hrun := by kernel_rfl) (hps := pc (h4) <| pn)
  · rcases ite_out h with ⟨h5, h⟩ | ⟨h5, h⟩
    · injection h with h; subst h; exact runFn_sound mixedOrders Tryz.func102 rfl (keep := some [1]) (π := [.dec false, .dec true]) (hrun := by kernel_rfl) (hps := pc (h4) <| pc (h5) <| pn)
    · rcases ite_out h with ⟨h6, h⟩ | ⟨h6, h⟩
      · injection h with h; subst h; exact runFn_sound mixedOrders Tryz.func102 rfl (keep := some [1]) (π := [.dec false, .dec false, .dec true]) (hrun := by kernel_rfl) (hps := pc (h4) <| pc (h5) <| pc (h6) <| pn)
      · rcases ite_out h with ⟨h7, h⟩ | ⟨h7, h⟩
        · injection h with h; subst h; exact runFn_sound mixedOrders Tryz.func102 rfl (keep := some [1]) (π := [.dec false, .dec false, .dec false, .dec true]) (hrun := by kernel_rfl) (hps := pc (h4) <| pc (h5) <| pc (h6) <| pc (h7) <| pn)
        · rcases ite_out h with ⟨h8, h⟩ | ⟨h8, h⟩
          · injection h with h; subst h; exact runFn_sound mixedOrders Tryz.func102 rfl (keep := some [1]) (π := [.dec false, .dec false, .dec false, .dec false, .dec true]) (hrun := by kernel_rfl) (hps := pc (h4) <| pc (h5) <| pc (h6) <| pc (h7) <| pc (h8) <| pn)
          · obtain ⟨l24, h25, h⟩ := bind_out h
            rcases ite_out h with ⟨h27, h⟩ | ⟨h27, h⟩
            · injection h with h; subst h; exact runFn_sound mixedOrders Tryz.func102 rfl (keep := some [1]) (π := [.dec false, .dec false, .dec false, .dec false, .dec false, .sum [2, 6, 7, 8, 35, 36] [0, 1] (.exit 1) [(2, .sl 5 a3), (6, .os 0 0), (7, .z), (8, .os 1 (List.length l24))] [.n 5, .arr 5 l24 (List.length l24) false], .obj [] (.arr 5 (l24 ++ a3) (List.length (l24 ++ a3)) false)]) (hrun := by kernel_rfl) (hps := pc (h4) <| pc (h5) <| pc (h6) <| pc (h7) <| pc (h8) <| pc (k_udp_Put_L1 _ _ h25) <| pc (app_ob 5 (n := (List.length l24)) (l := l24) (xs := a3) h27) <| pn)
            · cases h

theorem k_ipv4_Put_1 {a1 : Int} {a2 : Int} {r : Bool} (h : ipv4_Put_1 a1 a2 = some r) :
    CallsOK Tryz.prog UU 52 [.v (.int .i64 a1), .v (.int .i64 a2)] [] (.v (.bool r)) [] := by
  unfold ipv4_Put_1 at h
  rcases ite_out h with ⟨h3, h⟩ | ⟨h3, h⟩
  · injection h with h; subst h; exact runFn_sound mixedOrders Tryz.func52 rfl (keep := none) (π := [.dec true]) (hrun := by kernel_rfl) (hps := pc (h3) <| pn)
  · injection h with h; subst h; exact runFn_sound mixedOrders Tryz.func52 rfl (keep := none) (π := [.dec false]) (hrun := by kernel_rfl) (hps := pc (h3) <| pn)

theorem k_ipv4_put_own_L1 {a2 : List Int} : LoopOK Tryz.prog UU 2 23 (subC (codeOf Tryz.f53) [1, 0, 1, 0, 0]) (fun s : (List Int) × Int => match s with | (l3, v4) => ipv4_put_own_L1 a2 l3 v4)
    (fun s : (List Int) × Int => (match s with | (l3, v4) => [(0, .os 0 (List.length l3)), (4, .os 2 0), (7, .os 1 (List.length a2)), (8, .v (.int .i64 ((List.length a2) : Int))), (9, .v (.int .i64 v4))] : Fr DD)) (fun s : (List Int) × Int => (match s with | (l3, v4) => [.arr 5 l3 (List.length l3) false, .arr 3 a2 (List.length a2) false, .n 5] : Heap DD)) (fun r => match r with | l12 => .exit 0) (fun r => match r with | l12 => [(0, .os 0 (List.length l12)), (4, .os 2 0)]) (fun r => match r with | l12 => [.arr 5 l12 (List.length l12) false, .arr 3 a2 (List.length a2) false, .n 5]) := by
  refine loop_sound3 (fun s q h => ?_) (fun r => ?_)
  · obtain ⟨l3, v4⟩ := s; replace h : ipv4_put_own_L1 a2 l3 v4 = some q := h
    unfold ipv4_put_own_L1 at h
    rcases ite_out h with ⟨h5, h⟩ | ⟨h5, h⟩
    · rcases ite_out h with ⟨h6, h⟩ | ⟨h6, h⟩
      · obtain ⟨x7, h8, h⟩ := bind_out h
        rcases ite_out h with ⟨h9, h⟩ | ⟨h9, h⟩
        · injection h with h; subst h; exact runLp_sound mixedOrders (live := [0, 4, 7, 8, 9]) (ids := [0, 1, 2]) (π := [.dec true, .row (c3 x7), .obj [] (.arr 5 [(wr_u8 (Int.fdiv x7 (2 ^ 8)) : Int), (wr_u8 x7 : Int)] (List.length [(wr_u8 (Int.fdiv x7 (2 ^ 8)) : Int), (wr_u8 x7 : Int)]) false), .obj [] (.arr 5 (l3 ++ [(wr_u8 (Int.fdiv x7 (2 ^ 8)) : Int), (wr_u8 x7 : Int)]) (List.length (l3 ++ [(wr_u8 (Int.fdiv x7 (2 ^ 8)) : Int), (wr_u8 x7 : Int)])) false)]) (hx := by kernel_rfl) (hps := pc (h5) <| pc (And.intro (rfl : ((List.length a2) : Nat) = (List.length a2)) (lin_ob h6)) <| pc (And.intro (rfl : ((List.length a2) : Nat) = (List.length a2)) (obn3 h8)) <| pc ((show (0 : Int) ≤ 8 from by decide)) <| pc (bs_ob 5 [(wr_u8 (Int.fdiv x7 (2 ^ 8)) : Int), (wr_u8 x7 : Int)]) <| pc (app_ob 5 (n := (List.length l3)) (l := l3) (xs := [(wr_u8 (Int.fdiv x7 (2 ^ 8)) : Int), (wr_u8 x7 : Int)]) h9) <| pc ((rfl : ((List.length [(wr_u8 (Int.fdiv x7 (2 ^ 8)) : Int), (wr_u8 x7 : Int)]) : Nat) = (List.length [(wr_u8 (Int.fdiv x7 (2 ^ 8)) : Int), (wr_u8 x7 : Int)]))) <| pn)
        · cases h
      · cases h
    · injection h with h; subst h; exact runLp_sound mixedOrders (live := [0, 4]) (ids := [0, 1, 2]) (π := [.dec false]) (hx := by kernel_rfl) (hps := pc (h5) <| pn)
  · exact Ex.noConfusion

theorem k_ipv4_put_own {a1 : List Int} {a2 : List Int} {r : ((List Int))} (h : ipv4_put_own a1 a2 = some r) :
    CallsOK Tryz.prog UU 53 [.os 0 (List.length a1), .os 1 (List.length a2)] [.arr 5 a1 (List.length a1) false, .arr 3 a2 (List.length a2) false] ((fun r => match r with | l15 => .os 0 (List.length l15)) r) ((fun r => match r with | l15 => [.arr 5 l15 (List.length l15) false, .arr 3 a2 (List.length a2) false]) r) := by
  unfold ipv4_put_own at h
  obtain ⟨l12, h13, h⟩ := bind_out h
  injection h with h; subst h; exact runFn_sound mixedOrders Tryz.func53 rfl (keep := some [0, 1]) (π := [.sum [0, 4, 7, 8, 9] [0, 1, 2] (.exit 0) [(0, .os 0 (List.length l12)), (4, .os 2 0)] [.arr 5 l12 (List.length l12) false, .arr 3 a2 (List.length a2) false, .n 5]]) (hrun := by kernel_rfl) (hps := pc ((rfl : ((List.length a2) : Nat) = (List.length a2))) <| pc (k_ipv4_put_own_L1 _ _ h13) <| pn)

theorem k_sum_down_1_own {a1 : Int} {r : (Unit)} (h : sum_down_1_own a1 = some r) :
    CallsOK Tryz.prog UU 152 [.op 0 1 0 0] [.box 3 [.v (.int .i64 a1)] false] ((fun r => match r with | _ => .tup []) r) ((fun r => match r with | _ => [.box 3 [.v (.int .i64 (wr_i64 ((Int.fdiv a1 (2 ^ 16)) + (bits_and .i64 a1 65535))))] false]) r) := by
  unfold sum_down_1_own at h
  injection h with h; subst h; exact runFn_sound mixedOrders Tryz.func152 rfl (keep := some [0]) (π := []) (hrun := by kernel_rfl) (hps := pc ((show (0 : Int) ≤ 16 from by decide)) <| pn)

theorem k_sum_down_L1 : LoopOK Tryz.prog UU 0 10 (subC (codeOf Tryz.f144) [1, 1, 0, 0, 0]) (ρ := Int) (sum_down_L1)
    (fun v2 : Int => ([(1, .op 0 1 0 0), (2, .z), (3, .fn (.func 152) [] [.op 0 1 0 0])] : Fr DD)) (fun v2 : Int => ([.box 3 [.v (.int .i64 v2)] false] : Heap DD)) (fun r => match r with | v8 => .exit 0) (fun r => match r with | v8 => [(1, .op 0 1 0 0), (2, .z)]) (fun r => match r with | v8 => [.box 3 [.v (.int .i64 v8)] false]) := by
  refine loop_sound3 (fun s q h => ?_) (fun r => ?_)
  · replace h : sum_down_L1 s = some q := h; revert h; revert s; intro v2 h
    unfold sum_down_L1 at h
    rcases ite_out h with ⟨h3, h⟩ | ⟨h3, h⟩
    · obtain ⟨r4, h5, h⟩ := bind_out h
      injection h with h; subst h; exact runLp_sound mixedOrders (live := [1, 2, 3]) (ids := [0]) (π := [.dec true, .callm [0] (.tup []) [.box 3 [.v (.int .i64 (wr_i64 ((Int.fdiv v2 (2 ^ 16)) + (bits_and .i64 v2 65535))))] false]]) (hx := by kernel_rfl) (hps := pc (h3) <| pc (k_sum_down_1_own h5) <| pn)
    · injection h with h; subst h; exact runLp_sound mixedOrders (live := [1, 2]) (ids := [0]) (π := [.dec false]) (hx := by kernel_rfl) (hps := pc (h3) <| pn)
  · exact Ex.noConfusion

theorem k_sum_down {a1 : Int} {r : Int} (h : sum_down a1 = some r) :
    CallsOK Tryz.prog UU 144 [.v (.int .i64 a1)] [] (.v (.int .i64 r)) [] := by
  unfold sum_down at h
  obtain ⟨v8, h9, h⟩ := bind_out h
  injection h with h; subst h; exact runFn_sound mixedOrders Tryz.func144 rfl (keep := none) (π := [.sum [1, 2, 3] [0] (.exit 0) [(1, .op 0 1 0 0), (2, .z)] [.box 3 [.v (.int .i64 v8)] false]]) (hrun := by kernel_rfl) (hps := pc (k_sum_down_L1 _ _ h9) <| pn)

theorem k_sum_add_L1 {a1 : List Int} : LoopOK Tryz.prog UU 0 43 (subC (codeOf Tryz.f120) [1, 1, 0, 1, 0, 0]) (fun s : Int × Int => match s with | (v2, v3) => sum_add_L1 a1 v2 v3)
    (fun s : Int × Int => (match s with | (v2, v3) => [(0, .sl 5 a1), (2, .z), (3, .v (.int .i64 v2)), (4, .v (.int .i64 v3))] : Fr DD)) (fun s : Int × Int => (match s with | (v2, v3) => [] : Heap DD)) (fun r => match r with | v10 => .exit 0) (fun r => match r with | v10 => [(0, .sl 5 a1), (2, .z), (3, .v (.int .i64 v10))]) (fun r => match r with | v10 => []) := by
  refine loop_sound3 (fun s q h => ?_) (fun r => ?_)
  · obtain ⟨v2, v3⟩ := s; replace h : sum_add_L1 a1 v2 v3 = some q := h
    unfold sum_add_L1 at h
    rcases ite_out h with ⟨h4, h⟩ | ⟨h4, h⟩
    · obtain ⟨x5, h6, h⟩ := bind_out h
      obtain ⟨x7, h8, h⟩ := bind_out h
      injection h with h; subst h; exact runLp_sound mixedOrders (live := [0, 2, 3, 4]) (ids := []) (π := [.dec true, .row (c5 x5), .row (c5 x7)]) (hx := by kernel_rfl) (hps := pc (h4) <| pc (ob5 h6) <| pc ((show (0 : Int) ≤ 8 from by decide)) <| pc (ob5 h8) <| pn)
    · injection h with h; subst h; exact runLp_sound mixedOrders (live := [0, 2, 3]) (ids := []) (π := [.dec false]) (hx := by kernel_rfl) (hps := pc (h4) <| pn)
  · exact Ex.noConfusion

theorem k_sum_add {a1 : List Int} {r : Int} (h : sum_add a1 = some r) :
    CallsOK Tryz.prog UU 120 [.sl 5 a1] [] (.v (.int .i64 r)) [] := by
  unfold sum_add at h
  obtain ⟨v10, h11, h⟩ := bind_out h
  rcases ite_out h with ⟨h13, h⟩ | ⟨h13, h⟩
  · obtain ⟨x14, h15, h⟩ := bind_out h
    obtain ⟨r16, h17, h⟩ := bind_out h
    injection h with h; subst h; exact runFn_sound mixedOrders Tryz.func120 rfl (keep := none) (π := [.sum [0, 2, 3, 4] [] (.exit 0) [(0, .sl 5 a1), (2, .z), (3, .v (.int .i64 v10))] [], .dec true, .row (c5 x14), .callv (.v (.int .i64 r16))]) (hrun := by kernel_rfl) (hps := pc (k_sum_add_L1 _ _ h11) <| pc (h13) <| pc (ob5 h15) <| pc ((show (0 : Int) ≤ 8 from by decide)) <| pc (k_sum_down h17) <| pn)
  · obtain ⟨r18, h19, h⟩ := bind_out h
    injection h with h; subst h; exact runFn_sound mixedOrders Tryz.func120 rfl (keep := none) (π := [.sum [0, 2, 3, 4] [] (.exit 0) [(0, .sl 5 a1), (2, .z), (3, .v (.int .i64 v10))] [], .dec false, .callv (.v (.int .i64 r18))]) (hrun := by kernel_rfl) (hps := pc (k_sum_add_L1 _ _ h11) <| pc (h13) <| pc (k_sum_down h19) <| pn)

theorem k_sum_Of {a1 : List Int} {r : Int} (h : sum_Of a1 = some r) :
    CallsOK Tryz.prog UU 54 [.sl 5 a1] [] (.v (.int .i64 r)) [] := by
  unfold sum_Of at h
  obtain ⟨r2, h3, h⟩ := bind_out h
  injection h with h; subst h; exact runFn_sound mixedOrders Tryz.func54 rfl (keep := none) (π := [.callv (.v (.int .i64 r2))]) (hrun := by kernel_rfl) (hps := pc (k_sum_add h3) <| pn)

theorem k_ipv4_Put {a1 : Api_Packet} {r : ((List Int) × Int)} (h : ipv4_Put a1 = some r) :
    CallsOK Tryz.prog UU 18 [.agg (c69 a1)] [] ((fun r => match r with | (l27, v28) => .tup [.os 0 (List.length l27), .v (.int .i64 v28)]) r) ((fun r => match r with | (l27, v28) => [.arr 5 l27 (List.length l27) false]) r) := by
  unfold ipv4_Put at h
  obtain ⟨r2, h3, h⟩ := bind_out h
  rcases ite_out h with ⟨h4, h⟩ | ⟨h4, h⟩
  · injection h with h; subst h; exact runFn_sound mixedOrders Tryz.func18 rfl (keep := some [2]) (π := [.callv (.v (.bool r2)), .dec true]) (hrun := by kernel_rfl) (hps := pc (k_ipv4_Put_1 h3) <| pc (h4) <| pn)
  · obtain ⟨r5, h6, h⟩ := bind_out h
    rcases ite_out h with ⟨h7, h⟩ | ⟨h7, h⟩
    · injection h with h; subst h; exact runFn_sound mixedOrders Tryz.func18 rfl (keep := some [2]) (π := [.callv (.v (.bool r2)), .dec false, .callv (.v (.bool r5)), .dec true]) (hrun := by kernel_rfl) (hps := pc (k_ipv4_Put_1 h3) <| pc (h4) <| pc (k_ipv4_Put_1 h6) <| pc (h7) <| pn)
    · obtain ⟨r8, h9, h⟩ := bind_out h
      rcases ite_out h with ⟨h10, h⟩ | ⟨h10, h⟩
      · injection h with h; subst h; exact runFn_sound mixedOrders Tryz.func18 rfl (keep := some [2]) (π := [.callv (.v (.bool r2)), .dec false, .callv (.v (.bool r5)), .dec false, .callv (.v (.bool r8)), .dec true]) (hrun := by kernel_rfl) (hps := pc (k_ipv4_Put_1 h3) <| pc (h4) <| pc (k_ipv4_Put_1 h6) <| pc (h7) <| pc (k_ipv4_Put_1 h9) <| pc (h10) <| pn)
      · obtain ⟨r11, h12, h⟩ := bind_out h
        rcases ite_out h with ⟨h13, h⟩ | ⟨h13, h⟩
        · injection h with h; subst h; exact runFn_sound mixedOrders Tryz.func18 rfl (keep := some [2]) (π := [.callv (.v (.bool r2)), .dec false, .callv (.v (.bool r5)), .dec false, .callv (.v (.bool r8)), .dec false, .callv (.v (.bool r11)), .dec true]) (hrun := by kernel_rfl) (hps := pc (k_ipv4_Put_1 h3) <| pc (h4) <| pc (k_ipv4_Put_1 h6) <| pc (h7) <| pc (k_ipv4_Put_1 h9) <| pc (h10) <| pc (k_ipv4_Put_1 h12) <| pc (h13) <| pn)
        · rcases ite_out h with ⟨h14, h⟩ | ⟨h14, h⟩
          · injection h with h; subst h; exact runFn_sound mixedOrders Tryz.func18 rfl (keep := some [2]) (π := [.callv (.v (.bool r2)), .dec false, .callv (.v (.bool r5)), .dec false, .callv (.v (.bool r8)), .dec false, .callv (.v (.bool r11)), .dec false, .dec true]) (hrun := by kernel_rfl) (hps := pc (k_ipv4_Put_1 h3) <| pc (h4) <| pc (k_ipv4_Put_1 h6) <| pc (h7) <| pc (k_ipv4_Put_1 h9) <| pc (h10) <| pc (k_ipv4_Put_1 h12) <| pc (h13) <| pc (h14) <| pn)
          · obtain ⟨l17, h16, h⟩ := bind_out h
            obtain ⟨r18, h19, h⟩ := bind_out h
            rcases ite_out h with ⟨h20, h⟩ | ⟨h20, h⟩
            · obtain ⟨x21, h22, h⟩ := bind_out h
              rcases ite_out h with ⟨h23, h⟩ | ⟨h23, h⟩
              · obtain ⟨x24, h25, h⟩ := bind_out h
                rcases ite_out h with ⟨h26, h⟩ | ⟨h26, h⟩
                · injection h with h; subst h; exact runFn_sound mixedOrders Tryz.func18 rfl (keep := some [3]) (π := [.callv (.v (.bool r2)), .dec false, .callv (.v (.bool r5)), .dec false, .callv (.v (.bool r8)), .dec false, .callv (.v (.bool r11)), .dec false, .dec false, .obj [] (.arr 3 [(bits_or .i64 17664 a1.tos : Int), (wr_i64 (20 + (a1.body.length : Int)) : Int), a1.id, (0 : Int), (bits_or .i64 (wr_i64 (a1.ttl * 2 ^ 8)) a1.proto : Int), (0 : Int), (wr_i64 (Int.fdiv a1.src (2 ^ 16)) : Int), (wr_i64 a1.src : Int), (wr_i64 (Int.fdiv a1.dst (2 ^ 16)) : Int), (wr_i64 a1.dst : Int)] (List.length [(bits_or .i64 17664 a1.tos : Int), (wr_i64 (20 + (a1.body.length : Int)) : Int), a1.id, (0 : Int), (bits_or .i64 (wr_i64 (a1.ttl * 2 ^ 8)) a1.proto : Int), (0 : Int), (wr_i64 (Int.fdiv a1.src (2 ^ 16)) : Int), (wr_i64 a1.src : Int), (wr_i64 (Int.fdiv a1.dst (2 ^ 16)) : Int), (wr_i64 a1.dst : Int)]) false), .skp, .callm [3, 2] (.os 0 (List.length l17)) [.arr 5 l17 (List.length l17) false, .arr 3 [(bits_or .i64 17664 a1.tos : Int), (wr_i64 (20 + (a1.body.length : Int)) : Int), a1.id, (0 : Int), (bits_or .i64 (wr_i64 (a1.ttl * 2 ^ 8)) a1.proto : Int), (0 : Int), (wr_i64 (Int.fdiv a1.src (2 ^ 16)) : Int), (wr_i64 a1.src : Int), (wr_i64 (Int.fdiv a1.dst (2 ^ 16)) : Int), (wr_i64 a1.dst : Int)] (List.length [(bits_or .i64 17664 a1.tos : Int), (wr_i64 (20 + (a1.body.length : Int)) : Int), a1.id, (0 : Int), (bits_or .i64 (wr_i64 (a1.ttl * 2 ^ 8)) a1.proto : Int), (0 : Int), (wr_i64 (Int.fdiv a1.src (2 ^ 16)) : Int), (wr_i64 a1.src : Int), (wr_i64 (Int.fdiv a1.dst (2 ^ 16)) : Int), (wr_i64 a1.dst : Int)]) false], .callv (.v (.int .i64 r18)), .row (c5 x21), .obj [] (.arr 5 (List.set l17 (Int.toNat 10) (wr_u8 (Int.fdiv r18 (2 ^ 8)) : Int)) (List.length l17) false), .row (c5 x24), .obj [] (.arr 5 (List.set (List.set l17 (Int.toNat 10) (wr_u8 (Int.fdiv r18 (2 ^ 8)) : Int)) (Int.toNat 11) (wr_u8 r18 : Int)) (List.length l17) false), .obj [] (.arr 5 ((List.set (List.set l17 (Int.toNat 10) (wr_u8 (Int.fdiv r18 (2 ^ 8)) : Int)) (Int.toNat 11) (wr_u8 r18 : Int)) ++ a1.body) (List.length ((List.set (List.set l17 (Int.toNat 10) (wr_u8 (Int.fdiv r18 (2 ^ 8)) : Int)) (Int.toNat 11) (wr_u8 r18 : Int)) ++ a1.body)) false)]) (hrun := by kernel_rfl) (hps := pc (k_ipv4_Put_1 h3) <| pc (h4) <| pc (k_ipv4_Put_1 h6) <| pc (h7) <| pc (k_ipv4_Put_1 h9) <| pc (h10) <| pc (k_ipv4_Put_1 h12) <| pc (h13) <| pc (h14) <| pc ((show (0 : Int) ≤ 8 from by decide)) <| pc ((show (0 : Int) ≤ 16 from by decide)) <| pc ((show (0 : Int) ≤ 16 from by decide)) <| pc (bs_ob 3 [(bits_or .i64 17664 a1.tos : Int), (wr_i64 (20 + (a1.body.length : Int)) : Int), a1.id, (0 : Int), (bits_or .i64 (wr_i64 (a1.ttl * 2 ^ 8)) a1.proto : Int), (0 : Int), (wr_i64 (Int.fdiv a1.src (2 ^ 16)) : Int), (wr_i64 a1.src : Int), (wr_i64 (Int.fdiv a1.dst (2 ^ 16)) : Int), (wr_i64 a1.dst : Int)]) <| pc (k_ipv4_put_own h16) <| pc (k_sum_Of h19) <| pc ((rfl : ((List.length l17) : Nat) = (List.length l17))) <| pc ((show (0 : Int) ≤ 8 from by decide)) <| pc (And.intro (rfl : ((List.length l17) : Nat) = (List.length l17)) (lin_ob h20)) <| pc (st_ob (e := 5) (n := (List.length l17)) (l := l17) (i := (Int.toNat 10)) (wr_u8 (Int.fdiv r18 (2 ^ 8)) : Int) [.v (.int .u8 (wr_u8 (Int.fdiv r18 (2 ^ 8))))] (obn5 h22) rfl) <| pc (And.intro (rfl : ((List.length l17) : Nat) = (List.length l17)) (lin_ob h23)) <| pc (st_ob (e := 5) (n := (List.length l17)) (l := List.set l17 (Int.toNat 10) (wr_u8 (Int.fdiv r18 (2 ^ 8)) : Int)) (i := (Int.toNat 11)) (wr_u8 r18 : Int) [.v (.int .u8 (wr_u8 r18))] (obn5 h25) rfl) <| pc (app_ob 5 (n := (List.length l17)) (l := List.set (List.set l17 (Int.toNat 10) (wr_u8 (Int.fdiv r18 (2 ^ 8)) : Int)) (Int.toNat 11) (wr_u8 r18 : Int)) (xs := a1.body) h26) <| pn)
                · cases h
              · cases h
            · cases h

theorem k_mac_Host {a1 : Int} {r : Int} (h : mac_Host a1 = some r) :
    CallsOK Tryz.prog UU 33 [.v (.int .u32 a1)] [] (.v (.int .u64 r)) [] := by
  unfold mac_Host at h
  injection h with h; subst h; exact runFn_sound mixedOrders Tryz.func33 rfl (keep := none) (π := []) (hrun := by kernel_rfl) (hps := pn)

theorem k_vxlan_Wrap {a1 : Int} {a2 : Int} {a3 : Int} {a4 : Api_Frame} {r : ((List Int) × Int)} (h : vxlan_Wrap a1 a2 a3 a4 = some r) :
    CallsOK Tryz.prog UU 41 [.v (.int .u32 a1), .v (.int .u32 a2), .v (.int .i64 a3), .agg (c36 a4)] [] ((fun r => match r with | (l38, v39) => .tup [.os 0 (List.length l38), .v (.int .i64 v39)]) r) ((fun r => match r with | (l38, v39) => [.arr 5 l38 (List.length l38) false]) r) := by
  unfold vxlan_Wrap at h
  obtain ⟨r5, h6, h⟩ := bind_out h
  rcases ite_out h with ⟨h7, h⟩ | ⟨h7, h⟩
  · injection h with h; subst h; exact runFn_sound mixedOrders Tryz.func41 rfl (keep := some [2]) (π := [.callv (.v (.bool r5)), .dec true]) (hrun := by kernel_rfl) (hps := pc (k_tag_Is h6) <| pc (h7) <| pn)
  · obtain ⟨r8, h9, h⟩ := bind_out h
    obtain ⟨l10, v11⟩ := r8
    rcases ite_out h with ⟨h12, h⟩ | ⟨h12, h⟩
    · injection h with h; subst h; exact runFn_sound mixedOrders Tryz.func41 rfl (keep := some [3]) (π := [.callv (.v (.bool r5)), .dec false, .callo (.tup [.os 0 (List.length l10), .v (.int .i64 v11)]) [.arr 5 l10 (List.length l10) false], .dec true]) (hrun := by kernel_rfl) (hps := pc (k_tag_Is h6) <| pc (h7) <| pc (k_ether_Put h9) <| pc (im5 l10) <| pc (h12) <| pn)
    · obtain ⟨r13, h14, h⟩ := bind_out h
      obtain ⟨l15, v16⟩ := r13
      rcases ite_out h with ⟨h17, h⟩ | ⟨h17, h⟩
      · injection h with h; subst h; exact runFn_sound mixedOrders Tryz.func41 rfl (keep := some [4]) (π := [.callv (.v (.bool r5)), .dec false, .callo (.tup [.os 0 (List.length l10), .v (.int .i64 v11)]) [.arr 5 l10 (List.length l10) false], .dec false, .callo (.tup [.os 0 (List.length l15), .v (.int .i64 v16)]) [.arr 5 l15 (List.length l15) false], .dec true]) (hrun := by kernel_rfl) (hps := pc (k_tag_Is h6) <| pc (h7) <| pc (k_ether_Put h9) <| pc (im5 l10) <| pc (h12) <| pc (k_vxlan_Head h14) <| pc (im5 l15) <| pc (h17) <| pn)
      · rcases ite_out h with ⟨h18, h⟩ | ⟨h18, h⟩
        · injection h with h; subst h; exact runFn_sound mixedOrders Tryz.func41 rfl (keep := some [4]) (π := [.callv (.v (.bool r5)), .dec false, .callo (.tup [.os 0 (List.length l10), .v (.int .i64 v11)]) [.arr 5 l10 (List.length l10) false], .dec false, .callo (.tup [.os 0 (List.length l15), .v (.int .i64 v16)]) [.arr 5 l15 (List.length l15) false], .dec false, .dec true]) (hrun := by kernel_rfl) (hps := pc (k_tag_Is h6) <| pc (h7) <| pc (k_ether_Put h9) <| pc (im5 l10) <| pc (h12) <| pc (k_vxlan_Head h14) <| pc (im5 l15) <| pc (h17) <| pc ((rfl : ((List.length l10) : Nat) = (List.length l10))) <| pc (h18) <| pn)
        · obtain ⟨r19, h20, h⟩ := bind_out h
          rcases ite_out h with ⟨h21, h⟩ | ⟨h21, h⟩
          · obtain ⟨r22, h23, h⟩ := bind_out h
            obtain ⟨l24, v25⟩ := r22
            obtain ⟨r26, h27, h⟩ := bind_out h
            obtain ⟨l28, v29⟩ := r26
            obtain ⟨r30, h31, h⟩ := bind_out h
            obtain ⟨r32, h33, h⟩ := bind_out h
            obtain ⟨r34, h35, h⟩ := bind_out h
            obtain ⟨l36, v37⟩ := r34
            injection h with h; subst h; exact runFn_sound mixedOrders Tryz.func41 rfl (keep := some [6]) (π := [.callv (.v (.bool r5)), .dec false, .callo (.tup [.os 0 (List.length l10), .v (.int .i64 v11)]) [.arr 5 l10 (List.length l10) false], .dec false, .callo (.tup [.os 0 (List.length l15), .v (.int .i64 v16)]) [.arr 5 l15 (List.length l15) false], .dec false, .dec false, .callv (.v (.int .i64 r19)), .obj [] (.arr 5 (l15 ++ l10) (List.length (l15 ++ l10)) false), .callo (.tup [.os 0 (List.length l24), .v (.int .i64 v25)]) [.arr 5 l24 (List.length l24) false], .callo (.tup [.os 0 (List.length l28), .v (.int .i64 v29)]) [.arr 5 l28 (List.length l28) false], .callv (.v (.int .u64 r30)), .callv (.v (.int .u64 r32)), .callo (.tup [.os 0 (List.length l36), .v (.int .i64 v37)]) [.arr 5 l36 (List.length l36) false]]) (hrun := by kernel_rfl) (hps := pc (k_tag_Is h6) <| pc (h7) <| pc (k_ether_Put h9) <| pc (im5 l10) <| pc (h12) <| pc (k_vxlan_Head h14) <| pc (im5 l15) <| pc (h17) <| pc ((rfl : ((List.length l10) : Nat) = (List.length l10))) <| pc (h18) <| pc (k_udp_Port h20) <| pc (app_ob 5 (n := (List.length l15)) (l := l15) (xs := l10) h21) <| pc ((rfl : ((List.length l10) : Nat) = (List.length l10))) <| pc (k_udp_Put h23) <| pc (im5 l24) <| pc ((rfl : ((List.length (l15 ++ l10)) : Nat) = (List.length (l15 ++ l10)))) <| pc (k_ipv4_Put h27) <| pc (im5 l28) <| pc ((rfl : ((List.length l24) : Nat) = (List.length l24))) <| pc (k_mac_Host h31) <| pc (k_mac_Host h33) <| pc (k_ether_Put h35) <| pc (im5 l36) <| pc ((rfl : ((List.length l28) : Nat) = (List.length l28))) <| pn)
          · cases h

theorem k_leave_Mesh {a1 : Api_Net} {a2 : Int} {a3 : Int} {a4 : Api_Frame} {r : ((List Int) × Int)} (h : leave_Mesh a1 a2 a3 a4 = some r) :
    CallsOK Tryz.prog UU 14 [.agg (c31 a1), .v (.int .i64 a2), .v (.int .i64 a3), .agg (c36 a4)] [] ((fun r => match r with | (l29, v30) => .tup [.os 0 (List.length l29), .v (.int .i64 v30)]) r) ((fun r => match r with | (l29, v30) => [.arr 5 l29 (List.length l29) false]) r) := by
  unfold leave_Mesh at h
  obtain ⟨r5, h6, h⟩ := bind_out h
  rcases ite_out h with ⟨h7, h⟩ | ⟨h7, h⟩
  · injection h with h; subst h; exact runFn_sound mixedOrders Tryz.func14 rfl (keep := some [3]) (π := [.callv (.v (.bool r5)), .dec true]) (hrun := by kernel_rfl) (hps := pc (k_leave_place h6) <| pc (h7) <| pn)
  · obtain ⟨r8, h9, h⟩ := bind_out h
    rcases ite_out h with ⟨h10, h⟩ | ⟨h10, h⟩
    · injection h with h; subst h; exact runFn_sound mixedOrders Tryz.func14 rfl (keep := some [3]) (π := [.callv (.v (.bool r5)), .dec false, .callv (.v (.bool r8)), .dec true]) (hrun := by kernel_rfl) (hps := pc (k_leave_place h6) <| pc (h7) <| pc (k_leave_place h9) <| pc (h10) <| pn)
    · obtain ⟨r11, h12, h⟩ := bind_out h
      rcases ite_out h with ⟨h13, h⟩ | ⟨h13, h⟩
      · injection h with h; subst h; exact runFn_sound mixedOrders Tryz.func14 rfl (keep := some [3]) (π := [.callv (.v (.bool r5)), .dec false, .callv (.v (.bool r8)), .dec false, .callv (.v (.bool r11)), .dec true]) (hrun := by kernel_rfl) (hps := pc (k_leave_place h6) <| pc (h7) <| pc (k_leave_place h9) <| pc (h10) <| pc (k_names_Right h12) <| pc (h13) <| pn)
      · obtain ⟨x14, h15, h⟩ := bind_out h
        obtain ⟨r16, h17, h⟩ := bind_out h
        rcases ite_out h with ⟨h18, h⟩ | ⟨h18, h⟩
        · injection h with h; subst h; exact runFn_sound mixedOrders Tryz.func14 rfl (keep := some [3]) (π := [.callv (.v (.bool r5)), .dec false, .callv (.v (.bool r8)), .dec false, .callv (.v (.bool r11)), .dec false, .row (c61 x14), .callv (.v (.bool r16)), .dec true]) (hrun := by kernel_rfl) (hps := pc (k_leave_place h6) <| pc (h7) <| pc (k_leave_place h9) <| pc (h10) <| pc (k_names_Right h12) <| pc (h13) <| pc (ob61 h15) <| pc (k_slices_Contains_int h17) <| pc (h18) <| pn)
        · obtain ⟨r19, h20, h⟩ := bind_out h
          obtain ⟨r21, h22, h⟩ := bind_out h
          obtain ⟨x23, h24, h⟩ := bind_out h
          obtain ⟨r25, h26, h⟩ := bind_out h
          obtain ⟨l27, v28⟩ := r25
          injection h with h; subst h; exact runFn_sound mixedOrders Tryz.func14 rfl (keep := some [12]) (π := [.callv (.v (.bool r5)), .dec false, .callv (.v (.bool r8)), .dec false, .callv (.v (.bool r11)), .dec false, .row (c61 x14), .callv (.v (.bool r16)), .dec false, .sum [13] [] .nor [] [.box 31 (c31 a1) false, .box 36 (c36 a4) false, .n 5, .n 89, .n 59, .n 116, .n 61, .n 120, .n 64, .n 66, .n 76, .box 92 [.sl 89 a1.devices, .sl 59 a1.ports, .sl 116 a1.links, .sl 61 a1.domains, .sl 120 a1.statics, .sl 64 a1.floods, .sl 66 a1.vrfs, .sl 76 a1.irbs] false, .arr 5 l27 (List.length l27) false], .callv (.v (.int .u32 r19)), .callv (.v (.int .u32 r21)), .row (c61 x23), .callo (.tup [.os 0 (List.length l27), .v (.int .i64 v28)]) [.arr 5 l27 (List.length l27) false]]) (hrun := by kernel_rfl) (hps := pc (k_leave_place h6) <| pc (h7) <| pc (k_leave_place h9) <| pc (h10) <| pc (k_names_Right h12) <| pc (h13) <| pc (ob61 h15) <| pc (k_slices_Contains_int h17) <| pc (h18) <| pc (k_leave_whole_vtep h20) <| pc (k_leave_whole_vtep h22) <| pc (ob61 h24) <| pc ((rfl : ([.box 31 (c31 a1) false, .box 36 (c36 a4) false, .n 5, .n 89, .n 59, .n 116, .n 61, .n 120, .n 64, .n 66, .n 76, .box 92 [.sl 89 a1.devices, .sl 59 a1.ports, .sl 116 a1.links, .sl 61 a1.domains, .sl 120 a1.statics, .sl 64 a1.floods, .sl 66 a1.vrfs, .sl 76 a1.irbs] false, .arr 5 l27 (List.length l27) false] : Heap DD) = [.box 31 (c31 a1) false, .box 36 (c36 a4) false, .n 5, .n 89, .n 59, .n 116, .n 61, .n 120, .n 64, .n 66, .n 76, .box 92 [.sl 89 a1.devices, .sl 59 a1.ports, .sl 116 a1.links, .sl 61 a1.domains, .sl 120 a1.statics, .sl 64 a1.floods, .sl 66 a1.vrfs, .sl 76 a1.irbs] false, .arr 5 l27 (List.length l27) false])) <| pc (k_vxlan_Wrap h26) <| pc (im5 l27) <| pn)

theorem k_palingref15_Place {a1 : Int} {a2 : Int} {r : Bool} (h : palingref15_Place a1 a2 = some r) :
    CallsOK Tryz.prog UU 26 [.v (.int .i64 a1), .v (.int .i64 a2)] [] (.v (.bool r)) [] := by
  unfold palingref15_Place at h
  rcases ite_out h with ⟨h3, h⟩ | ⟨h3, h⟩
  · injection h with h; subst h; exact runFn_sound mixedOrders Tryz.func26 rfl (keep := none) (π := [.dec true]) (hrun := by kernel_rfl) (hps := pc (h3) <| pn)
  · injection h with h; subst h; exact runFn_sound mixedOrders Tryz.func26 rfl (keep := none) (π := [.dec false]) (hrun := by kernel_rfl) (hps := pc (h3) <| pn)

theorem k_palingref15_At_L1 {a1 : Api_Net} {a2 : Int} {a3 : Int} : LoopOK Tryz.prog UU 0 34 (subC (codeOf Tryz.f79) [1, 0, 1, 0, 0]) (ρ := Int ⊕ Unit) (palingref15_At_L1 a1 a2 a3)
    (fun v4 : Int => ([(1, .v (.int .i64 a2)), (2, .v (.int .i64 a3)), (3, .op 0 1 0 0), (6, .z), (7, .v (.int .i64 v4))] : Fr DD)) (fun v4 : Int => ([.box 31 (c31 a1) false] : Heap DD)) (fun r => match r with | Sum.inl v13 => .ret | Sum.inr _ => .exit 0) (fun r => match r with | Sum.inl v13 => [(6, .v (.int .i64 v13))] | Sum.inr _ => [(6, .z)]) (fun r => match r with | Sum.inl v13 => [] | Sum.inr _ => []) := by
  refine loop_sound3 (fun s q h => ?_) (fun r => ?_)
  · replace h : palingref15_At_L1 a1 a2 a3 s = some q := h; revert h; revert s; intro v4 h
    unfold palingref15_At_L1 at h
    rcases ite_out h with ⟨h5, h⟩ | ⟨h5, h⟩
    · obtain ⟨x6, h7, h⟩ := bind_out h
      rcases ite_out h with ⟨h8, h⟩ | ⟨h8, h⟩
      · obtain ⟨x9, h10, h⟩ := bind_out h
        rcases ite_out h with ⟨h11, h⟩ | ⟨h11, h⟩
        · injection h with h; subst h; exact runLp_sound mixedOrders (live := [6]) (ids := []) (π := [.dec true, .row (c61 x6), .dec true, .row (c61 x9), .dec true]) (hx := by kernel_rfl) (hps := pc (h5) <| pc (ob61 h7) <| pc (h8) <| pc (ob61 h10) <| pc (h11) <| pn)
        · injection h with h; subst h; exact runLp_sound mixedOrders (live := [1, 2, 3, 6, 7]) (ids := [0]) (π := [.dec true, .row (c61 x6), .dec true, .row (c61 x9), .dec false]) (hx := by kernel_rfl) (hps := pc (h5) <| pc (ob61 h7) <| pc (h8) <| pc (ob61 h10) <| pc (h11) <| pn)
      · injection h with h; subst h; exact runLp_sound mixedOrders (live := [1, 2, 3, 6, 7]) (ids := [0]) (π := [.dec true, .row (c61 x6), .dec false]) (hx := by kernel_rfl) (hps := pc (h5) <| pc (ob61 h7) <| pc (h8) <| pn)
    · injection h with h; subst h; exact runLp_sound mixedOrders (live := [6]) (ids := []) (π := [.dec false]) (hx := by kernel_rfl) (hps := pc (h5) <| pn)
  · rcases r with _ | _ <;> exact Ex.noConfusion

theorem k_palingref15_At {a1 : Api_Net} {a2 : Int} {a3 : Int} {r : Int} (h : palingref15_At a1 a2 a3 = some r) :
    CallsOK Tryz.prog UU 79 [.agg (c31 a1), .v (.int .i64 a2), .v (.int .i64 a3)] [] (.v (.int .i64 r)) [] := by
  unfold palingref15_At at h
  obtain ⟨r15, h14, h⟩ := bind_out h
  rcases r15 with v13 | _
  · injection h with h; subst h; exact runFn_sound mixedOrders Tryz.func79 rfl (keep := none) (π := [.sum [1, 2, 3, 6, 7] [0] .ret [(6, .v (.int .i64 v13))] []]) (hrun := by kernel_rfl) (hps := pc (k_palingref15_At_L1 _ _ h14) <| pn)
  · injection h with h; subst h; exact runFn_sound mixedOrders Tryz.func79 rfl (keep := none) (π := [.sum [1, 2, 3, 6, 7] [0] (.exit 0) [(6, .z)] []]) (hrun := by kernel_rfl) (hps := pc (k_palingref15_At_L1 _ _ h14) <| pn)

theorem k_palingref15_In_L1 {a1 : List Int} {a2 : Int} : LoopOK Tryz.prog UU 0 18 (subC (codeOf Tryz.f43) [1, 0, 1, 0, 0]) (ρ := Unit ⊕ Unit) (palingref15_In_L1 a1 a2)
    (fun v3 : Int => ([(0, .sl 3 a1), (1, .v (.int .i64 a2)), (4, .v (.bool false)), (5, .v (.int .i64 v3))] : Fr DD)) (fun v3 : Int => ([] : Heap DD)) (fun r => match r with | Sum.inl _ => .ret | Sum.inr _ => .exit 0) (fun r => match r with | Sum.inl _ => [(4, .v (.bool true))] | Sum.inr _ => [(4, .v (.bool false))]) (fun r => match r with | Sum.inl _ => [] | Sum.inr _ => []) := by
  refine loop_sound3 (fun s q h => ?_) (fun r => ?_)
  · replace h : palingref15_In_L1 a1 a2 s = some q := h; revert h; revert s; intro v3 h
    unfold palingref15_In_L1 at h
    rcases ite_out h with ⟨h4, h⟩ | ⟨h4, h⟩
    · obtain ⟨x5, h6, h⟩ := bind_out h
      rcases ite_out h with ⟨h7, h⟩ | ⟨h7, h⟩
      · injection h with h; subst h; exact runLp_sound mixedOrders (live := [4]) (ids := []) (π := [.dec true, .row (c3 x5), .dec true]) (hx := by kernel_rfl) (hps := pc (h4) <| pc (ob3 h6) <| pc (h7) <| pn)
      · injection h with h; subst h; exact runLp_sound mixedOrders (live := [0, 1, 4, 5]) (ids := []) (π := [.dec true, .row (c3 x5), .dec false]) (hx := by kernel_rfl) (hps := pc (h4) <| pc (ob3 h6) <| pc (h7) <| pn)
    · injection h with h; subst h; exact runLp_sound mixedOrders (live := [4]) (ids := []) (π := [.dec false]) (hx := by kernel_rfl) (hps := pc (h4) <| pn)
  · rcases r with _ | _ <;> exact Ex.noConfusion

theorem k_palingref15_In {a1 : List Int} {a2 : Int} {r : Bool} (h : palingref15_In a1 a2 = some r) :
    CallsOK Tryz.prog UU 43 [.sl 3 a1, .v (.int .i64 a2)] [] (.v (.bool r)) [] := by
  unfold palingref15_In at h
  obtain ⟨r9, h8, h⟩ := bind_out h
  rcases r9 with _ | _
  · injection h with h; subst h; exact runFn_sound mixedOrders Tryz.func43 rfl (keep := none) (π := [.sum [0, 1, 4, 5] [] .ret [(4, .v (.bool true))] []]) (hrun := by kernel_rfl) (hps := pc (k_palingref15_In_L1 _ _ h8) <| pn)
  · injection h with h; subst h; exact runFn_sound mixedOrders Tryz.func43 rfl (keep := none) (π := [.sum [0, 1, 4, 5] [] (.exit 0) [(4, .v (.bool false))] []]) (hrun := by kernel_rfl) (hps := pc (k_palingref15_In_L1 _ _ h8) <| pn)

theorem k_palingref15_peer {a1 : Api_Net} {a2 : Int} {a3 : Int} {r : Bool} (h : palingref15_peer a1 a2 a3 = some r) :
    CallsOK Tryz.prog UU 80 [.agg (c31 a1), .v (.int .i64 a2), .v (.int .i64 a3)] [] (.v (.bool r)) [] := by
  unfold palingref15_peer at h
  obtain ⟨r4, h5, h⟩ := bind_out h
  rcases ite_out h with ⟨h6, h⟩ | ⟨h6, h⟩
  · injection h with h; subst h; exact runFn_sound mixedOrders Tryz.func80 rfl (keep := none) (π := [.callv (.v (.bool r4)), .dec true]) (hrun := by kernel_rfl) (hps := pc (k_palingref15_Place h5) <| pc (h6) <| pn)
  · rcases ite_out h with ⟨h7, h⟩ | ⟨h7, h⟩
    · injection h with h; subst h; exact runFn_sound mixedOrders Tryz.func80 rfl (keep := none) (π := [.callv (.v (.bool r4)), .dec false, .dec true]) (hrun := by kernel_rfl) (hps := pc (k_palingref15_Place h5) <| pc (h6) <| pc (h7) <| pn)
    · obtain ⟨x8, h9, h⟩ := bind_out h
      obtain ⟨x10, h11, h⟩ := bind_out h
      rcases ite_out h with ⟨h12, h⟩ | ⟨h12, h⟩
      · rcases ite_out h with ⟨h13, h⟩ | ⟨h13, h⟩
        · rcases ite_out h with ⟨h14, h⟩ | ⟨h14, h⟩
          · obtain ⟨x15, h16, h⟩ := bind_out h
            rcases ite_out h with ⟨h17, h⟩ | ⟨h17, h⟩
            · obtain ⟨x18, h19, h⟩ := bind_out h
              rcases ite_out h with ⟨h20, h⟩ | ⟨h20, h⟩
              · obtain ⟨r21, h22, h⟩ := bind_out h
                injection h with h; subst h; exact runFn_sound mixedOrders Tryz.func80 rfl (keep := none) (π := [.callv (.v (.bool r4)), .dec false, .dec false, .row (c61 x8), .row (c61 x10), .dec true, .dec true, .dec true, .row (c89 x15), .dec true, .row (c89 x18), .dec true, .callv (.v (.bool r21))]) (hrun := by kernel_rfl) (hps := pc (k_palingref15_Place h5) <| pc (h6) <| pc (h7) <| pc (ob61 h9) <| pc (ob61 h11) <| pc (h12) <| pc (h13) <| pc (h14) <| pc (ob89 h16) <| pc (h17) <| pc (ob89 h19) <| pc (h20) <| pc (k_palingref15_In h22) <| pn)
              · injection h with h; subst h; exact runFn_sound mixedOrders Tryz.func80 rfl (keep := none) (π := [.callv (.v (.bool r4)), .dec false, .dec false, .row (c61 x8), .row (c61 x10), .dec true, .dec true, .dec true, .row (c89 x15), .dec true, .row (c89 x18), .dec false]) (hrun := by kernel_rfl) (hps := pc (k_palingref15_Place h5) <| pc (h6) <| pc (h7) <| pc (ob61 h9) <| pc (ob61 h11) <| pc (h12) <| pc (h13) <| pc (h14) <| pc (ob89 h16) <| pc (h17) <| pc (ob89 h19) <| pc (h20) <| pn)
            · injection h with h; subst h; exact runFn_sound mixedOrders Tryz.func80 rfl (keep := none) (π := [.callv (.v (.bool r4)), .dec false, .dec false, .row (c61 x8), .row (c61 x10), .dec true, .dec true, .dec true, .row (c89 x15), .dec false]) (hrun := by kernel_rfl) (hps := pc (k_palingref15_Place h5) <| pc (h6) <| pc (h7) <| pc (ob61 h9) <| pc (ob61 h11) <| pc (h12) <| pc (h13) <| pc (h14) <| pc (ob89 h16) <| pc (h17) <| pn)
          · injection h with h; subst h; exact runFn_sound mixedOrders Tryz.func80 rfl (keep := none) (π := [.callv (.v (.bool r4)), .dec false, .dec false, .row (c61 x8), .row (c61 x10), .dec true, .dec true, .dec false]) (hrun := by kernel_rfl) (hps := pc (k_palingref15_Place h5) <| pc (h6) <| pc (h7) <| pc (ob61 h9) <| pc (ob61 h11) <| pc (h12) <| pc (h13) <| pc (h14) <| pn)
        · injection h with h; subst h; exact runFn_sound mixedOrders Tryz.func80 rfl (keep := none) (π := [.callv (.v (.bool r4)), .dec false, .dec false, .row (c61 x8), .row (c61 x10), .dec true, .dec false]) (hrun := by kernel_rfl) (hps := pc (k_palingref15_Place h5) <| pc (h6) <| pc (h7) <| pc (ob61 h9) <| pc (ob61 h11) <| pc (h12) <| pc (h13) <| pn)
      · injection h with h; subst h; exact runFn_sound mixedOrders Tryz.func80 rfl (keep := none) (π := [.callv (.v (.bool r4)), .dec false, .dec false, .row (c61 x8), .row (c61 x10), .dec false]) (hrun := by kernel_rfl) (hps := pc (k_palingref15_Place h5) <| pc (h6) <| pc (h7) <| pc (ob61 h9) <| pc (ob61 h11) <| pc (h12) <| pn)

theorem k_palingref15_domains_L1 {a1 : Api_Net} : LoopOK Tryz.prog UU 0 120 (subC (codeOf Tryz.f22) [1, 0, 1, 0, 0]) (ρ := Unit ⊕ Unit) (palingref15_domains_L1 a1)
    (fun v2 : Int => ([(1, .op 0 1 0 0), (2, .v (.bool false)), (3, .v (.int .i64 v2))] : Fr DD)) (fun v2 : Int => ([.box 31 (c31 a1) false] : Heap DD)) (fun r => match r with | Sum.inl _ => .ret | Sum.inr _ => .exit 0) (fun r => match r with | Sum.inl _ => [(2, .v (.bool false))] | Sum.inr _ => [(1, .op 0 1 0 0), (2, .v (.bool false))]) (fun r => match r with | Sum.inl _ => [] | Sum.inr _ => [.box 31 (c31 a1) false]) := by
  refine loop_sound3 (fun s q h => ?_) (fun r => ?_)
  · replace h : palingref15_domains_L1 a1 s = some q := h; revert h; revert s; intro v2 h
    unfold palingref15_domains_L1 at h
    rcases ite_out h with ⟨h3, h⟩ | ⟨h3, h⟩
    · obtain ⟨x4, h5, h⟩ := bind_out h
      obtain ⟨r6, h7, h⟩ := bind_out h
      rcases ite_out h with ⟨h8, h⟩ | ⟨h8, h⟩
      · injection h with h; subst h; exact runLp_sound mixedOrders (live := [2]) (ids := []) (π := [.dec true, .row (c61 x4), .callv (.v (.bool r6)), .dec true]) (hx := by kernel_rfl) (hps := pc (h3) <| pc (ob61 h5) <| pc (k_palingref15_Place h7) <| pc (h8) <| pn)
      · rcases ite_out h with ⟨h9, h⟩ | ⟨h9, h⟩
        · injection h with h; subst h; exact runLp_sound mixedOrders (live := [2]) (ids := []) (π := [.dec true, .row (c61 x4), .callv (.v (.bool r6)), .dec false, .dec true]) (hx := by kernel_rfl) (hps := pc (h3) <| pc (ob61 h5) <| pc (k_palingref15_Place h7) <| pc (h8) <| pc (h9) <| pn)
        · rcases ite_out h with ⟨h10, h⟩ | ⟨h10, h⟩
          · injection h with h; subst h; exact runLp_sound mixedOrders (live := [2]) (ids := []) (π := [.dec true, .row (c61 x4), .callv (.v (.bool r6)), .dec false, .dec false, .dec true]) (hx := by kernel_rfl) (hps := pc (h3) <| pc (ob61 h5) <| pc (k_palingref15_Place h7) <| pc (h8) <| pc (h9) <| pc (h10) <| pn)
          · rcases ite_out h with ⟨h11, h⟩ | ⟨h11, h⟩
            · injection h with h; subst h; exact runLp_sound mixedOrders (live := [2]) (ids := []) (π := [.dec true, .row (c61 x4), .callv (.v (.bool r6)), .dec false, .dec false, .dec false, .dec true]) (hx := by kernel_rfl) (hps := pc (h3) <| pc (ob61 h5) <| pc (k_palingref15_Place h7) <| pc (h8) <| pc (h9) <| pc (h10) <| pc (h11) <| pn)
            · rcases ite_out h with ⟨h12, h⟩ | ⟨h12, h⟩
              · injection h with h; subst h; exact runLp_sound mixedOrders (live := [2]) (ids := []) (π := [.dec true, .row (c61 x4), .callv (.v (.bool r6)), .dec false, .dec false, .dec false, .dec false, .dec true]) (hx := by kernel_rfl) (hps := pc (h3) <| pc (ob61 h5) <| pc (k_palingref15_Place h7) <| pc (h8) <| pc (h9) <| pc (h10) <| pc (h11) <| pc (h12) <| pn)
              · obtain ⟨r13, h14, h⟩ := bind_out h
                rcases ite_out h with ⟨h15, h⟩ | ⟨h15, h⟩
                · injection h with h; subst h; exact runLp_sound mixedOrders (live := [2]) (ids := []) (π := [.dec true, .row (c61 x4), .callv (.v (.bool r6)), .dec false, .dec false, .dec false, .dec false, .dec false, .callv (.v (.int .i64 r13)), .dec true]) (hx := by kernel_rfl) (hps := pc (h3) <| pc (ob61 h5) <| pc (k_palingref15_Place h7) <| pc (h8) <| pc (h9) <| pc (h10) <| pc (h11) <| pc (h12) <| pc (k_palingref15_At h14) <| pc (h15) <| pn)
                · rcases ite_out h with ⟨h16, h⟩ | ⟨h16, h⟩
                  · obtain ⟨r17, h18, h⟩ := bind_out h
                    rcases ite_out h with ⟨h19, h⟩ | ⟨h19, h⟩
                    · injection h with h; subst h; exact runLp_sound mixedOrders (live := [2]) (ids := []) (π := [.dec true, .row (c61 x4), .callv (.v (.bool r6)), .dec false, .dec false, .dec false, .dec false, .dec false, .callv (.v (.int .i64 r13)), .dec false, .dec true, .callv (.v (.bool r17)), .dec true]) (hx := by kernel_rfl) (hps := pc (h3) <| pc (ob61 h5) <| pc (k_palingref15_Place h7) <| pc (h8) <| pc (h9) <| pc (h10) <| pc (h11) <| pc (h12) <| pc (k_palingref15_At h14) <| pc (h15) <| pc (h16) <| pc (k_palingref15_Place h18) <| pc (h19) <| pn)
                    · obtain ⟨x20, h21, h⟩ := bind_out h
                      rcases ite_out h with ⟨h22, h⟩ | ⟨h22, h⟩
                      · injection h with h; subst h; exact runLp_sound mixedOrders (live := [2]) (ids := []) (π := [.dec true, .row (c61 x4), .callv (.v (.bool r6)), .dec false, .dec false, .dec false, .dec false, .dec false, .callv (.v (.int .i64 r13)), .dec false, .dec true, .callv (.v (.bool r17)), .dec false, .row (c76 x20), .dec true]) (hx := by kernel_rfl) (hps := pc (h3) <| pc (ob61 h5) <| pc (k_palingref15_Place h7) <| pc (h8) <| pc (h9) <| pc (h10) <| pc (h11) <| pc (h12) <| pc (k_palingref15_At h14) <| pc (h15) <| pc (h16) <| pc (k_palingref15_Place h18) <| pc (h19) <| pc (ob76 h21) <| pc (h22) <| pn)
                      · injection h with h; subst h; exact runLp_sound mixedOrders (live := [1, 2, 3]) (ids := [0]) (π := [.dec true, .row (c61 x4), .callv (.v (.bool r6)), .dec false, .dec false, .dec false, .dec false, .dec false, .callv (.v (.int .i64 r13)), .dec false, .dec true, .callv (.v (.bool r17)), .dec false, .row (c76 x20), .dec false]) (hx := by kernel_rfl) (hps := pc (h3) <| pc (ob61 h5) <| pc (k_palingref15_Place h7) <| pc (h8) <| pc (h9) <| pc (h10) <| pc (h11) <| pc (h12) <| pc (k_palingref15_At h14) <| pc (h15) <| pc (h16) <| pc (k_palingref15_Place h18) <| pc (h19) <| pc (ob76 h21) <| pc (h22) <| pn)
                  · injection h with h; subst h; exact runLp_sound mixedOrders (live := [1, 2, 3]) (ids := [0]) (π := [.dec true, .row (c61 x4), .callv (.v (.bool r6)), .dec false, .dec false, .dec false, .dec false, .dec false, .callv (.v (.int .i64 r13)), .dec false, .dec false]) (hx := by kernel_rfl) (hps := pc (h3) <| pc (ob61 h5) <| pc (k_palingref15_Place h7) <| pc (h8) <| pc (h9) <| pc (h10) <| pc (h11) <| pc (h12) <| pc (k_palingref15_At h14) <| pc (h15) <| pc (h16) <| pn)
    · injection h with h; subst h; exact runLp_sound mixedOrders (live := [1, 2]) (ids := [0]) (π := [.dec false]) (hx := by kernel_rfl) (hps := pc (h3) <| pn)
  · rcases r with _ | _ <;> exact Ex.noConfusion

theorem k_palingref15_domains_L3 {a1 : Api_Net} {v25 : Int} {x27 : Api_Domain} : LoopOK Tryz.prog UU 0 120 (subC (codeOf Tryz.f22) [1, 1, 0, 1, 0, 0, 1, 0, 0, 1, 1, 0, 0]) (ρ := Unit ⊕ Unit) (palingref15_domains_L3 a1 v25 x27)
    (fun v29 : Int => ([(1, .op 0 1 0 0), (2, .v (.bool false)), (5, .v (.int .i64 v25)), (6, .op 1 1 0 0), (7, .v (.int .i64 v29))] : Fr DD)) (fun v29 : Int => ([.box 31 (c31 a1) false, .box 61 (c61 x27) false] : Heap DD)) (fun r => match r with | Sum.inl _ => .ret | Sum.inr _ => .exit 4) (fun r => match r with | Sum.inl _ => [(2, .v (.bool false))] | Sum.inr _ => [(1, .op 0 1 0 0), (2, .v (.bool false)), (5, .v (.int .i64 v25))]) (fun r => match r with | Sum.inl _ => [] | Sum.inr _ => [.box 31 (c31 a1) false]) := by
  refine loop_sound3 (fun s q h => ?_) (fun r => ?_)
  · replace h : palingref15_domains_L3 a1 v25 x27 s = some q := h; revert h; revert s; intro v29 h
    unfold palingref15_domains_L3 at h
    rcases ite_out h with ⟨h30, h⟩ | ⟨h30, h⟩
    · obtain ⟨x31, h32, h⟩ := bind_out h
      obtain ⟨r33, h34, h⟩ := bind_out h
      rcases ite_out h with ⟨h35, h⟩ | ⟨h35, h⟩
      · injection h with h; subst h; exact runLp_sound mixedOrders (live := [2]) (ids := []) (π := [.dec true, .row (c3 x31), .callv (.v (.bool r33)), .dec true]) (hx := by kernel_rfl) (hps := pc (h30) <| pc (ob3 h32) <| pc (k_palingref15_peer h34) <| pc (h35) <| pn)
      · rcases ite_out h with ⟨h36, h⟩ | ⟨h36, h⟩
        · obtain ⟨x37, h38, h⟩ := bind_out h
          obtain ⟨r39, h40, h⟩ := bind_out h
          rcases ite_out h with ⟨h41, h⟩ | ⟨h41, h⟩
          · injection h with h; subst h; exact runLp_sound mixedOrders (live := [2]) (ids := []) (π := [.dec true, .row (c3 x31), .callv (.v (.bool r33)), .dec false, .row (c3 x37), .callv (.v (.bool r39)), .dec true]) (hx := by kernel_rfl) (hps := pc (h30) <| pc (ob3 h32) <| pc (k_palingref15_peer h34) <| pc (h35) <| pc (sl_ob h36) <| pc (ob3 h38) <| pc (k_palingref15_In h40) <| pc (h41) <| pn)
          · injection h with h; subst h; exact runLp_sound mixedOrders (live := [1, 2, 5, 6, 7]) (ids := [0, 1]) (π := [.dec true, .row (c3 x31), .callv (.v (.bool r33)), .dec false, .row (c3 x37), .callv (.v (.bool r39)), .dec false]) (hx := by kernel_rfl) (hps := pc (h30) <| pc (ob3 h32) <| pc (k_palingref15_peer h34) <| pc (h35) <| pc (sl_ob h36) <| pc (ob3 h38) <| pc (k_palingref15_In h40) <| pc (h41) <| pn)
        · cases h
    · injection h with h; subst h; exact runLp_sound mixedOrders (live := [1, 2, 5]) (ids := [0]) (π := [.dec false]) (hx := by kernel_rfl) (hps := pc (h30) <| pn)
  · rcases r with _ | _ <;> exact Ex.noConfusion

theorem k_palingref15_domains_L2 {a1 : Api_Net} : LoopOK Tryz.prog UU 0 120 (subC (codeOf Tryz.f22) [1, 1, 0, 1, 0, 0]) (ρ := Unit ⊕ Unit) (palingref15_domains_L2 a1)
    (fun v25 : Int => ([(1, .op 0 1 0 0), (2, .v (.bool false)), (5, .v (.int .i64 v25))] : Fr DD)) (fun v25 : Int => ([.box 31 (c31 a1) false] : Heap DD)) (fun r => match r with | Sum.inl _ => .ret | Sum.inr _ => .exit 2) (fun r => match r with | Sum.inl _ => [(2, .v (.bool false))] | Sum.inr _ => [(2, .v (.bool false))]) (fun r => match r with | Sum.inl _ => [] | Sum.inr _ => []) := by
  refine loop_sound3 (fun s q h => ?_) (fun r => ?_)
  · replace h : palingref15_domains_L2 a1 s = some q := h; revert h; revert s; intro v25 h
    unfold palingref15_domains_L2 at h
    rcases ite_out h with ⟨h26, h⟩ | ⟨h26, h⟩
    · obtain ⟨x27, h28, h⟩ := bind_out h
      obtain ⟨r43, h42, h⟩ := bind_out h
      rcases r43 with _ | _
      · injection h with h; subst h; exact runLp_sound mixedOrders (live := [2]) (ids := []) (π := [.dec true, .row (c61 x27), .sum [1, 2, 5, 6, 7] [0, 2] .ret [(2, .v (.bool false))] []]) (hx := by kernel_rfl) (hps := pc (h26) <| pc (ob61 h28) <| pc (k_palingref15_domains_L3 _ _ h42) <| pn)
      · injection h with h; subst h; exact runLp_sound mixedOrders (live := [1, 2, 5]) (ids := [0]) (π := [.dec true, .row (c61 x27), .sum [1, 2, 5, 6, 7] [0, 2] (.exit 4) [(1, .op 0 1 0 0), (2, .v (.bool false)), (5, .v (.int .i64 v25))] [.box 31 (c31 a1) false]]) (hx := by kernel_rfl) (hps := pc (h26) <| pc (ob61 h28) <| pc (k_palingref15_domains_L3 _ _ h42) <| pn)
    · injection h with h; subst h; exact runLp_sound mixedOrders (live := [2]) (ids := []) (π := [.dec false]) (hx := by kernel_rfl) (hps := pc (h26) <| pn)
  · rcases r with _ | _ <;> exact Ex.noConfusion

theorem k_palingref15_domains {a1 : Api_Net} {r : Bool} (h : palingref15_domains a1 = some r) :
    CallsOK Tryz.prog UU 22 [.agg (c31 a1)] [] (.v (.bool r)) [] := by
  unfold palingref15_domains at h
  obtain ⟨r24, h23, h⟩ := bind_out h
  rcases r24 with _ | _
  · injection h with h; subst h; exact runFn_sound mixedOrders Tryz.func22 rfl (keep := none) (π := [.sum [1, 2, 3] [0] .ret [(2, .v (.bool false))] []]) (hrun := by kernel_rfl) (hps := pc (k_palingref15_domains_L1 _ _ h23) <| pn)
  · obtain ⟨r45, h44, h⟩ := bind_out h
    rcases r45 with _ | _
    · injection h with h; subst h; exact runFn_sound mixedOrders Tryz.func22 rfl (keep := none) (π := [.sum [1, 2, 3] [0] (.exit 0) [(1, .op 0 1 0 0), (2, .v (.bool false))] [.box 31 (c31 a1) false], .sum [1, 2, 5] [0] .ret [(2, .v (.bool false))] []]) (hrun := by kernel_rfl) (hps := pc (k_palingref15_domains_L1 _ _ h23) <| pc (k_palingref15_domains_L2 _ _ h44) <| pn)
    · injection h with h; subst h; exact runFn_sound mixedOrders Tryz.func22 rfl (keep := none) (π := [.sum [1, 2, 3] [0] (.exit 0) [(1, .op 0 1 0 0), (2, .v (.bool false))] [.box 31 (c31 a1) false], .sum [1, 2, 5] [0] (.exit 2) [(2, .v (.bool false))] []]) (hrun := by kernel_rfl) (hps := pc (k_palingref15_domains_L1 _ _ h23) <| pc (k_palingref15_domains_L2 _ _ h44) <| pn)

theorem k_palingref03_Rising_L1 {a1 : List Int} {a2 : Int} {a3 : Int} : LoopOK Tryz.prog UU 0 52 (subC (codeOf Tryz.f134) [1, 1, 0, 1, 0, 0]) (ρ := Unit ⊕ Unit) (palingref03_Rising_L1 a1 a2 a3)
    (fun v6 : Int => ([(0, .sl 3 a1), (1, .v (.int .i64 a2)), (2, .v (.int .i64 a3)), (6, .v (.bool false)), (7, .v (.int .i64 v6))] : Fr DD)) (fun v6 : Int => ([] : Heap DD)) (fun r => match r with | Sum.inl _ => .ret | Sum.inr _ => .exit 0) (fun r => match r with | Sum.inl _ => [(6, .v (.bool false))] | Sum.inr _ => [(6, .v (.bool false))]) (fun r => match r with | Sum.inl _ => [] | Sum.inr _ => []) := by
  refine loop_sound3 (fun s q h => ?_) (fun r => ?_)
  · replace h : palingref03_Rising_L1 a1 a2 a3 s = some q := h; revert h; revert s; intro v6 h
    unfold palingref03_Rising_L1 at h
    rcases ite_out h with ⟨h7, h⟩ | ⟨h7, h⟩
    · obtain ⟨x8, h9, h⟩ := bind_out h
      rcases ite_out h with ⟨h10, h⟩ | ⟨h10, h⟩
      · injection h with h; subst h; exact runLp_sound mixedOrders (live := [6]) (ids := []) (π := [.dec true, .row (c3 x8), .dec true]) (hx := by kernel_rfl) (hps := pc (h7) <| pc (ob3 h9) <| pc (h10) <| pn)
      · obtain ⟨x11, h12, h⟩ := bind_out h
        rcases ite_out h with ⟨h13, h⟩ | ⟨h13, h⟩
        · injection h with h; subst h; exact runLp_sound mixedOrders (live := [6]) (ids := []) (π := [.dec true, .row (c3 x8), .dec false, .row (c3 x11), .dec true]) (hx := by kernel_rfl) (hps := pc (h7) <| pc (ob3 h9) <| pc (h10) <| pc (ob3 h12) <| pc (h13) <| pn)
        · rcases ite_out h with ⟨h14, h⟩ | ⟨h14, h⟩
          · obtain ⟨x15, h16, h⟩ := bind_out h
            obtain ⟨x17, h18, h⟩ := bind_out h
            rcases ite_out h with ⟨h19, h⟩ | ⟨h19, h⟩
            · injection h with h; subst h; exact runLp_sound mixedOrders (live := [6]) (ids := []) (π := [.dec true, .row (c3 x8), .dec false, .row (c3 x11), .dec false, .dec true, .row (c3 x15), .row (c3 x17), .dec true]) (hx := by kernel_rfl) (hps := pc (h7) <| pc (ob3 h9) <| pc (h10) <| pc (ob3 h12) <| pc (h13) <| pc (h14) <| pc (ob3 h16) <| pc (ob3 h18) <| pc (h19) <| pn)
            · injection h with h; subst h; exact runLp_sound mixedOrders (live := [0, 1, 2, 6, 7]) (ids := []) (π := [.dec true, .row (c3 x8), .dec false, .row (c3 x11), .dec false, .dec true, .row (c3 x15), .row (c3 x17), .dec false]) (hx := by kernel_rfl) (hps := pc (h7) <| pc (ob3 h9) <| pc (h10) <| pc (ob3 h12) <| pc (h13) <| pc (h14) <| pc (ob3 h16) <| pc (ob3 h18) <| pc (h19) <| pn)
          · injection h with h; subst h; exact runLp_sound mixedOrders (live := [0, 1, 2, 6, 7]) (ids := []) (π := [.dec true, .row (c3 x8), .dec false, .row (c3 x11), .dec false, .dec false]) (hx := by kernel_rfl) (hps := pc (h7) <| pc (ob3 h9) <| pc (h10) <| pc (ob3 h12) <| pc (h13) <| pc (h14) <| pn)
    · injection h with h; subst h; exact runLp_sound mixedOrders (live := [6]) (ids := []) (π := [.dec false]) (hx := by kernel_rfl) (hps := pc (h7) <| pn)
  · rcases r with _ | _ <;> exact Ex.noConfusion

theorem k_palingref03_Rising {a1 : List Int} {a2 : Int} {a3 : Int} {r : Bool} (h : palingref03_Rising a1 a2 a3 = some r) :
    CallsOK Tryz.prog UU 134 [.sl 3 a1, .v (.int .i64 a2), .v (.int .i64 a3)] [] (.v (.bool r)) [] := by
  unfold palingref03_Rising at h
  rcases ite_out h with ⟨h4, h⟩ | ⟨h4, h⟩
  · injection h with h; subst h; exact runFn_sound mixedOrders Tryz.func134 rfl (keep := none) (π := [.dec true]) (hrun := by kernel_rfl) (hps := pc (h4) <| pn)
  · rcases ite_out h with ⟨h5, h⟩ | ⟨h5, h⟩
    · injection h with h; subst h; exact runFn_sound mixedOrders Tryz.func134 rfl (keep := none) (π := [.dec false, .dec true]) (hrun := by kernel_rfl) (hps := pc (h4) <| pc (h5) <| pn)
    · obtain ⟨r21, h20, h⟩ := bind_out h
      rcases r21 with _ | _
      · injection h with h; subst h; exact runFn_sound mixedOrders Tryz.func134 rfl (keep := none) (π := [.dec false, .dec false, .sum [0, 1, 2, 6, 7] [] .ret [(6, .v (.bool false))] []]) (hrun := by kernel_rfl) (hps := pc (h4) <| pc (h5) <| pc (k_palingref03_Rising_L1 _ _ h20) <| pn)
      · injection h with h; subst h; exact runFn_sound mixedOrders Tryz.func134 rfl (keep := none) (π := [.dec false, .dec false, .sum [0, 1, 2, 6, 7] [] (.exit 0) [(6, .v (.bool false))] []]) (hrun := by kernel_rfl) (hps := pc (h4) <| pc (h5) <| pc (k_palingref03_Rising_L1 _ _ h20) <| pn)

theorem k_palingref15_rising {a1 : List Int} {a2 : Int} {r : Bool} (h : palingref15_rising a1 a2 = some r) :
    CallsOK Tryz.prog UU 81 [.sl 3 a1, .v (.int .i64 a2)] [] (.v (.bool r)) [] := by
  unfold palingref15_rising at h
  rcases ite_out h with ⟨h3, h⟩ | ⟨h3, h⟩
  · injection h with h; subst h; exact runFn_sound mixedOrders Tryz.func81 rfl (keep := none) (π := [.dec true]) (hrun := by kernel_rfl) (hps := pc (h3) <| pn)
  · obtain ⟨r4, h5, h⟩ := bind_out h
    injection h with h; subst h; exact runFn_sound mixedOrders Tryz.func81 rfl (keep := none) (π := [.dec false, .callv (.v (.bool r4))]) (hrun := by kernel_rfl) (hps := pc (h3) <| pc (k_palingref03_Rising h5) <| pn)

theorem k_palingref15_ports_J2 {a1 : Api_Net} {v2 : Int} {x4 : Api_Port} {r : Unit ⊕ Unit} (h : palingref15_ports_J2 a1 v2 x4 = some r) :
    ExecOK Tryz.prog UU 0 120 (subC (codeOf Tryz.f23) [1, 0, 1, 0, 0, 1, 0, 0, 1, 1, 0]) [(1, .op 0 1 0 0), (2, .v (.bool false)), (3, .v (.int .i64 v2)), (4, .op 1 1 0 0)] [.box 31 (c31 a1) false, .box 59 (c59 x4) false] ((fun r => match r with | Sum.inl _ => .ret | Sum.inr _ => .nor) r) ((fun r => match r with | Sum.inl _ => [(2, .v (.bool false))] | Sum.inr _ => [(1, .op 0 1 0 0), (2, .v (.bool false)), (3, .v (.int .i64 v2)), (4, .op 1 1 0 0)]) r) ((fun r => match r with | Sum.inl _ => [] | Sum.inr _ => [.box 31 (c31 a1) false, .box 59 (c59 x4) false]) r) := by
  unfold palingref15_ports_J2 at h
  rcases ite_out h with ⟨h17, h⟩ | ⟨h17, h⟩
  · rcases ite_out h with ⟨h18, h⟩ | ⟨h18, h⟩
    · injection h with h; subst h; exact runLp_sound mixedOrders (live := [2]) (ids := []) (π := [.dec true, .dec true]) (hx := by kernel_rfl) (hps := pc (h17) <| pc (h18) <| pn)
    · rcases ite_out h with ⟨h19, h⟩ | ⟨h19, h⟩
      · obtain ⟨r20, h21, h⟩ := bind_out h
        rcases ite_out h with ⟨h22, h⟩ | ⟨h22, h⟩
        · injection h with h; subst h; exact runLp_sound mixedOrders (live := [2]) (ids := []) (π := [.dec true, .dec false, .dec true, .callv (.v (.int .i64 r20)), .dec true]) (hx := by kernel_rfl) (hps := pc (h17) <| pc (h18) <| pc (h19) <| pc (k_palingref15_At h21) <| pc (h22) <| pn)
        · injection h with h; subst h; exact runLp_sound mixedOrders (live := [1, 2, 3, 4]) (ids := [0, 1]) (π := [.dec true, .dec false, .dec true, .callv (.v (.int .i64 r20)), .dec false]) (hx := by kernel_rfl) (hps := pc (h17) <| pc (h18) <| pc (h19) <| pc (k_palingref15_At h21) <| pc (h22) <| pn)
      · injection h with h; subst h; exact runLp_sound mixedOrders (live := [1, 2, 3, 4]) (ids := [0, 1]) (π := [.dec true, .dec false, .dec false]) (hx := by kernel_rfl) (hps := pc (h17) <| pc (h18) <| pc (h19) <| pn)
  · rcases ite_out h with ⟨h23, h⟩ | ⟨h23, h⟩
    · obtain ⟨r24, h25, h⟩ := bind_out h
      rcases ite_out h with ⟨h26, h⟩ | ⟨h26, h⟩
      · injection h with h; subst h; exact runLp_sound mixedOrders (live := [2]) (ids := []) (π := [.dec false, .dec true, .callv (.v (.int .i64 r24)), .dec true]) (hx := by kernel_rfl) (hps := pc (h17) <| pc (h23) <| pc (k_palingref15_At h25) <| pc (h26) <| pn)
      · injection h with h; subst h; exact runLp_sound mixedOrders (live := [1, 2, 3, 4]) (ids := [0, 1]) (π := [.dec false, .dec true, .callv (.v (.int .i64 r24)), .dec false]) (hx := by kernel_rfl) (hps := pc (h17) <| pc (h23) <| pc (k_palingref15_At h25) <| pc (h26) <| pn)
    · injection h with h; subst h; exact runLp_sound mixedOrders (live := [1, 2, 3, 4]) (ids := [0, 1]) (π := [.dec false, .dec false]) (hx := by kernel_rfl) (hps := pc (h17) <| pc (h23) <| pn)

theorem k_palingref15_ports_L3 {a1 : Api_Net} {v2 : Int} {x4 : Api_Port} : LoopOK Tryz.prog UU 0 120 (subC (codeOf Tryz.f23) [1, 0, 1, 0, 0, 1, 0, 0, 1, 1, 1, 0, 1, 0, 0]) (ρ := Unit ⊕ Unit) (palingref15_ports_L3 a1 v2 x4)
    (fun v29 : Int => ([(1, .op 0 1 0 0), (2, .v (.bool false)), (3, .v (.int .i64 v2)), (4, .op 1 1 0 0), (5, .v (.int .i64 v29))] : Fr DD)) (fun v29 : Int => ([.box 31 (c31 a1) false, .box 59 (c59 x4) false] : Heap DD)) (fun r => match r with | Sum.inl _ => .ret | Sum.inr _ => .exit 2) (fun r => match r with | Sum.inl _ => [(2, .v (.bool false))] | Sum.inr _ => [(1, .op 0 1 0 0), (2, .v (.bool false)), (3, .v (.int .i64 v2)), (4, .op 1 1 0 0)]) (fun r => match r with | Sum.inl _ => [] | Sum.inr _ => [.box 31 (c31 a1) false, .box 59 (c59 x4) false]) := by
  refine loop_sound3 (fun s q h => ?_) (fun r => ?_)
  · replace h : palingref15_ports_L3 a1 v2 x4 s = some q := h; revert h; revert s; intro v29 h
    unfold palingref15_ports_L3 at h
    rcases ite_out h with ⟨h30, h⟩ | ⟨h30, h⟩
    · obtain ⟨x31, h32, h⟩ := bind_out h
      obtain ⟨r33, h34, h⟩ := bind_out h
      rcases ite_out h with ⟨h35, h⟩ | ⟨h35, h⟩
      · injection h with h; subst h; exact runLp_sound mixedOrders (live := [2]) (ids := []) (π := [.dec true, .row (c3 x31), .callv (.v (.int .i64 r33)), .dec true]) (hx := by kernel_rfl) (hps := pc (h30) <| pc (ob3 h32) <| pc (k_palingref15_At h34) <| pc (h35) <| pn)
      · injection h with h; subst h; exact runLp_sound mixedOrders (live := [1, 2, 3, 4, 5]) (ids := [0, 1]) (π := [.dec true, .row (c3 x31), .callv (.v (.int .i64 r33)), .dec false]) (hx := by kernel_rfl) (hps := pc (h30) <| pc (ob3 h32) <| pc (k_palingref15_At h34) <| pc (h35) <| pn)
    · injection h with h; subst h; exact runLp_sound mixedOrders (live := [1, 2, 3, 4]) (ids := [0, 1]) (π := [.dec false]) (hx := by kernel_rfl) (hps := pc (h30) <| pn)
  · rcases r with _ | _ <;> exact Ex.noConfusion

theorem k_palingref15_ports_L1 {a1 : Api_Net} : LoopOK Tryz.prog UU 0 120 (subC (codeOf Tryz.f23) [1, 0, 1, 0, 0]) (ρ := Unit ⊕ Unit) (palingref15_ports_L1 a1)
    (fun v2 : Int => ([(1, .op 0 1 0 0), (2, .v (.bool false)), (3, .v (.int .i64 v2))] : Fr DD)) (fun v2 : Int => ([.box 31 (c31 a1) false] : Heap DD)) (fun r => match r with | Sum.inl _ => .ret | Sum.inr _ => .exit 0) (fun r => match r with | Sum.inl _ => [(2, .v (.bool false))] | Sum.inr _ => [(2, .v (.bool false))]) (fun r => match r with | Sum.inl _ => [] | Sum.inr _ => []) := by
  refine loop_sound3 (fun s q h => ?_) (fun r => ?_)
  · replace h : palingref15_ports_L1 a1 s = some q := h; revert h; revert s; intro v2 h
    unfold palingref15_ports_L1 at h
    rcases ite_out h with ⟨h3, h⟩ | ⟨h3, h⟩
    · obtain ⟨x4, h5, h⟩ := bind_out h
      obtain ⟨r6, h7, h⟩ := bind_out h
      rcases ite_out h with ⟨h8, h⟩ | ⟨h8, h⟩
      · injection h with h; subst h; exact runLp_sound mixedOrders (live := [2]) (ids := []) (π := [.dec true, .row (c59 x4), .callv (.v (.bool r6)), .dec true]) (hx := by kernel_rfl) (hps := pc (h3) <| pc (ob59 h5) <| pc (k_palingref15_Place h7) <| pc (h8) <| pn)
      · rcases ite_out h with ⟨h9, h⟩ | ⟨h9, h⟩
        · injection h with h; subst h; exact runLp_sound mixedOrders (live := [2]) (ids := []) (π := [.dec true, .row (c59 x4), .callv (.v (.bool r6)), .dec false, .dec true]) (hx := by kernel_rfl) (hps := pc (h3) <| pc (ob59 h5) <| pc (k_palingref15_Place h7) <| pc (h8) <| pc (h9) <| pn)
        · rcases ite_out h with ⟨h10, h⟩ | ⟨h10, h⟩
          · injection h with h; subst h; exact runLp_sound mixedOrders (live := [2]) (ids := []) (π := [.dec true, .row (c59 x4), .callv (.v (.bool r6)), .dec false, .dec false, .dec true]) (hx := by kernel_rfl) (hps := pc (h3) <| pc (ob59 h5) <| pc (k_palingref15_Place h7) <| pc (h8) <| pc (h9) <| pc (h10) <| pn)
          · obtain ⟨r11, h12, h⟩ := bind_out h
            rcases ite_out h with ⟨h13, h⟩ | ⟨h13, h⟩
            · injection h with h; subst h; exact runLp_sound mixedOrders (live := [2]) (ids := []) (π := [.dec true, .row (c59 x4), .callv (.v (.bool r6)), .dec false, .dec false, .dec false, .callv (.v (.bool r11)), .dec true]) (hx := by kernel_rfl) (hps := pc (h3) <| pc (ob59 h5) <| pc (k_palingref15_Place h7) <| pc (h8) <| pc (h9) <| pc (h10) <| pc (k_palingref15_rising h12) <| pc (h13) <| pn)
            · obtain ⟨r14, h15, h⟩ := bind_out h
              rcases ite_out h with ⟨h16, h⟩ | ⟨h16, h⟩
              · injection h with h; subst h; exact runLp_sound mixedOrders (live := [2]) (ids := []) (π := [.dec true, .row (c59 x4), .callv (.v (.bool r6)), .dec false, .dec false, .dec false, .callv (.v (.bool r11)), .dec false, .callv (.v (.bool r14)), .dec true]) (hx := by kernel_rfl) (hps := pc (h3) <| pc (ob59 h5) <| pc (k_palingref15_Place h7) <| pc (h8) <| pc (h9) <| pc (h10) <| pc (k_palingref15_rising h12) <| pc (h13) <| pc (k_palingref15_In h15) <| pc (h16) <| pn)
              · obtain ⟨r28, h27, h⟩ := bind_out h
                rcases r28 with _ | _
                · injection h with h; subst h; exact runLp_sound mixedOrders (live := [2]) (ids := []) (π := [.dec true, .row (c59 x4), .callv (.v (.bool r6)), .dec false, .dec false, .dec false, .callv (.v (.bool r11)), .dec false, .callv (.v (.bool r14)), .dec false, .cut [1, 2, 3, 4] [0, 2] .ret [(2, .v (.bool false))] []]) (hx := by kernel_rfl) (hps := pc (h3) <| pc (ob59 h5) <| pc (k_palingref15_Place h7) <| pc (h8) <| pc (h9) <| pc (h10) <| pc (k_palingref15_rising h12) <| pc (h13) <| pc (k_palingref15_In h15) <| pc (h16) <| pc (k_palingref15_ports_J2 h27) <| pn)
                · obtain ⟨r37, h36, h⟩ := bind_out h
                  rcases r37 with _ | _
                  · injection h with h; subst h; exact runLp_sound mixedOrders (live := [2]) (ids := []) (π := [.dec true, .row (c59 x4), .callv (.v (.bool r6)), .dec false, .dec false, .dec false, .callv (.v (.bool r11)), .dec false, .callv (.v (.bool r14)), .dec false, .cut [1, 2, 3, 4] [0, 2] .nor [(1, .op 0 1 0 0), (2, .v (.bool false)), (3, .v (.int .i64 v2)), (4, .op 1 1 0 0)] [.box 31 (c31 a1) false, .box 59 (c59 x4) false], .sum [1, 2, 3, 4, 5] [0, 1] .ret [(2, .v (.bool false))] []]) (hx := by kernel_rfl) (hps := pc (h3) <| pc (ob59 h5) <| pc (k_palingref15_Place h7) <| pc (h8) <| pc (h9) <| pc (h10) <| pc (k_palingref15_rising h12) <| pc (h13) <| pc (k_palingref15_In h15) <| pc (h16) <| pc (k_palingref15_ports_J2 h27) <| pc (k_palingref15_ports_L3 _ _ h36) <| pn)
                  · rcases ite_out h with ⟨h38, h⟩ | ⟨h38, h⟩
                    · injection h with h; subst h; exact runLp_sound mixedOrders (live := [1, 2, 3]) (ids := [0]) (π := [.dec true, .row (c59 x4), .callv (.v (.bool r6)), .dec false, .dec false, .dec false, .callv (.v (.bool r11)), .dec false, .callv (.v (.bool r14)), .dec false, .cut [1, 2, 3, 4] [0, 2] .nor [(1, .op 0 1 0 0), (2, .v (.bool false)), (3, .v (.int .i64 v2)), (4, .op 1 1 0 0)] [.box 31 (c31 a1) false, .box 59 (c59 x4) false], .sum [1, 2, 3, 4, 5] [0, 1] (.exit 2) [(1, .op 0 1 0 0), (2, .v (.bool false)), (3, .v (.int .i64 v2)), (4, .op 1 1 0 0)] [.box 31 (c31 a1) false, .box 59 (c59 x4) false], .dec true]) (hx := by kernel_rfl) (hps := pc (h3) <| pc (ob59 h5) <| pc (k_palingref15_Place h7) <| pc (h8) <| pc (h9) <| pc (h10) <| pc (k_palingref15_rising h12) <| pc (h13) <| pc (k_palingref15_In h15) <| pc (h16) <| pc (k_palingref15_ports_J2 h27) <| pc (k_palingref15_ports_L3 _ _ h36) <| pc (h38) <| pn)
                    · obtain ⟨r39, h40, h⟩ := bind_out h
                      rcases ite_out h with ⟨h41, h⟩ | ⟨h41, h⟩
                      · injection h with h; subst h; exact runLp_sound mixedOrders (live := [2]) (ids := []) (π := [.dec true, .row (c59 x4), .callv (.v (.bool r6)), .dec false, .dec false, .dec false, .callv (.v (.bool r11)), .dec false, .callv (.v (.bool r14)), .dec false, .cut [1, 2, 3, 4] [0, 2] .nor [(1, .op 0 1 0 0), (2, .v (.bool false)), (3, .v (.int .i64 v2)), (4, .op 1 1 0 0)] [.box 31 (c31 a1) false, .box 59 (c59 x4) false], .sum [1, 2, 3, 4, 5] [0, 1] (.exit 2) [(1, .op 0 1 0 0), (2, .v (.bool false)), (3, .v (.int .i64 v2)), (4, .op 1 1 0 0)] [.box 31 (c31 a1) false, .box 59 (c59 x4) false], .dec false, .callv (.v (.bool r39)), .dec true]) (hx := by kernel_rfl) (hps := pc (h3) <| pc (ob59 h5) <| pc (k_palingref15_Place h7) <| pc (h8) <| pc (h9) <| pc (h10) <| pc (k_palingref15_rising h12) <| pc (h13) <| pc (k_palingref15_In h15) <| pc (h16) <| pc (k_palingref15_ports_J2 h27) <| pc (k_palingref15_ports_L3 _ _ h36) <| pc (h38) <| pc (k_palingref15_Place h40) <| pc (h41) <| pn)
                      · obtain ⟨x42, h43, h⟩ := bind_out h
                        rcases ite_out h with ⟨h44, h⟩ | ⟨h44, h⟩
                        · obtain ⟨x45, h46, h⟩ := bind_out h
                          rcases ite_out h with ⟨h47, h⟩ | ⟨h47, h⟩
                          · injection h with h; subst h; exact runLp_sound mixedOrders (live := [2]) (ids := []) (π := [.dec true, .row (c59 x4), .callv (.v (.bool r6)), .dec false, .dec false, .dec false, .callv (.v (.bool r11)), .dec false, .callv (.v (.bool r14)), .dec false, .cut [1, 2, 3, 4] [0, 2] .nor [(1, .op 0 1 0 0), (2, .v (.bool false)), (3, .v (.int .i64 v2)), (4, .op 1 1 0 0)] [.box 31 (c31 a1) false, .box 59 (c59 x4) false], .sum [1, 2, 3, 4, 5] [0, 1] (.exit 2) [(1, .op 0 1 0 0), (2, .v (.bool false)), (3, .v (.int .i64 v2)), (4, .op 1 1 0 0)] [.box 31 (c31 a1) false, .box 59 (c59 x4) false], .dec false, .callv (.v (.bool r39)), .dec false, .row (c116 x42), .dec true, .row (c116 x45), .dec true]) (hx := by kernel_rfl) (hps := pc (h3) <| pc (ob59 h5) <| pc (k_palingref15_Place h7) <| pc (h8) <| pc (h9) <| pc (h10) <| pc (k_palingref15_rising h12) <| pc (h13) <| pc (k_palingref15_In h15) <| pc (h16) <| pc (k_palingref15_ports_J2 h27) <| pc (k_palingref15_ports_L3 _ _ h36) <| pc (h38) <| pc (k_palingref15_Place h40) <| pc (h41) <| pc (ob116 h43) <| pc (h44) <| pc (ob116 h46) <| pc (h47) <| pn)
                          · injection h with h; subst h; exact runLp_sound mixedOrders (live := [1, 2, 3]) (ids := [0]) (π := [.dec true, .row (c59 x4), .callv (.v (.bool r6)), .dec false, .dec false, .dec false, .callv (.v (.bool r11)), .dec false, .callv (.v (.bool r14)), .dec false, .cut [1, 2, 3, 4] [0, 2] .nor [(1, .op 0 1 0 0), (2, .v (.bool false)), (3, .v (.int .i64 v2)), (4, .op 1 1 0 0)] [.box 31 (c31 a1) false, .box 59 (c59 x4) false], .sum [1, 2, 3, 4, 5] [0, 1] (.exit 2) [(1, .op 0 1 0 0), (2, .v (.bool false)), (3, .v (.int .i64 v2)), (4, .op 1 1 0 0)] [.box 31 (c31 a1) false, .box 59 (c59 x4) false], .dec false, .callv (.v (.bool r39)), .dec false, .row (c116 x42), .dec true, .row (c116 x45), .dec false]) (hx := by kernel_rfl) (hps := pc (h3) <| pc (ob59 h5) <| pc (k_palingref15_Place h7) <| pc (h8) <| pc (h9) <| pc (h10) <| pc (k_palingref15_rising h12) <| pc (h13) <| pc (k_palingref15_In h15) <| pc (h16) <| pc (k_palingref15_ports_J2 h27) <| pc (k_palingref15_ports_L3 _ _ h36) <| pc (h38) <| pc (k_palingref15_Place h40) <| pc (h41) <| pc (ob116 h43) <| pc (h44) <| pc (ob116 h46) <| pc (h47) <| pn)
                        · injection h with h; subst h; exact runLp_sound mixedOrders (live := [1, 2, 3]) (ids := [0]) (π := [.dec true, .row (c59 x4), .callv (.v (.bool r6)), .dec false, .dec false, .dec false, .callv (.v (.bool r11)), .dec false, .callv (.v (.bool r14)), .dec false, .cut [1, 2, 3, 4] [0, 2] .nor [(1, .op 0 1 0 0), (2, .v (.bool false)), (3, .v (.int .i64 v2)), (4, .op 1 1 0 0)] [.box 31 (c31 a1) false, .box 59 (c59 x4) false], .sum [1, 2, 3, 4, 5] [0, 1] (.exit 2) [(1, .op 0 1 0 0), (2, .v (.bool false)), (3, .v (.int .i64 v2)), (4, .op 1 1 0 0)] [.box 31 (c31 a1) false, .box 59 (c59 x4) false], .dec false, .callv (.v (.bool r39)), .dec false, .row (c116 x42), .dec false]) (hx := by kernel_rfl) (hps := pc (h3) <| pc (ob59 h5) <| pc (k_palingref15_Place h7) <| pc (h8) <| pc (h9) <| pc (h10) <| pc (k_palingref15_rising h12) <| pc (h13) <| pc (k_palingref15_In h15) <| pc (h16) <| pc (k_palingref15_ports_J2 h27) <| pc (k_palingref15_ports_L3 _ _ h36) <| pc (h38) <| pc (k_palingref15_Place h40) <| pc (h41) <| pc (ob116 h43) <| pc (h44) <| pn)
    · injection h with h; subst h; exact runLp_sound mixedOrders (live := [2]) (ids := []) (π := [.dec false]) (hx := by kernel_rfl) (hps := pc (h3) <| pn)
  · rcases r with _ | _ <;> exact Ex.noConfusion

theorem k_palingref15_ports {a1 : Api_Net} {r : Bool} (h : palingref15_ports a1 = some r) :
    CallsOK Tryz.prog UU 23 [.agg (c31 a1)] [] (.v (.bool r)) [] := by
  unfold palingref15_ports at h
  obtain ⟨r49, h48, h⟩ := bind_out h
  rcases r49 with _ | _
  · injection h with h; subst h; exact runFn_sound mixedOrders Tryz.func23 rfl (keep := none) (π := [.sum [1, 2, 3] [0] .ret [(2, .v (.bool false))] []]) (hrun := by kernel_rfl) (hps := pc (k_palingref15_ports_L1 _ _ h48) <| pn)
  · injection h with h; subst h; exact runFn_sound mixedOrders Tryz.func23 rfl (keep := none) (π := [.sum [1, 2, 3] [0] (.exit 0) [(2, .v (.bool false))] []]) (hrun := by kernel_rfl) (hps := pc (k_palingref15_ports_L1 _ _ h48) <| pn)

theorem k_palingref15_links_L1 {a1 : Api_Net} : LoopOK Tryz.prog UU 0 70 (subC (codeOf Tryz.f24) [1, 0, 1, 0, 0]) (ρ := Unit ⊕ Unit) (palingref15_links_L1 a1)
    (fun v2 : Int => ([(1, .op 0 1 0 0), (2, .v (.bool false)), (3, .v (.int .i64 v2))] : Fr DD)) (fun v2 : Int => ([.box 31 (c31 a1) false] : Heap DD)) (fun r => match r with | Sum.inl _ => .ret | Sum.inr _ => .exit 0) (fun r => match r with | Sum.inl _ => [(2, .v (.bool false))] | Sum.inr _ => [(2, .v (.bool false))]) (fun r => match r with | Sum.inl _ => [] | Sum.inr _ => []) := by
  refine loop_sound3 (fun s q h => ?_) (fun r => ?_)
  · replace h : palingref15_links_L1 a1 s = some q := h; revert h; revert s; intro v2 h
    unfold palingref15_links_L1 at h
    rcases ite_out h with ⟨h3, h⟩ | ⟨h3, h⟩
    · obtain ⟨x4, h5, h⟩ := bind_out h
      obtain ⟨r6, h7, h⟩ := bind_out h
      rcases ite_out h with ⟨h8, h⟩ | ⟨h8, h⟩
      · injection h with h; subst h; exact runLp_sound mixedOrders (live := [2]) (ids := []) (π := [.dec true, .row (c116 x4), .callv (.v (.bool r6)), .dec true]) (hx := by kernel_rfl) (hps := pc (h3) <| pc (ob116 h5) <| pc (k_palingref15_Place h7) <| pc (h8) <| pn)
      · obtain ⟨r9, h10, h⟩ := bind_out h
        rcases ite_out h with ⟨h11, h⟩ | ⟨h11, h⟩
        · injection h with h; subst h; exact runLp_sound mixedOrders (live := [2]) (ids := []) (π := [.dec true, .row (c116 x4), .callv (.v (.bool r6)), .dec false, .callv (.v (.bool r9)), .dec true]) (hx := by kernel_rfl) (hps := pc (h3) <| pc (ob116 h5) <| pc (k_palingref15_Place h7) <| pc (h8) <| pc (k_palingref15_Place h10) <| pc (h11) <| pn)
        · obtain ⟨x12, h13, h⟩ := bind_out h
          obtain ⟨x14, h15, h⟩ := bind_out h
          rcases ite_out h with ⟨h16, h⟩ | ⟨h16, h⟩
          · injection h with h; subst h; exact runLp_sound mixedOrders (live := [2]) (ids := []) (π := [.dec true, .row (c116 x4), .callv (.v (.bool r6)), .dec false, .callv (.v (.bool r9)), .dec false, .row (c59 x12), .row (c59 x14), .dec true]) (hx := by kernel_rfl) (hps := pc (h3) <| pc (ob116 h5) <| pc (k_palingref15_Place h7) <| pc (h8) <| pc (k_palingref15_Place h10) <| pc (h11) <| pc (ob59 h13) <| pc (ob59 h15) <| pc (h16) <| pn)
          · obtain ⟨x17, h18, h⟩ := bind_out h
            rcases ite_out h with ⟨h19, h⟩ | ⟨h19, h⟩
            · injection h with h; subst h; exact runLp_sound mixedOrders (live := [2]) (ids := []) (π := [.dec true, .row (c116 x4), .callv (.v (.bool r6)), .dec false, .callv (.v (.bool r9)), .dec false, .row (c59 x12), .row (c59 x14), .dec false, .row (c59 x17), .dec true]) (hx := by kernel_rfl) (hps := pc (h3) <| pc (ob116 h5) <| pc (k_palingref15_Place h7) <| pc (h8) <| pc (k_palingref15_Place h10) <| pc (h11) <| pc (ob59 h13) <| pc (ob59 h15) <| pc (h16) <| pc (ob59 h18) <| pc (h19) <| pn)
            · obtain ⟨x20, h21, h⟩ := bind_out h
              rcases ite_out h with ⟨h22, h⟩ | ⟨h22, h⟩
              · injection h with h; subst h; exact runLp_sound mixedOrders (live := [2]) (ids := []) (π := [.dec true, .row (c116 x4), .callv (.v (.bool r6)), .dec false, .callv (.v (.bool r9)), .dec false, .row (c59 x12), .row (c59 x14), .dec false, .row (c59 x17), .dec false, .row (c59 x20), .dec true]) (hx := by kernel_rfl) (hps := pc (h3) <| pc (ob116 h5) <| pc (k_palingref15_Place h7) <| pc (h8) <| pc (k_palingref15_Place h10) <| pc (h11) <| pc (ob59 h13) <| pc (ob59 h15) <| pc (h16) <| pc (ob59 h18) <| pc (h19) <| pc (ob59 h21) <| pc (h22) <| pn)
              · injection h with h; subst h; exact runLp_sound mixedOrders (live := [1, 2, 3]) (ids := [0]) (π := [.dec true, .row (c116 x4), .callv (.v (.bool r6)), .dec false, .callv (.v (.bool r9)), .dec false, .row (c59 x12), .row (c59 x14), .dec false, .row (c59 x17), .dec false, .row (c59 x20), .dec false]) (hx := by kernel_rfl) (hps := pc (h3) <| pc (ob116 h5) <| pc (k_palingref15_Place h7) <| pc (h8) <| pc (k_palingref15_Place h10) <| pc (h11) <| pc (ob59 h13) <| pc (ob59 h15) <| pc (h16) <| pc (ob59 h18) <| pc (h19) <| pc (ob59 h21) <| pc (h22) <| pn)
    · injection h with h; subst h; exact runLp_sound mixedOrders (live := [2]) (ids := []) (π := [.dec false]) (hx := by kernel_rfl) (hps := pc (h3) <| pn)
  · rcases r with _ | _ <;> exact Ex.noConfusion

theorem k_palingref15_links {a1 : Api_Net} {r : Bool} (h : palingref15_links a1 = some r) :
    CallsOK Tryz.prog UU 24 [.agg (c31 a1)] [] (.v (.bool r)) [] := by
  unfold palingref15_links at h
  obtain ⟨r24, h23, h⟩ := bind_out h
  rcases r24 with _ | _
  · injection h with h; subst h; exact runFn_sound mixedOrders Tryz.func24 rfl (keep := none) (π := [.sum [1, 2, 3] [0] .ret [(2, .v (.bool false))] []]) (hrun := by kernel_rfl) (hps := pc (k_palingref15_links_L1 _ _ h23) <| pn)
  · injection h with h; subst h; exact runFn_sound mixedOrders Tryz.func24 rfl (keep := none) (π := [.sum [1, 2, 3] [0] (.exit 0) [(2, .v (.bool false))] []]) (hrun := by kernel_rfl) (hps := pc (k_palingref15_links_L1 _ _ h23) <| pn)

end Go.Eng
