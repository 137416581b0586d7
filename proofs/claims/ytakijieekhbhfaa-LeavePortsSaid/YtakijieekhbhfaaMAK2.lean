/- Part of the proof of LeavePorts: printed mirrors of the functions, or their contracts. No conditions. -/
import Derived.Test.YtakijieekhbhfaaMAK1
set_option linter.unusedVariables false
set_option maxRecDepth 100000
namespace Go.Eng
open Go Go.Proofs
theorem k_leave_At_J1 {a1 : Api_Net} {a4 : Api_Frame} {x14 : Api_Port} {x16 : Api_Domain} {r : Bool} (h : leave_At_J1 a1 a4 x14 x16 = some r) :
    ExecOK Try.prog UU 0 78 (subC (codeOf Try.f36) [1, 1, 1, 1, 1, 0, 0, 0]) [(7, .op 0 1 0 0), (8, .os 1 0), (9, .z), (10, .op 2 1 0 0), (11, .op 3 1 0 0), (12, .op 4 1 0 0), (13, .fn (.func 75) [.agg [.sl 138 a1.devices, .sl 96 a1.ports, .sl 153 a1.links, .sl 85 a1.domains, .sl 166 a1.statics, .sl 128 a1.floods, .sl 71 a1.vrfs, .sl 68 a1.irbs]] [])] [.box 37 (c37 a4) false, .n 5, .box 96 (c96 x14) false, .box 85 (c85 x16) false, .box 141 [.sl 138 a1.devices, .sl 96 a1.ports, .sl 153 a1.links, .sl 85 a1.domains, .sl 166 a1.statics, .sl 128 a1.floods, .sl 71 a1.vrfs, .sl 68 a1.irbs] false] ((fun r => match r with | v22 => .nor) r) ((fun r => match r with | v22 => [(7, .op 0 1 0 0), (8, .os 1 0), (9, .z), (10, .op 2 1 0 0), (11, .op 3 1 0 0), (12, .op 4 1 0 0), (13, .fn (.func 75) [.agg [.sl 138 a1.devices, .sl 96 a1.ports, .sl 153 a1.links, .sl 85 a1.domains, .sl 166 a1.statics, .sl 128 a1.floods, .sl 71 a1.vrfs, .sl 68 a1.irbs]] []), (47, .v (.bool v22))]) r) ((fun r => match r with | v22 => [.box 37 (c37 a4) false, .n 5, .box 96 (c96 x14) false, .box 85 (c85 x16) false, .box 141 [.sl 138 a1.devices, .sl 96 a1.ports, .sl 153 a1.links, .sl 85 a1.domains, .sl 166 a1.statics, .sl 128 a1.floods, .sl 71 a1.vrfs, .sl 68 a1.irbs] false]) r) := by
  unfold leave_At_J1 at h
  rcases ite_out h with ⟨h18, h⟩ | ⟨h18, h⟩
  · injection h with h; subst h; exact runLp_sound mixedOrders (live := [7, 8, 9, 10, 11, 12, 13, 47]) (ids := [0, 1, 2, 3, 4]) (π := [.dec true]) (hx := by kernel_rfl) (hps := pc (h18) <| pn)
  · obtain ⟨r19, h20, h⟩ := bind_out h
    injection h with h; subst h; exact runLp_sound mixedOrders (live := [7, 8, 9, 10, 11, 12, 13, 47]) (ids := [0, 1, 2, 3, 4]) (π := [.dec false, .callv (.v (.bool r19))]) (hx := by kernel_rfl) (hps := pc (h18) <| pc (k_names_Member h20) <| pn)

theorem k_leave_At {a1 : Api_Net} {a2 : Int} {a3 : Int} {a4 : Api_Frame} {r : ((List Int) × Int)} (h : leave_At a1 a2 a3 a4 = some r) :
    CallsOK Try.prog UU 36 [.agg (c61 a1), .v (.int .i64 a2), .v (.int .i64 a3), .agg (c37 a4)] [] ((fun r => match r with | (l38, v39) => .tup [.os 0 (List.length l38), .v (.int .i64 v39)]) r) ((fun r => match r with | (l38, v39) => [.arr 5 l38 (List.length l38) false]) r) := by
  unfold leave_At at h
  obtain ⟨r5, h6, h⟩ := bind_out h
  rcases ite_out h with ⟨h7, h⟩ | ⟨h7, h⟩
  · injection h with h; subst h; exact runFn_sound mixedOrders Try.func36 rfl (keep := some [3]) (π := [.callv (.v (.bool r5)), .dec true]) (hrun := by kernel_rfl) (hps := pc (k_leave_place h6) <| pc (h7) <| pn)
  · obtain ⟨r8, h9, h⟩ := bind_out h
    rcases ite_out h with ⟨h10, h⟩ | ⟨h10, h⟩
    · injection h with h; subst h; exact runFn_sound mixedOrders Try.func36 rfl (keep := some [3]) (π := [.callv (.v (.bool r5)), .dec false, .callv (.v (.bool r8)), .dec true]) (hrun := by kernel_rfl) (hps := pc (k_leave_place h6) <| pc (h7) <| pc (k_leave_place h9) <| pc (h10) <| pn)
    · obtain ⟨r11, h12, h⟩ := bind_out h
      rcases ite_out h with ⟨h13, h⟩ | ⟨h13, h⟩
      · injection h with h; subst h; exact runFn_sound mixedOrders Try.func36 rfl (keep := some [3]) (π := [.callv (.v (.bool r5)), .dec false, .callv (.v (.bool r8)), .dec false, .callv (.v (.bool r11)), .dec true]) (hrun := by kernel_rfl) (hps := pc (k_leave_place h6) <| pc (h7) <| pc (k_leave_place h9) <| pc (h10) <| pc (k_names_Right h12) <| pc (h13) <| pn)
      · obtain ⟨x14, h15, h⟩ := bind_out h
        obtain ⟨x16, h17, h⟩ := bind_out h
        obtain ⟨v22, h23, h⟩ := bind_out h
        rcases ite_out h with ⟨h25, h⟩ | ⟨h25, h⟩
        · injection h with h; subst h; exact runFn_sound mixedOrders Try.func36 rfl (keep := some [5]) (π := [.callv (.v (.bool r5)), .dec false, .callv (.v (.bool r8)), .dec false, .callv (.v (.bool r11)), .dec false, .row (c96 x14), .row (c85 x16), .skp, .skp, .skp, .cut [7, 8, 9, 10, 11, 12, 13] [1, 2, 3, 5, 14] .nor [(7, .op 0 1 0 0), (8, .os 1 0), (9, .z), (10, .op 2 1 0 0), (11, .op 3 1 0 0), (12, .op 4 1 0 0), (13, .fn (.func 75) [.agg [.sl 138 a1.devices, .sl 96 a1.ports, .sl 153 a1.links, .sl 85 a1.domains, .sl 166 a1.statics, .sl 128 a1.floods, .sl 71 a1.vrfs, .sl 68 a1.irbs]] []), (47, .v (.bool v22))] [.box 37 (c37 a4) false, .n 5, .box 96 (c96 x14) false, .box 85 (c85 x16) false, .box 141 [.sl 138 a1.devices, .sl 96 a1.ports, .sl 153 a1.links, .sl 85 a1.domains, .sl 166 a1.statics, .sl 128 a1.floods, .sl 71 a1.vrfs, .sl 68 a1.irbs] false], .dec true]) (hrun := by kernel_rfl) (hps := pc (k_leave_place h6) <| pc (h7) <| pc (k_leave_place h9) <| pc (h10) <| pc (k_names_Right h12) <| pc (h13) <| pc (ob96 h15) <| pc (ob85 h17) <| pc (k_leave_At_J1 h23) <| pc (h25) <| pn)
        · obtain ⟨r26, h27, h⟩ := bind_out h
          rcases ite_out h with ⟨h28, h⟩ | ⟨h28, h⟩
          · injection h with h; subst h; exact runFn_sound mixedOrders Try.func36 rfl (keep := some [5]) (π := [.callv (.v (.bool r5)), .dec false, .callv (.v (.bool r8)), .dec false, .callv (.v (.bool r11)), .dec false, .row (c96 x14), .row (c85 x16), .skp, .skp, .skp, .cut [7, 8, 9, 10, 11, 12, 13] [1, 2, 3, 5, 14] .nor [(7, .op 0 1 0 0), (8, .os 1 0), (9, .z), (10, .op 2 1 0 0), (11, .op 3 1 0 0), (12, .op 4 1 0 0), (13, .fn (.func 75) [.agg [.sl 138 a1.devices, .sl 96 a1.ports, .sl 153 a1.links, .sl 85 a1.domains, .sl 166 a1.statics, .sl 128 a1.floods, .sl 71 a1.vrfs, .sl 68 a1.irbs]] []), (47, .v (.bool v22))] [.box 37 (c37 a4) false, .n 5, .box 96 (c96 x14) false, .box 85 (c85 x16) false, .box 141 [.sl 138 a1.devices, .sl 96 a1.ports, .sl 153 a1.links, .sl 85 a1.domains, .sl 166 a1.statics, .sl 128 a1.floods, .sl 71 a1.vrfs, .sl 68 a1.irbs] false], .dec false, .callv (.v (.bool r26)), .dec true]) (hrun := by kernel_rfl) (hps := pc (k_leave_place h6) <| pc (h7) <| pc (k_leave_place h9) <| pc (h10) <| pc (k_names_Right h12) <| pc (h13) <| pc (ob96 h15) <| pc (ob85 h17) <| pc (k_leave_At_J1 h23) <| pc (h25) <| pc (k_tag_Is h27) <| pc (h28) <| pn)
          · rcases ite_out h with ⟨h29, h⟩ | ⟨h29, h⟩
            · obtain ⟨r30, h31, h⟩ := bind_out h
              obtain ⟨l32, v33⟩ := r30
              injection h with h; subst h; exact runFn_sound mixedOrders Try.func36 rfl (keep := some [5]) (π := [.callv (.v (.bool r5)), .dec false, .callv (.v (.bool r8)), .dec false, .callv (.v (.bool r11)), .dec false, .row (c96 x14), .row (c85 x16), .skp, .skp, .skp, .cut [7, 8, 9, 10, 11, 12, 13] [1, 2, 3, 5, 14] .nor [(7, .op 0 1 0 0), (8, .os 1 0), (9, .z), (10, .op 2 1 0 0), (11, .op 3 1 0 0), (12, .op 4 1 0 0), (13, .fn (.func 75) [.agg [.sl 138 a1.devices, .sl 96 a1.ports, .sl 153 a1.links, .sl 85 a1.domains, .sl 166 a1.statics, .sl 128 a1.floods, .sl 71 a1.vrfs, .sl 68 a1.irbs]] []), (47, .v (.bool v22))] [.box 37 (c37 a4) false, .n 5, .box 96 (c96 x14) false, .box 85 (c85 x16) false, .box 141 [.sl 138 a1.devices, .sl 96 a1.ports, .sl 153 a1.links, .sl 85 a1.domains, .sl 166 a1.statics, .sl 128 a1.floods, .sl 71 a1.vrfs, .sl 68 a1.irbs] false], .dec false, .callv (.v (.bool r26)), .dec false, .dec true, .callo (.tup [.os 0 (List.length l32), .v (.int .i64 v33)]) [.arr 5 l32 (List.length l32) false]]) (hrun := by kernel_rfl) (hps := pc (k_leave_place h6) <| pc (h7) <| pc (k_leave_place h9) <| pc (h10) <| pc (k_names_Right h12) <| pc (h13) <| pc (ob96 h15) <| pc (ob85 h17) <| pc (k_leave_At_J1 h23) <| pc (h25) <| pc (k_tag_Is h27) <| pc (h28) <| pc (h29) <| pc (k_leave_whole_bare h31) <| pc (im5 l32) <| pn)
            · obtain ⟨r34, h35, h⟩ := bind_out h
              obtain ⟨l36, v37⟩ := r34
              injection h with h; subst h; exact runFn_sound mixedOrders Try.func36 rfl (keep := some [5]) (π := [.callv (.v (.bool r5)), .dec false, .callv (.v (.bool r8)), .dec false, .callv (.v (.bool r11)), .dec false, .row (c96 x14), .row (c85 x16), .skp, .skp, .skp, .cut [7, 8, 9, 10, 11, 12, 13] [1, 2, 3, 5, 14] .nor [(7, .op 0 1 0 0), (8, .os 1 0), (9, .z), (10, .op 2 1 0 0), (11, .op 3 1 0 0), (12, .op 4 1 0 0), (13, .fn (.func 75) [.agg [.sl 138 a1.devices, .sl 96 a1.ports, .sl 153 a1.links, .sl 85 a1.domains, .sl 166 a1.statics, .sl 128 a1.floods, .sl 71 a1.vrfs, .sl 68 a1.irbs]] []), (47, .v (.bool v22))] [.box 37 (c37 a4) false, .n 5, .box 96 (c96 x14) false, .box 85 (c85 x16) false, .box 141 [.sl 138 a1.devices, .sl 96 a1.ports, .sl 153 a1.links, .sl 85 a1.domains, .sl 166 a1.statics, .sl 128 a1.floods, .sl 71 a1.vrfs, .sl 68 a1.irbs] false], .dec false, .callv (.v (.bool r26)), .dec false, .dec false, .callo (.tup [.os 0 (List.length l36), .v (.int .i64 v37)]) [.arr 5 l36 (List.length l36) false]]) (hrun := by kernel_rfl) (hps := pc (k_leave_place h6) <| pc (h7) <| pc (k_leave_place h9) <| pc (h10) <| pc (k_names_Right h12) <| pc (h13) <| pc (ob96 h15) <| pc (ob85 h17) <| pc (k_leave_At_J1 h23) <| pc (h25) <| pc (k_tag_Is h27) <| pc (h28) <| pc (h29) <| pc (k_leave_whole_tagged h35) <| pc (im5 l36) <| pn)

theorem k_palinglaw28_works {r : Bool} (h : palinglaw28_works = some r) :
    CallsOK Try.prog UU 35 [] [] (.v (.bool r)) [] := by
  unfold palinglaw28_works at h
  obtain ⟨r1, h2, h⟩ := bind_out h
  obtain ⟨l3, v4⟩ := r1
  obtain ⟨r5, h6, h⟩ := bind_out h
  obtain ⟨l7, v8⟩ := r5
  obtain ⟨r9, h10, h⟩ := bind_out h
  obtain ⟨l11, v12⟩ := r9
  rcases ite_out h with ⟨h13, h⟩ | ⟨h13, h⟩
  · rcases ite_out h with ⟨h14, h⟩ | ⟨h14, h⟩
    · rcases ite_out h with ⟨h15, h⟩ | ⟨h15, h⟩
      · rcases ite_out h with ⟨h16, h⟩ | ⟨h16, h⟩
        · rcases ite_out h with ⟨h17, h⟩ | ⟨h17, h⟩
          · obtain ⟨x18, h19, h⟩ := bind_out h
            rcases ite_out h with ⟨h20, h⟩ | ⟨h20, h⟩
            · injection h with h; subst h; exact runFn_sound mixedOrders Try.func35 rfl (keep := none) (π := [.obj [] (.arr 138 [(⟨0, 0, (⟨#[97]⟩ : ByteArray), 0, 0⟩ : Api_Device)] (List.length [(⟨0, 0, (⟨#[97]⟩ : ByteArray), 0, 0⟩ : Api_Device)]) false), .obj [] (.arr 3 [(20 : Int)] (List.length [(20 : Int)]) false), .obj [1] (.arr 96 [(⟨0, 0, 10, 0, (-1), (⟨#[112]⟩ : ByteArray), [(20 : Int)]⟩ : Api_Port)] (List.length [(⟨0, 0, 10, 0, (-1), (⟨#[112]⟩ : ByteArray), [(20 : Int)]⟩ : Api_Port)]) false), .obj [] (.arr 85 [(⟨0, 10, 0, (-1), 0, []⟩ : Api_Domain), (⟨0, 20, 0, (-1), 0, []⟩ : Api_Domain)] (List.length [(⟨0, 10, 0, (-1), 0, []⟩ : Api_Domain), (⟨0, 20, 0, (-1), 0, []⟩ : Api_Domain)]) false), .callo (.tup [.os 0 (List.length l3), .v (.int .i64 v4)]) [.arr 5 l3 (List.length l3) false], .callo (.tup [.os 0 (List.length l7), .v (.int .i64 v8)]) [.arr 5 l7 (List.length l7) false], .callo (.tup [.os 0 (List.length l11), .v (.int .i64 v12)]) [.arr 5 l11 (List.length l11) false], .dec true, .dec true, .dec true, .dec true, .row (c5 x18), .dec true]) (hrun := by kernel_rfl) (hps := pc (bs_ob 138 [(⟨0, 0, (⟨#[97]⟩ : ByteArray), 0, 0⟩ : Api_Device)]) <| pc (bs_ob 3 [(20 : Int)]) <| pc (bs_ob 96 [(⟨0, 0, 10, 0, (-1), (⟨#[112]⟩ : ByteArray), [(20 : Int)]⟩ : Api_Port)]) <| pc ((rfl : ((List.length [(20 : Int)]) : Nat) = (List.length [(20 : Int)]))) <| pc (bs_ob 85 [(⟨0, 10, 0, (-1), 0, []⟩ : Api_Domain), (⟨0, 20, 0, (-1), 0, []⟩ : Api_Domain)]) <| pc (k_leave_At h2) <| pc (im5 l3) <| pc ((rfl : ((List.length [(⟨0, 0, (⟨#[97]⟩ : ByteArray), 0, 0⟩ : Api_Device)]) : Nat) = (List.length [(⟨0, 0, (⟨#[97]⟩ : ByteArray), 0, 0⟩ : Api_Device)]))) <| pc ((rfl : ((List.length [(⟨0, 0, 10, 0, (-1), (⟨#[112]⟩ : ByteArray), [(20 : Int)]⟩ : Api_Port)]) : Nat) = (List.length [(⟨0, 0, 10, 0, (-1), (⟨#[112]⟩ : ByteArray), [(20 : Int)]⟩ : Api_Port)]))) <| pc ((rfl : (0 : Nat) = 0)) <| pc ((rfl : ((List.length [(⟨0, 10, 0, (-1), 0, []⟩ : Api_Domain), (⟨0, 20, 0, (-1), 0, []⟩ : Api_Domain)]) : Nat) = (List.length [(⟨0, 10, 0, (-1), 0, []⟩ : Api_Domain), (⟨0, 20, 0, (-1), 0, []⟩ : Api_Domain)]))) <| pc ((rfl : (0 : Nat) = 0)) <| pc ((rfl : (0 : Nat) = 0)) <| pc ((rfl : (0 : Nat) = 0)) <| pc ((rfl : (0 : Nat) = 0)) <| pc ((rfl : (0 : Nat) = 0)) <| pc (k_leave_At h6) <| pc (im5 l7) <| pc ((rfl : ((List.length [(⟨0, 0, (⟨#[97]⟩ : ByteArray), 0, 0⟩ : Api_Device)]) : Nat) = (List.length [(⟨0, 0, (⟨#[97]⟩ : ByteArray), 0, 0⟩ : Api_Device)]))) <| pc ((rfl : ((List.length [(⟨0, 0, 10, 0, (-1), (⟨#[112]⟩ : ByteArray), [(20 : Int)]⟩ : Api_Port)]) : Nat) = (List.length [(⟨0, 0, 10, 0, (-1), (⟨#[112]⟩ : ByteArray), [(20 : Int)]⟩ : Api_Port)]))) <| pc ((rfl : (0 : Nat) = 0)) <| pc ((rfl : ((List.length [(⟨0, 10, 0, (-1), 0, []⟩ : Api_Domain), (⟨0, 20, 0, (-1), 0, []⟩ : Api_Domain)]) : Nat) = (List.length [(⟨0, 10, 0, (-1), 0, []⟩ : Api_Domain), (⟨0, 20, 0, (-1), 0, []⟩ : Api_Domain)]))) <| pc ((rfl : (0 : Nat) = 0)) <| pc ((rfl : (0 : Nat) = 0)) <| pc ((rfl : (0 : Nat) = 0)) <| pc ((rfl : (0 : Nat) = 0)) <| pc ((rfl : (0 : Nat) = 0)) <| pc (k_leave_At h10) <| pc (im5 l11) <| pc ((rfl : ((List.length [(⟨0, 0, (⟨#[97]⟩ : ByteArray), 0, 0⟩ : Api_Device)]) : Nat) = (List.length [(⟨0, 0, (⟨#[97]⟩ : ByteArray), 0, 0⟩ : Api_Device)]))) <| pc ((rfl : ((List.length [(⟨0, 0, 10, 0, (-1), (⟨#[112]⟩ : ByteArray), [(20 : Int)]⟩ : Api_Port)]) : Nat) = (List.length [(⟨0, 0, 10, 0, (-1), (⟨#[112]⟩ : ByteArray), [(20 : Int)]⟩ : Api_Port)]))) <| pc ((rfl : (0 : Nat) = 0)) <| pc ((rfl : ((List.length [(⟨0, 10, 0, (-1), 0, []⟩ : Api_Domain), (⟨0, 20, 0, (-1), 0, []⟩ : Api_Domain)]) : Nat) = (List.length [(⟨0, 10, 0, (-1), 0, []⟩ : Api_Domain), (⟨0, 20, 0, (-1), 0, []⟩ : Api_Domain)]))) <| pc ((rfl : (0 : Nat) = 0)) <| pc ((rfl : (0 : Nat) = 0)) <| pc ((rfl : (0 : Nat) = 0)) <| pc ((rfl : (0 : Nat) = 0)) <| pc ((rfl : (0 : Nat) = 0)) <| pc (h13) <| pc ((rfl : ((List.length l3) : Nat) = (List.length l3))) <| pc (h14) <| pc (h15) <| pc ((rfl : ((List.length l7) : Nat) = (List.length l7))) <| pc (h16) <| pc (And.intro (rfl : ((List.length l7) : Nat) = (List.length l7)) (lin_ob h17)) <| pc (And.intro (rfl : ((List.length l7) : Nat) = (List.length l7)) (obn5 h19)) <| pc (h20) <| pn)
            · injection h with h; subst h; exact runFn_sound mixedOrders Try.func35 rfl (keep := none) (π := [.obj [] (.arr 138 [(⟨0, 0, (⟨#[97]⟩ : ByteArray), 0, 0⟩ : Api_Device)] (List.length [(⟨0, 0, (⟨#[97]⟩ : ByteArray), 0, 0⟩ : Api_Device)]) false), .obj [] (.arr 3 [(20 : Int)] (List.length [(20 : Int)]) false), .obj [1] (.arr 96 [(⟨0, 0, 10, 0, (-1), (⟨#[112]⟩ : ByteArray), [(20 : Int)]⟩ : Api_Port)] (List.length [(⟨0, 0, 10, 0, (-1), (⟨#[112]⟩ : ByteArray), [(20 : Int)]⟩ : Api_Port)]) false), .obj [] (.arr 85 [(⟨0, 10, 0, (-1), 0, []⟩ : Api_Domain), (⟨0, 20, 0, (-1), 0, []⟩ : Api_Domain)] (List.length [(⟨0, 10, 0, (-1), 0, []⟩ : Api_Domain), (⟨0, 20, 0, (-1), 0, []⟩ : Api_Domain)]) false), .callo (.tup [.os 0 (List.length l3), .v (.int .i64 v4)]) [.arr 5 l3 (List.length l3) false], .callo (.tup [.os 0 (List.length l7), .v (.int .i64 v8)]) [.arr 5 l7 (List.length l7) false], .callo (.tup [.os 0 (List.length l11), .v (.int .i64 v12)]) [.arr 5 l11 (List.length l11) false], .dec true, .dec true, .dec true, .dec true, .row (c5 x18), .dec false]) (hrun := by kernel_rfl) (hps := pc (bs_ob 138 [(⟨0, 0, (⟨#[97]⟩ : ByteArray), 0, 0⟩ : Api_Device)]) <| pc (bs_ob 3 [(20 : Int)]) <| pc (bs_ob 96 [(⟨0, 0, 10, 0, (-1), (⟨#[112]⟩ : ByteArray), [(20 : Int)]⟩ : Api_Port)]) <| pc ((rfl : ((List.length [(20 : Int)]) : Nat) = (List.length [(20 : Int)]))) <| pc (bs_ob 85 [(⟨0, 10, 0, (-1), 0, []⟩ : Api_Domain), (⟨0, 20, 0, (-1), 0, []⟩ : Api_Domain)]) <| pc (k_leave_At h2) <| pc (im5 l3) <| pc ((rfl : ((List.length [(⟨0, 0, (⟨#[97]⟩ : ByteArray), 0, 0⟩ : Api_Device)]) : Nat) = (List.length [(⟨0, 0, (⟨#[97]⟩ : ByteArray), 0, 0⟩ : Api_Device)]))) <| pc ((rfl : ((List.length [(⟨0, 0, 10, 0, (-1), (⟨#[112]⟩ : ByteArray), [(20 : Int)]⟩ : Api_Port)]) : Nat) = (List.length [(⟨0, 0, 10, 0, (-1), (⟨#[112]⟩ : ByteArray), [(20 : Int)]⟩ : Api_Port)]))) <| pc ((rfl : (0 : Nat) = 0)) <| pc ((rfl : ((List.length [(⟨0, 10, 0, (-1), 0, []⟩ : Api_Domain), (⟨0, 20, 0, (-1), 0, []⟩ : Api_Domain)]) : Nat) = (List.length [(⟨0, 10, 0, (-1), 0, []⟩ : Api_Domain), (⟨0, 20, 0, (-1), 0, []⟩ : Api_Domain)]))) <| pc ((rfl : (0 : Nat) = 0)) <| pc ((rfl : (0 : Nat) = 0)) <| pc ((rfl : (0 : Nat) = 0)) <| pc ((rfl : (0 : Nat) = 0)) <| pc ((rfl : (0 : Nat) = 0)) <| pc (k_leave_At h6) <| pc (im5 l7) <| pc ((rfl : ((List.length [(⟨0, 0, (⟨#[97]⟩ : ByteArray), 0, 0⟩ : Api_Device)]) : Nat) = (List.length [(⟨0, 0, (⟨#[97]⟩ : ByteArray), 0, 0⟩ : Api_Device)]))) <| pc ((rfl : ((List.length [(⟨0, 0, 10, 0, (-1), (⟨#[112]⟩ : ByteArray), [(20 : Int)]⟩ : Api_Port)]) : Nat) = (List.length [(⟨0, 0, 10, 0, (-1), (⟨#[112]⟩ : ByteArray), [(20 : Int)]⟩ : Api_Port)]))) <| pc ((rfl : (0 : Nat) = 0)) <| pc ((rfl : ((List.length [(⟨0, 10, 0, (-1), 0, []⟩ : Api_Domain), (⟨0, 20, 0, (-1), 0, []⟩ : Api_Domain)]) : Nat) = (List.length [(⟨0, 10, 0, (-1), 0, []⟩ : Api_Domain), (⟨0, 20, 0, (-1), 0, []⟩ : Api_Domain)]))) <| pc ((rfl : (0 : Nat) = 0)) <| pc ((rfl : (0 : Nat) = 0)) <| pc ((rfl : (0 : Nat) = 0)) <| pc ((rfl : (0 : Nat) = 0)) <| pc ((rfl : (0 : Nat) = 0)) <| pc (k_leave_At h10) <| pc (im5 l11) <| pc ((rfl : ((List.length [(⟨0, 0, (⟨#[97]⟩ : ByteArray), 0, 0⟩ : Api_Device)]) : Nat) = (List.length [(⟨0, 0, (⟨#[97]⟩ : ByteArray), 0, 0⟩ : Api_Device)]))) <| pc ((rfl : ((List.length [(⟨0, 0, 10, 0, (-1), (⟨#[112]⟩ : ByteArray), [(20 : Int)]⟩ : Api_Port)]) : Nat) = (List.length [(⟨0, 0, 10, 0, (-1), (⟨#[112]⟩ : ByteArray), [(20 : Int)]⟩ : Api_Port)]))) <| pc ((rfl : (0 : Nat) = 0)) <| pc ((rfl : ((List.length [(⟨0, 10, 0, (-1), 0, []⟩ : Api_Domain), (⟨0, 20, 0, (-1), 0, []⟩ : Api_Domain)]) : Nat) = (List.length [(⟨0, 10, 0, (-1), 0, []⟩ : Api_Domain), (⟨0, 20, 0, (-1), 0, []⟩ : Api_Domain)]))) <| pc ((rfl : (0 : Nat) = 0)) <| pc ((rfl : (0 : Nat) = 0)) <| pc ((rfl : (0 : Nat) = 0)) <| pc ((rfl : (0 : Nat) = 0)) <| pc ((rfl : (0 : Nat) = 0)) <| pc (h13) <| pc ((rfl : ((List.length l3) : Nat) = (List.length l3))) <| pc (h14) <| pc (h15) <| pc ((rfl : ((List.length l7) : Nat) = (List.length l7))) <| pc (h16) <| pc (And.intro (rfl : ((List.length l7) : Nat) = (List.length l7)) (lin_ob h17)) <| pc (And.intro (rfl : ((List.length l7) : Nat) = (List.length l7)) (obn5 h19)) <| pc (h20) <| pn)
          · cases h
        · injection h with h; subst h; exact runFn_sound mixedOrders Try.func35 rfl (keep := none) (π := [.obj [] (.arr 138 [(⟨0, 0, (⟨#[97]⟩ : ByteArray), 0, 0⟩ : Api_Device)] (List.length [(⟨0, 0, (⟨#[97]⟩ : ByteArray), 0, 0⟩ : Api_Device)]) false), .obj [] (.arr 3 [(20 : Int)] (List.length [(20 : Int)]) false), .obj [1] (.arr 96 [(⟨0, 0, 10, 0, (-1), (⟨#[112]⟩ : ByteArray), [(20 : Int)]⟩ : Api_Port)] (List.length [(⟨0, 0, 10, 0, (-1), (⟨#[112]⟩ : ByteArray), [(20 : Int)]⟩ : Api_Port)]) false), .obj [] (.arr 85 [(⟨0, 10, 0, (-1), 0, []⟩ : Api_Domain), (⟨0, 20, 0, (-1), 0, []⟩ : Api_Domain)] (List.length [(⟨0, 10, 0, (-1), 0, []⟩ : Api_Domain), (⟨0, 20, 0, (-1), 0, []⟩ : Api_Domain)]) false), .callo (.tup [.os 0 (List.length l3), .v (.int .i64 v4)]) [.arr 5 l3 (List.length l3) false], .callo (.tup [.os 0 (List.length l7), .v (.int .i64 v8)]) [.arr 5 l7 (List.length l7) false], .callo (.tup [.os 0 (List.length l11), .v (.int .i64 v12)]) [.arr 5 l11 (List.length l11) false], .dec true, .dec true, .dec true, .dec false]) (hrun := by kernel_rfl) (hps := pc (bs_ob 138 [(⟨0, 0, (⟨#[97]⟩ : ByteArray), 0, 0⟩ : Api_Device)]) <| pc (bs_ob 3 [(20 : Int)]) <| pc (bs_ob 96 [(⟨0, 0, 10, 0, (-1), (⟨#[112]⟩ : ByteArray), [(20 : Int)]⟩ : Api_Port)]) <| pc ((rfl : ((List.length [(20 : Int)]) : Nat) = (List.length [(20 : Int)]))) <| pc (bs_ob 85 [(⟨0, 10, 0, (-1), 0, []⟩ : Api_Domain), (⟨0, 20, 0, (-1), 0, []⟩ : Api_Domain)]) <| pc (k_leave_At h2) <| pc (im5 l3) <| pc ((rfl : ((List.length [(⟨0, 0, (⟨#[97]⟩ : ByteArray), 0, 0⟩ : Api_Device)]) : Nat) = (List.length [(⟨0, 0, (⟨#[97]⟩ : ByteArray), 0, 0⟩ : Api_Device)]))) <| pc ((rfl : ((List.length [(⟨0, 0, 10, 0, (-1), (⟨#[112]⟩ : ByteArray), [(20 : Int)]⟩ : Api_Port)]) : Nat) = (List.length [(⟨0, 0, 10, 0, (-1), (⟨#[112]⟩ : ByteArray), [(20 : Int)]⟩ : Api_Port)]))) <| pc ((rfl : (0 : Nat) = 0)) <| pc ((rfl : ((List.length [(⟨0, 10, 0, (-1), 0, []⟩ : Api_Domain), (⟨0, 20, 0, (-1), 0, []⟩ : Api_Domain)]) : Nat) = (List.length [(⟨0, 10, 0, (-1), 0, []⟩ : Api_Domain), (⟨0, 20, 0, (-1), 0, []⟩ : Api_Domain)]))) <| pc ((rfl : (0 : Nat) = 0)) <| pc ((rfl : (0 : Nat) = 0)) <| pc ((rfl : (0 : Nat) = 0)) <| pc ((rfl : (0 : Nat) = 0)) <| pc ((rfl : (0 : Nat) = 0)) <| pc (k_leave_At h6) <| pc (im5 l7) <| pc ((rfl : ((List.length [(⟨0, 0, (⟨#[97]⟩ : ByteArray), 0, 0⟩ : Api_Device)]) : Nat) = (List.length [(⟨0, 0, (⟨#[97]⟩ : ByteArray), 0, 0⟩ : Api_Device)]))) <| pc ((rfl : ((List.length [(⟨0, 0, 10, 0, (-1), (⟨#[112]⟩ : ByteArray), [(20 : Int)]⟩ : Api_Port)]) : Nat) = (List.length [(⟨0, 0, 10, 0, (-1), (⟨#[112]⟩ : ByteArray), [(20 : Int)]⟩ : Api_Port)]))) <| pc ((rfl : (0 : Nat) = 0)) <| pc ((rfl : ((List.length [(⟨0, 10, 0, (-1), 0, []⟩ : Api_Domain), (⟨0, 20, 0, (-1), 0, []⟩ : Api_Domain)]) : Nat) = (List.length [(⟨0, 10, 0, (-1), 0, []⟩ : Api_Domain), (⟨0, 20, 0, (-1), 0, []⟩ : Api_Domain)]))) <| pc ((rfl : (0 : Nat) = 0)) <| pc ((rfl : (0 : Nat) = 0)) <| pc ((rfl : (0 : Nat) = 0)) <| pc ((rfl : (0 : Nat) = 0)) <| pc ((rfl : (0 : Nat) = 0)) <| pc (k_leave_At h10) <| pc (im5 l11) <| pc ((rfl : ((List.length [(⟨0, 0, (⟨#[97]⟩ : ByteArray), 0, 0⟩ : Api_Device)]) : Nat) = (List.length [(⟨0, 0, (⟨#[97]⟩ : ByteArray), 0, 0⟩ : Api_Device)]))) <| pc ((rfl : ((List.length [(⟨0, 0, 10, 0, (-1), (⟨#[112]⟩ : ByteArray), [(20 : Int)]⟩ : Api_Port)]) : Nat) = (List.length [(⟨0, 0, 10, 0, (-1), (⟨#[112]⟩ : ByteArray), [(20 : Int)]⟩ : Api_Port)]))) <| pc ((rfl : (0 : Nat) = 0)) <| pc ((rfl : ((List.length [(⟨0, 10, 0, (-1), 0, []⟩ : Api_Domain), (⟨0, 20, 0, (-1), 0, []⟩ : Api_Domain)]) : Nat) = (List.length [(⟨0, 10, 0, (-1), 0, []⟩ : Api_Domain), (⟨0, 20, 0, (-1), 0, []⟩ : Api_Domain)]))) <| pc ((rfl : (0 : Nat) = 0)) <| pc ((rfl : (0 : Nat) = 0)) <| pc ((rfl : (0 : Nat) = 0)) <| pc ((rfl : (0 : Nat) = 0)) <| pc ((rfl : (0 : Nat) = 0)) <| pc (h13) <| pc ((rfl : ((List.length l3) : Nat) = (List.length l3))) <| pc (h14) <| pc (h15) <| pc ((rfl : ((List.length l7) : Nat) = (List.length l7))) <| pc (h16) <| pn)
      · injection h with h; subst h; exact runFn_sound mixedOrders Try.func35 rfl (keep := none) (π := [.obj [] (.arr 138 [(⟨0, 0, (⟨#[97]⟩ : ByteArray), 0, 0⟩ : Api_Device)] (List.length [(⟨0, 0, (⟨#[97]⟩ : ByteArray), 0, 0⟩ : Api_Device)]) false), .obj [] (.arr 3 [(20 : Int)] (List.length [(20 : Int)]) false), .obj [1] (.arr 96 [(⟨0, 0, 10, 0, (-1), (⟨#[112]⟩ : ByteArray), [(20 : Int)]⟩ : Api_Port)] (List.length [(⟨0, 0, 10, 0, (-1), (⟨#[112]⟩ : ByteArray), [(20 : Int)]⟩ : Api_Port)]) false), .obj [] (.arr 85 [(⟨0, 10, 0, (-1), 0, []⟩ : Api_Domain), (⟨0, 20, 0, (-1), 0, []⟩ : Api_Domain)] (List.length [(⟨0, 10, 0, (-1), 0, []⟩ : Api_Domain), (⟨0, 20, 0, (-1), 0, []⟩ : Api_Domain)]) false), .callo (.tup [.os 0 (List.length l3), .v (.int .i64 v4)]) [.arr 5 l3 (List.length l3) false], .callo (.tup [.os 0 (List.length l7), .v (.int .i64 v8)]) [.arr 5 l7 (List.length l7) false], .callo (.tup [.os 0 (List.length l11), .v (.int .i64 v12)]) [.arr 5 l11 (List.length l11) false], .dec true, .dec true, .dec false]) (hrun := by kernel_rfl) (hps := pc (bs_ob 138 [(⟨0, 0, (⟨#[97]⟩ : ByteArray), 0, 0⟩ : Api_Device)]) <| pc (bs_ob 3 [(20 : Int)]) <| pc (bs_ob 96 [(⟨0, 0, 10, 0, (-1), (⟨#[112]⟩ : ByteArray), [(20 : Int)]⟩ : Api_Port)]) <| pc ((rfl : ((List.length [(20 : Int)]) : Nat) = (List.length [(20 : Int)]))) <| pc (bs_ob 85 [(⟨0, 10, 0, (-1), 0, []⟩ : Api_Domain), (⟨0, 20, 0, (-1), 0, []⟩ : Api_Domain)]) <| pc (k_leave_At h2) <| pc (im5 l3) <| pc ((rfl : ((List.length [(⟨0, 0, (⟨#[97]⟩ : ByteArray), 0, 0⟩ : Api_Device)]) : Nat) = (List.length [(⟨0, 0, (⟨#[97]⟩ : ByteArray), 0, 0⟩ : Api_Device)]))) <| pc ((rfl : ((List.length [(⟨0, 0, 10, 0, (-1), (⟨#[112]⟩ : ByteArray), [(20 : Int)]⟩ : Api_Port)]) : Nat) = (List.length [(⟨0, 0, 10, 0, (-1), (⟨#[112]⟩ : ByteArray), [(20 : Int)]⟩ : Api_Port)]))) <| pc ((rfl : (0 : Nat) = 0)) <| pc ((rfl : ((List.length [(⟨0, 10, 0, (-1), 0, []⟩ : Api_Domain), (⟨0, 20, 0, (-1), 0, []⟩ : Api_Domain)]) : Nat) = (List.length [(⟨0, 10, 0, (-1), 0, []⟩ : Api_Domain), (⟨0, 20, 0, (-1), 0, []⟩ : Api_Domain)]))) <| pc ((rfl : (0 : Nat) = 0)) <| pc ((rfl : (0 : Nat) = 0)) <| pc ((rfl : (0 : Nat) = 0)) <| pc ((rfl : (0 : Nat) = 0)) <| pc ((rfl : (0 : Nat) = 0)) <| pc (k_leave_At h6) <| pc (im5 l7) <| pc ((rfl : ((List.length [(⟨0, 0, (⟨#[97]⟩ : ByteArray), 0, 0⟩ : Api_Device)]) : Nat) = (List.length [(⟨0, 0, (⟨#[97]⟩ : ByteArray), 0, 0⟩ : Api_Device)]))) <| pc ((rfl : ((List.length [(⟨0, 0, 10, 0, (-1), (⟨#[112]⟩ : ByteArray), [(20 : Int)]⟩ : Api_Port)]) : Nat) = (List.length [(⟨0, 0, 10, 0, (-1), (⟨#[112]⟩ : ByteArray), [(20 : Int)]⟩ : Api_Port)]))) <| pc ((rfl : (0 : Nat) = 0)) <| pc ((rfl : ((List.length [(⟨0, 10, 0, (-1), 0, []⟩ : Api_Domain), (⟨0, 20, 0, (-1), 0, []⟩ : Api_Domain)]) : Nat) = (List.length [(⟨0, 10, 0, (-1), 0, []⟩ : Api_Domain), (⟨0, 20, 0, (-1), 0, []⟩ : Api_Domain)]))) <| pc ((rfl : (0 : Nat) = 0)) <| pc ((rfl : (0 : Nat) = 0)) <| pc ((rfl : (0 : Nat) = 0)) <| pc ((rfl : (0 : Nat) = 0)) <| pc ((rfl : (0 : Nat) = 0)) <| pc (k_leave_At h10) <| pc (im5 l11) <| pc ((rfl : ((List.length [(⟨0, 0, (⟨#[97]⟩ : ByteArray), 0, 0⟩ : Api_Device)]) : Nat) = (List.length [(⟨0, 0, (⟨#[97]⟩ : ByteArray), 0, 0⟩ : Api_Device)]))) <| pc ((rfl : ((List.length [(⟨0, 0, 10, 0, (-1), (⟨#[112]⟩ : ByteArray), [(20 : Int)]⟩ : Api_Port)]) : Nat) = (List.length [(⟨0, 0, 10, 0, (-1), (⟨#[112]⟩ : ByteArray), [(20 : Int)]⟩ : Api_Port)]))) <| pc ((rfl : (0 : Nat) = 0)) <| pc ((rfl : ((List.length [(⟨0, 10, 0, (-1), 0, []⟩ : Api_Domain), (⟨0, 20, 0, (-1), 0, []⟩ : Api_Domain)]) : Nat) = (List.length [(⟨0, 10, 0, (-1), 0, []⟩ : Api_Domain), (⟨0, 20, 0, (-1), 0, []⟩ : Api_Domain)]))) <| pc ((rfl : (0 : Nat) = 0)) <| pc ((rfl : (0 : Nat) = 0)) <| pc ((rfl : (0 : Nat) = 0)) <| pc ((rfl : (0 : Nat) = 0)) <| pc ((rfl : (0 : Nat) = 0)) <| pc (h13) <| pc ((rfl : ((List.length l3) : Nat) = (List.length l3))) <| pc (h14) <| pc (h15) <| pn)
    · injection h with h; subst h; exact runFn_sound mixedOrders Try.func35 rfl (keep := none) (π := [.obj [] (.arr 138 [(⟨0, 0, (⟨#[97]⟩ : ByteArray), 0, 0⟩ : Api_Device)] (List.length [(⟨0, 0, (⟨#[97]⟩ : ByteArray), 0, 0⟩ : Api_Device)]) false), .obj [] (.arr 3 [(20 : Int)] (List.length [(20 : Int)]) false), .obj [1] (.arr 96 [(⟨0, 0, 10, 0, (-1), (⟨#[112]⟩ : ByteArray), [(20 : Int)]⟩ : Api_Port)] (List.length [(⟨0, 0, 10, 0, (-1), (⟨#[112]⟩ : ByteArray), [(20 : Int)]⟩ : Api_Port)]) false), .obj [] (.arr 85 [(⟨0, 10, 0, (-1), 0, []⟩ : Api_Domain), (⟨0, 20, 0, (-1), 0, []⟩ : Api_Domain)] (List.length [(⟨0, 10, 0, (-1), 0, []⟩ : Api_Domain), (⟨0, 20, 0, (-1), 0, []⟩ : Api_Domain)]) false), .callo (.tup [.os 0 (List.length l3), .v (.int .i64 v4)]) [.arr 5 l3 (List.length l3) false], .callo (.tup [.os 0 (List.length l7), .v (.int .i64 v8)]) [.arr 5 l7 (List.length l7) false], .callo (.tup [.os 0 (List.length l11), .v (.int .i64 v12)]) [.arr 5 l11 (List.length l11) false], .dec true, .dec false]) (hrun := by kernel_rfl) (hps := pc (bs_ob 138 [(⟨0, 0, (⟨#[97]⟩ : ByteArray), 0, 0⟩ : Api_Device)]) <| pc (bs_ob 3 [(20 : Int)]) <| pc (bs_ob 96 [(⟨0, 0, 10, 0, (-1), (⟨#[112]⟩ : ByteArray), [(20 : Int)]⟩ : Api_Port)]) <| pc ((rfl : ((List.length [(20 : Int)]) : Nat) = (List.length [(20 : Int)]))) <| pc (bs_ob 85 [(⟨0, 10, 0, (-1), 0, []⟩ : Api_Domain), (⟨0, 20, 0, (-1), 0, []⟩ : Api_Domain)]) <| pc (k_leave_At h2) <| pc (im5 l3) <| pc ((rfl : ((List.length [(⟨0, 0, (⟨#[97]⟩ : ByteArray), 0, 0⟩ : Api_Device)]) : Nat) = (List.length [(⟨0, 0, (⟨#[97]⟩ : ByteArray), 0, 0⟩ : Api_Device)]))) <| pc ((rfl : ((List.length [(⟨0, 0, 10, 0, (-1), (⟨#[112]⟩ : ByteArray), [(20 : Int)]⟩ : Api_Port)]) : Nat) = (List.length [(⟨0, 0, 10, 0, (-1), (⟨#[112]⟩ : ByteArray), [(20 : Int)]⟩ : Api_Port)]))) <| pc ((rfl : (0 : Nat) = 0)) <| pc ((rfl : ((List.length [(⟨0, 10, 0, (-1), 0, []⟩ : Api_Domain), (⟨0, 20, 0, (-1), 0, []⟩ : Api_Domain)]) : Nat) = (List.length [(⟨0, 10, 0, (-1), 0, []⟩ : Api_Domain), (⟨0, 20, 0, (-1), 0, []⟩ : Api_Domain)]))) <| pc ((rfl : (0 : Nat) = 0)) <| pc ((rfl : (0 : Nat) = 0)) <| pc ((rfl : (0 : Nat) = 0)) <| pc ((rfl : (0 : Nat) = 0)) <| pc ((rfl : (0 : Nat) = 0)) <| pc (k_leave_At h6) <| pc (im5 l7) <| pc ((rfl : ((List.length [(⟨0, 0, (⟨#[97]⟩ : ByteArray), 0, 0⟩ : Api_Device)]) : Nat) = (List.length [(⟨0, 0, (⟨#[97]⟩ : ByteArray), 0, 0⟩ : Api_Device)]))) <| pc ((rfl : ((List.length [(⟨0, 0, 10, 0, (-1), (⟨#[112]⟩ : ByteArray), [(20 : Int)]⟩ : Api_Port)]) : Nat) = (List.length [(⟨0, 0, 10, 0, (-1), (⟨#[112]⟩ : ByteArray), [(20 : Int)]⟩ : Api_Port)]))) <| pc ((rfl : (0 : Nat) = 0)) <| pc ((rfl : ((List.length [(⟨0, 10, 0, (-1), 0, []⟩ : Api_Domain), (⟨0, 20, 0, (-1), 0, []⟩ : Api_Domain)]) : Nat) = (List.length [(⟨0, 10, 0, (-1), 0, []⟩ : Api_Domain), (⟨0, 20, 0, (-1), 0, []⟩ : Api_Domain)]))) <| pc ((rfl : (0 : Nat) = 0)) <| pc ((rfl : (0 : Nat) = 0)) <| pc ((rfl : (0 : Nat) = 0)) <| pc ((rfl : (0 : Nat) = 0)) <| pc ((rfl : (0 : Nat) = 0)) <| pc (k_leave_At h10) <| pc (im5 l11) <| pc ((rfl : ((List.length [(⟨0, 0, (⟨#[97]⟩ : ByteArray), 0, 0⟩ : Api_Device)]) : Nat) = (List.length [(⟨0, 0, (⟨#[97]⟩ : ByteArray), 0, 0⟩ : Api_Device)]))) <| pc ((rfl : ((List.length [(⟨0, 0, 10, 0, (-1), (⟨#[112]⟩ : ByteArray), [(20 : Int)]⟩ : Api_Port)]) : Nat) = (List.length [(⟨0, 0, 10, 0, (-1), (⟨#[112]⟩ : ByteArray), [(20 : Int)]⟩ : Api_Port)]))) <| pc ((rfl : (0 : Nat) = 0)) <| pc ((rfl : ((List.length [(⟨0, 10, 0, (-1), 0, []⟩ : Api_Domain), (⟨0, 20, 0, (-1), 0, []⟩ : Api_Domain)]) : Nat) = (List.length [(⟨0, 10, 0, (-1), 0, []⟩ : Api_Domain), (⟨0, 20, 0, (-1), 0, []⟩ : Api_Domain)]))) <| pc ((rfl : (0 : Nat) = 0)) <| pc ((rfl : (0 : Nat) = 0)) <| pc ((rfl : (0 : Nat) = 0)) <| pc ((rfl : (0 : Nat) = 0)) <| pc ((rfl : (0 : Nat) = 0)) <| pc (h13) <| pc ((rfl : ((List.length l3) : Nat) = (List.length l3))) <| pc (h14) <| pn)
  · injection h with h; subst h; exact runFn_sound mixedOrders Try.func35 rfl (keep := none) (π := [.obj [] (.arr 138 [(⟨0, 0, (⟨#[97]⟩ : ByteArray), 0, 0⟩ : Api_Device)] (List.length [(⟨0, 0, (⟨#[97]⟩ : ByteArray), 0, 0⟩ : Api_Device)]) false), .obj [] (.arr 3 [(20 : Int)] (List.length [(20 : Int)]) false), .obj [1] (.arr 96 [(⟨0, 0, 10, 0, (-1), (⟨#[112]⟩ : ByteArray), [(20 : Int)]⟩ : Api_Port)] (List.length [(⟨0, 0, 10, 0, (-1), (⟨#[112]⟩ : ByteArray), [(20 : Int)]⟩ : Api_Port)]) false), .obj [] (.arr 85 [(⟨0, 10, 0, (-1), 0, []⟩ : Api_Domain), (⟨0, 20, 0, (-1), 0, []⟩ : Api_Domain)] (List.length [(⟨0, 10, 0, (-1), 0, []⟩ : Api_Domain), (⟨0, 20, 0, (-1), 0, []⟩ : Api_Domain)]) false), .callo (.tup [.os 0 (List.length l3), .v (.int .i64 v4)]) [.arr 5 l3 (List.length l3) false], .callo (.tup [.os 0 (List.length l7), .v (.int .i64 v8)]) [.arr 5 l7 (List.length l7) false], .callo (.tup [.os 0 (List.length l11), .v (.int .i64 v12)]) [.arr 5 l11 (List.length l11) false], .dec false]) (hrun := by kernel_rfl) (hps := pc (bs_ob 138 [(⟨0, 0, (⟨#[97]⟩ : ByteArray), 0, 0⟩ : Api_Device)]) <| pc (bs_ob 3 [(20 : Int)]) <| pc (bs_ob 96 [(⟨0, 0, 10, 0, (-1), (⟨#[112]⟩ : ByteArray), [(20 : Int)]⟩ : Api_Port)]) <| pc ((rfl : ((List.length [(20 : Int)]) : Nat) = (List.length [(20 : Int)]))) <| pc (bs_ob 85 [(⟨0, 10, 0, (-1), 0, []⟩ : Api_Domain), (⟨0, 20, 0, (-1), 0, []⟩ : Api_Domain)]) <| pc (k_leave_At h2) <| pc (im5 l3) <| pc ((rfl : ((List.length [(⟨0, 0, (⟨#[97]⟩ : ByteArray), 0, 0⟩ : Api_Device)]) : Nat) = (List.length [(⟨0, 0, (⟨#[97]⟩ : ByteArray), 0, 0⟩ : Api_Device)]))) <| pc ((rfl : ((List.length [(⟨0, 0, 10, 0, (-1), (⟨#[112]⟩ : ByteArray), [(20 : Int)]⟩ : Api_Port)]) : Nat) = (List.length [(⟨0, 0, 10, 0, (-1), (⟨#[112]⟩ : ByteArray), [(20 : Int)]⟩ : Api_Port)]))) <| pc ((rfl : (0 : Nat) = 0)) <| pc ((rfl : ((List.length [(⟨0, 10, 0, (-1), 0, []⟩ : Api_Domain), (⟨0, 20, 0, (-1), 0, []⟩ : Api_Domain)]) : Nat) = (List.length [(⟨0, 10, 0, (-1), 0, []⟩ : Api_Domain), (⟨0, 20, 0, (-1), 0, []⟩ : Api_Domain)]))) <| pc ((rfl : (0 : Nat) = 0)) <| pc ((rfl : (0 : Nat) = 0)) <| pc ((rfl : (0 : Nat) = 0)) <| pc ((rfl : (0 : Nat) = 0)) <| pc ((rfl : (0 : Nat) = 0)) <| pc (k_leave_At h6) <| pc (im5 l7) <| pc ((rfl : ((List.length [(⟨0, 0, (⟨#[97]⟩ : ByteArray), 0, 0⟩ : Api_Device)]) : Nat) = (List.length [(⟨0, 0, (⟨#[97]⟩ : ByteArray), 0, 0⟩ : Api_Device)]))) <| pc ((rfl : ((List.length [(⟨0, 0, 10, 0, (-1), (⟨#[112]⟩ : ByteArray), [(20 : Int)]⟩ : Api_Port)]) : Nat) = (List.length [(⟨0, 0, 10, 0, (-1), (⟨#[112]⟩ : ByteArray), [(20 : Int)]⟩ : Api_Port)]))) <| pc ((rfl : (0 : Nat) = 0)) <| pc ((rfl : ((List.length [(⟨0, 10, 0, (-1), 0, []⟩ : Api_Domain), (⟨0, 20, 0, (-1), 0, []⟩ : Api_Domain)]) : Nat) = (List.length [(⟨0, 10, 0, (-1), 0, []⟩ : Api_Domain), (⟨0, 20, 0, (-1), 0, []⟩ : Api_Domain)]))) <| pc ((rfl : (0 : Nat) = 0)) <| pc ((rfl : (0 : Nat) = 0)) <| pc ((rfl : (0 : Nat) = 0)) <| pc ((rfl : (0 : Nat) = 0)) <| pc ((rfl : (0 : Nat) = 0)) <| pc (k_leave_At h10) <| pc (im5 l11) <| pc ((rfl : ((List.length [(⟨0, 0, (⟨#[97]⟩ : ByteArray), 0, 0⟩ : Api_Device)]) : Nat) = (List.length [(⟨0, 0, (⟨#[97]⟩ : ByteArray), 0, 0⟩ : Api_Device)]))) <| pc ((rfl : ((List.length [(⟨0, 0, 10, 0, (-1), (⟨#[112]⟩ : ByteArray), [(20 : Int)]⟩ : Api_Port)]) : Nat) = (List.length [(⟨0, 0, 10, 0, (-1), (⟨#[112]⟩ : ByteArray), [(20 : Int)]⟩ : Api_Port)]))) <| pc ((rfl : (0 : Nat) = 0)) <| pc ((rfl : ((List.length [(⟨0, 10, 0, (-1), 0, []⟩ : Api_Domain), (⟨0, 20, 0, (-1), 0, []⟩ : Api_Domain)]) : Nat) = (List.length [(⟨0, 10, 0, (-1), 0, []⟩ : Api_Domain), (⟨0, 20, 0, (-1), 0, []⟩ : Api_Domain)]))) <| pc ((rfl : (0 : Nat) = 0)) <| pc ((rfl : (0 : Nat) = 0)) <| pc ((rfl : (0 : Nat) = 0)) <| pc ((rfl : (0 : Nat) = 0)) <| pc ((rfl : (0 : Nat) = 0)) <| pc (h13) <| pn)

theorem k_palingref15_Place {a1 : Int} {a2 : Int} {r : Bool} (h : palingref15_Place a1 a2 = some r) :
    CallsOK Try.prog UU 79 [.v (.int .i64 a1), .v (.int .i64 a2)] [] (.v (.bool r)) [] := by
  unfold palingref15_Place at h
  rcases ite_out h with ⟨h3, h⟩ | ⟨h3, h⟩
  · injection h with h; subst h; exact runFn_sound mixedOrders Try.func79 rfl (keep := none) (π := [.dec true]) (hrun := by kernel_rfl) (hps := pc (h3) <| pn)
  · injection h with h; subst h; exact runFn_sound mixedOrders Try.func79 rfl (keep := none) (π := [.dec false]) (hrun := by kernel_rfl) (hps := pc (h3) <| pn)

theorem k_palingref15_At_L1 {a1 : Api_Net} {a2 : Int} {a3 : Int} : LoopOK Try.prog UU 0 34 (subC (codeOf Try.f140) [1, 0, 1, 0, 0]) (ρ := Int ⊕ Unit) (palingref15_At_L1 a1 a2 a3)
    (fun v4 : Int => ([(1, .v (.int .i64 a2)), (2, .v (.int .i64 a3)), (3, .op 0 1 0 0), (6, .z), (7, .v (.int .i64 v4))] : Fr DD)) (fun v4 : Int => ([.box 61 (c61 a1) false] : Heap DD)) (fun r => match r with | Sum.inl v13 => .ret | Sum.inr _ => .exit 0) (fun r => match r with | Sum.inl v13 => [(6, .v (.int .i64 v13))] | Sum.inr _ => [(6, .z)]) (fun r => match r with | Sum.inl v13 => [] | Sum.inr _ => []) := by
  refine loop_sound3 (fun s q h => ?_) (fun r => ?_)
  · replace h : palingref15_At_L1 a1 a2 a3 s = some q := h; revert h; revert s; intro v4 h
    unfold palingref15_At_L1 at h
    rcases ite_out h with ⟨h5, h⟩ | ⟨h5, h⟩
    · obtain ⟨x6, h7, h⟩ := bind_out h
      rcases ite_out h with ⟨h8, h⟩ | ⟨h8, h⟩
      · obtain ⟨x9, h10, h⟩ := bind_out h
        rcases ite_out h with ⟨h11, h⟩ | ⟨h11, h⟩
        · injection h with h; subst h; exact runLp_sound mixedOrders (live := [6]) (ids := []) (π := [.dec true, .row (c85 x6), .dec true, .row (c85 x9), .dec true]) (hx := by kernel_rfl) (hps := pc (h5) <| pc (ob85 h7) <| pc (h8) <| pc (ob85 h10) <| pc (h11) <| pn)
        · injection h with h; subst h; exact runLp_sound mixedOrders (live := [1, 2, 3, 6, 7]) (ids := [0]) (π := [.dec true, .row (c85 x6), .dec true, .row (c85 x9), .dec false]) (hx := by kernel_rfl) (hps := pc (h5) <| pc (ob85 h7) <| pc (h8) <| pc (ob85 h10) <| pc (h11) <| pn)
      · injection h with h; subst h; exact runLp_sound mixedOrders (live := [1, 2, 3, 6, 7]) (ids := [0]) (π := [.dec true, .row (c85 x6), .dec false]) (hx := by kernel_rfl) (hps := pc (h5) <| pc (ob85 h7) <| pc (h8) <| pn)
    · injection h with h; subst h; exact runLp_sound mixedOrders (live := [6]) (ids := []) (π := [.dec false]) (hx := by kernel_rfl) (hps := pc (h5) <| pn)
  · rcases r with _ | _ <;> exact Ex.noConfusion

theorem k_palingref15_At {a1 : Api_Net} {a2 : Int} {a3 : Int} {r : Int} (h : palingref15_At a1 a2 a3 = some r) :
    CallsOK Try.prog UU 140 [.agg (c61 a1), .v (.int .i64 a2), .v (.int .i64 a3)] [] (.v (.int .i64 r)) [] := by
  unfold palingref15_At at h
  obtain ⟨r15, h14, h⟩ := bind_out h
  rcases r15 with v13 | _
  · injection h with h; subst h; exact runFn_sound mixedOrders Try.func140 rfl (keep := none) (π := [.sum [1, 2, 3, 6, 7] [0] .ret [(6, .v (.int .i64 v13))] []]) (hrun := by kernel_rfl) (hps := pc (k_palingref15_At_L1 _ _ h14) <| pn)
  · injection h with h; subst h; exact runFn_sound mixedOrders Try.func140 rfl (keep := none) (π := [.sum [1, 2, 3, 6, 7] [0] (.exit 0) [(6, .z)] []]) (hrun := by kernel_rfl) (hps := pc (k_palingref15_At_L1 _ _ h14) <| pn)

theorem k_palingref15_In_L1 {a1 : List Int} {a2 : Int} : LoopOK Try.prog UU 0 18 (subC (codeOf Try.f80) [1, 0, 1, 0, 0]) (ρ := Unit ⊕ Unit) (palingref15_In_L1 a1 a2)
    (fun v3 : Int => ([(0, .sl 3 a1), (1, .v (.int .i64 a2)), (4, .v (.bool false)), (5, .v (.int .i64 v3))] : Fr DD)) (fun v3 : Int => ([] : Heap DD)) (fun r => match r with | Sum.inl _ => .ret | Sum.inr _ => .exit 0) (fun r => match r with | Sum.inl _ => [(4, .v (.bool true))] | Sum.inr _ => [(4, .v (.bool false))]) (fun r => match r with | Sum.inl _ => [] | Sum.inr _ => []) := by
  refine loop_sound3 (fun s q h => ?_) (fun r => ?_)
  · replace h : palingref15_In_L1 a1 a2 s = some q := h; revert h; revert s; intro v3 h
    unfold palingref15_In_L1 at h
    rcases ite_out h with ⟨h4, h⟩ | ⟨h4, h⟩
    · obtain ⟨x5, h6, h⟩ := bind_out h
      rcases ite_out h with ⟨h7, h⟩ | ⟨h7, h⟩
      · injection h with h; subst h; exact runLp_sound mixedOrders (live := [4]) (ids := []) (π := [.dec true, .row (c3 x5), .dec true]) (hx := by kernel_rfl) (hps := pc (h4) <| pc (ob3 h6) <| pc (h7) <| pn)
      · injection h with h; subst h; exact runLp_sound mixedOrders (live := [0, 1, 4, 5]) (ids := []) (π := [.dec true, .row (c3 x5), .dec false]) (hx := by kernel_rfl) (hps := pc (h4) <| pc (ob3 h6) <| pc (h7) <| pn)
    · injection h with h; subst h; exact runLp_sound mixedOrders (live := [4]) (ids := []) (π := [.dec false]) (hx := by kernel_rfl) (hps := pc (h4) <| pn)
  · rcases r with _ | _ <;> exact Ex.noConfusion

theorem k_palingref15_In {a1 : List Int} {a2 : Int} {r : Bool} (h : palingref15_In a1 a2 = some r) :
    CallsOK Try.prog UU 80 [.sl 3 a1, .v (.int .i64 a2)] [] (.v (.bool r)) [] := by
  unfold palingref15_In at h
  obtain ⟨r9, h8, h⟩ := bind_out h
  rcases r9 with _ | _
  · injection h with h; subst h; exact runFn_sound mixedOrders Try.func80 rfl (keep := none) (π := [.sum [0, 1, 4, 5] [] .ret [(4, .v (.bool true))] []]) (hrun := by kernel_rfl) (hps := pc (k_palingref15_In_L1 _ _ h8) <| pn)
  · injection h with h; subst h; exact runFn_sound mixedOrders Try.func80 rfl (keep := none) (π := [.sum [0, 1, 4, 5] [] (.exit 0) [(4, .v (.bool false))] []]) (hrun := by kernel_rfl) (hps := pc (k_palingref15_In_L1 _ _ h8) <| pn)

theorem k_palingref15_peer {a1 : Api_Net} {a2 : Int} {a3 : Int} {r : Bool} (h : palingref15_peer a1 a2 a3 = some r) :
    CallsOK Try.prog UU 162 [.agg (c61 a1), .v (.int .i64 a2), .v (.int .i64 a3)] [] (.v (.bool r)) [] := by
  unfold palingref15_peer at h
  obtain ⟨r4, h5, h⟩ := bind_out h
  rcases ite_out h with ⟨h6, h⟩ | ⟨h6, h⟩
  · injection h with h; subst h; exact runFn_sound mixedOrders Try.func162 rfl (keep := none) (π := [.callv (.v (.bool r4)), .dec true]) (hrun := by kernel_rfl) (hps := pc (k_palingref15_Place h5) <| pc (h6) <| pn)
  · rcases ite_out h with ⟨h7, h⟩ | ⟨h7, h⟩
    · injection h with h; subst h; exact runFn_sound mixedOrders Try.func162 rfl (keep := none) (π := [.callv (.v (.bool r4)), .dec false, .dec true]) (hrun := by kernel_rfl) (hps := pc (k_palingref15_Place h5) <| pc (h6) <| pc (h7) <| pn)
    · obtain ⟨x8, h9, h⟩ := bind_out h
      obtain ⟨x10, h11, h⟩ := bind_out h
      rcases ite_out h with ⟨h12, h⟩ | ⟨h12, h⟩
      · rcases ite_out h with ⟨h13, h⟩ | ⟨h13, h⟩
        · rcases ite_out h with ⟨h14, h⟩ | ⟨h14, h⟩
          · obtain ⟨x15, h16, h⟩ := bind_out h
            rcases ite_out h with ⟨h17, h⟩ | ⟨h17, h⟩
            · obtain ⟨x18, h19, h⟩ := bind_out h
              rcases ite_out h with ⟨h20, h⟩ | ⟨h20, h⟩
              · obtain ⟨r21, h22, h⟩ := bind_out h
                injection h with h; subst h; exact runFn_sound mixedOrders Try.func162 rfl (keep := none) (π := [.callv (.v (.bool r4)), .dec false, .dec false, .row (c85 x8), .row (c85 x10), .dec true, .dec true, .dec true, .row (c138 x15), .dec true, .row (c138 x18), .dec true, .callv (.v (.bool r21))]) (hrun := by kernel_rfl) (hps := pc (k_palingref15_Place h5) <| pc (h6) <| pc (h7) <| pc (ob85 h9) <| pc (ob85 h11) <| pc (h12) <| pc (h13) <| pc (h14) <| pc (ob138 h16) <| pc (h17) <| pc (ob138 h19) <| pc (h20) <| pc (k_palingref15_In h22) <| pn)
              · injection h with h; subst h; exact runFn_sound mixedOrders Try.func162 rfl (keep := none) (π := [.callv (.v (.bool r4)), .dec false, .dec false, .row (c85 x8), .row (c85 x10), .dec true, .dec true, .dec true, .row (c138 x15), .dec true, .row (c138 x18), .dec false]) (hrun := by kernel_rfl) (hps := pc (k_palingref15_Place h5) <| pc (h6) <| pc (h7) <| pc (ob85 h9) <| pc (ob85 h11) <| pc (h12) <| pc (h13) <| pc (h14) <| pc (ob138 h16) <| pc (h17) <| pc (ob138 h19) <| pc (h20) <| pn)
            · injection h with h; subst h; exact runFn_sound mixedOrders Try.func162 rfl (keep := none) (π := [.callv (.v (.bool r4)), .dec false, .dec false, .row (c85 x8), .row (c85 x10), .dec true, .dec true, .dec true, .row (c138 x15), .dec false]) (hrun := by kernel_rfl) (hps := pc (k_palingref15_Place h5) <| pc (h6) <| pc (h7) <| pc (ob85 h9) <| pc (ob85 h11) <| pc (h12) <| pc (h13) <| pc (h14) <| pc (ob138 h16) <| pc (h17) <| pn)
          · injection h with h; subst h; exact runFn_sound mixedOrders Try.func162 rfl (keep := none) (π := [.callv (.v (.bool r4)), .dec false, .dec false, .row (c85 x8), .row (c85 x10), .dec true, .dec true, .dec false]) (hrun := by kernel_rfl) (hps := pc (k_palingref15_Place h5) <| pc (h6) <| pc (h7) <| pc (ob85 h9) <| pc (ob85 h11) <| pc (h12) <| pc (h13) <| pc (h14) <| pn)
        · injection h with h; subst h; exact runFn_sound mixedOrders Try.func162 rfl (keep := none) (π := [.callv (.v (.bool r4)), .dec false, .dec false, .row (c85 x8), .row (c85 x10), .dec true, .dec false]) (hrun := by kernel_rfl) (hps := pc (k_palingref15_Place h5) <| pc (h6) <| pc (h7) <| pc (ob85 h9) <| pc (ob85 h11) <| pc (h12) <| pc (h13) <| pn)
      · injection h with h; subst h; exact runFn_sound mixedOrders Try.func162 rfl (keep := none) (π := [.callv (.v (.bool r4)), .dec false, .dec false, .row (c85 x8), .row (c85 x10), .dec false]) (hrun := by kernel_rfl) (hps := pc (k_palingref15_Place h5) <| pc (h6) <| pc (h7) <| pc (ob85 h9) <| pc (ob85 h11) <| pc (h12) <| pn)

theorem k_palingref15_domains_L1 {a1 : Api_Net} : LoopOK Try.prog UU 0 120 (subC (codeOf Try.f130) [1, 0, 1, 0, 0]) (ρ := Unit ⊕ Unit) (palingref15_domains_L1 a1)
    (fun v2 : Int => ([(1, .op 0 1 0 0), (2, .v (.bool false)), (3, .v (.int .i64 v2))] : Fr DD)) (fun v2 : Int => ([.box 61 (c61 a1) false] : Heap DD)) (fun r => match r with | Sum.inl _ => .ret | Sum.inr _ => .exit 0) (fun r => match r with | Sum.inl _ => [(2, .v (.bool false))] | Sum.inr _ => [(1, .op 0 1 0 0), (2, .v (.bool false))]) (fun r => match r with | Sum.inl _ => [] | Sum.inr _ => [.box 61 (c61 a1) false]) := by
  refine loop_sound3 (fun s q h => ?_) (fun r => ?_)
  · replace h : palingref15_domains_L1 a1 s = some q := h; revert h; revert s; intro v2 h
    unfold palingref15_domains_L1 at h
    rcases ite_out h with ⟨h3, h⟩ | ⟨h3, h⟩
    · obtain ⟨x4, h5, h⟩ := bind_out h
      obtain ⟨r6, h7, h⟩ := bind_out h
      rcases ite_out h with ⟨h8, h⟩ | ⟨h8, h⟩
      · injection h with h; subst h; exact runLp_sound mixedOrders (live := [2]) (ids := []) (π := [.dec true, .row (c85 x4), .callv (.v (.bool r6)), .dec true]) (hx := by kernel_rfl) (hps := pc (h3) <| pc (ob85 h5) <| pc (k_palingref15_Place h7) <| pc (h8) <| pn)
      · rcases ite_out h with ⟨h9, h⟩ | ⟨h9, h⟩
        · injection h with h; subst h; exact runLp_sound mixedOrders (live := [2]) (ids := []) (π := [.dec true, .row (c85 x4), .callv (.v (.bool r6)), .dec false, .dec true]) (hx := by kernel_rfl) (hps := pc (h3) <| pc (ob85 h5) <| pc (k_palingref15_Place h7) <| pc (h8) <| pc (h9) <| pn)
        · rcases ite_out h with ⟨h10, h⟩ | ⟨h10, h⟩
          · injection h with h; subst h; exact runLp_sound mixedOrders (live := [2]) (ids := []) (π := [.dec true, .row (c85 x4), .callv (.v (.bool r6)), .dec false, .dec false, .dec true]) (hx := by kernel_rfl) (hps := pc (h3) <| pc (ob85 h5) <| pc (k_palingref15_Place h7) <| pc (h8) <| pc (h9) <| pc (h10) <| pn)
          · rcases ite_out h with ⟨h11, h⟩ | ⟨h11, h⟩
            · injection h with h; subst h; exact runLp_sound mixedOrders (live := [2]) (ids := []) (π := [.dec true, .row (c85 x4), .callv (.v (.bool r6)), .dec false, .dec false, .dec false, .dec true]) (hx := by kernel_rfl) (hps := pc (h3) <| pc (ob85 h5) <| pc (k_palingref15_Place h7) <| pc (h8) <| pc (h9) <| pc (h10) <| pc (h11) <| pn)
            · rcases ite_out h with ⟨h12, h⟩ | ⟨h12, h⟩
              · injection h with h; subst h; exact runLp_sound mixedOrders (live := [2]) (ids := []) (π := [.dec true, .row (c85 x4), .callv (.v (.bool r6)), .dec false, .dec false, .dec false, .dec false, .dec true]) (hx := by kernel_rfl) (hps := pc (h3) <| pc (ob85 h5) <| pc (k_palingref15_Place h7) <| pc (h8) <| pc (h9) <| pc (h10) <| pc (h11) <| pc (h12) <| pn)
              · obtain ⟨r13, h14, h⟩ := bind_out h
                rcases ite_out h with ⟨h15, h⟩ | ⟨h15, h⟩
                · injection h with h; subst h; exact runLp_sound mixedOrders (live := [2]) (ids := []) (π := [.dec true, .row (c85 x4), .callv (.v (.bool r6)), .dec false, .dec false, .dec false, .dec false, .dec false, .callv (.v (.int .i64 r13)), .dec true]) (hx := by kernel_rfl) (hps := pc (h3) <| pc (ob85 h5) <| pc (k_palingref15_Place h7) <| pc (h8) <| pc (h9) <| pc (h10) <| pc (h11) <| pc (h12) <| pc (k_palingref15_At h14) <| pc (h15) <| pn)
                · rcases ite_out h with ⟨h16, h⟩ | ⟨h16, h⟩
                  · obtain ⟨r17, h18, h⟩ := bind_out h
                    rcases ite_out h with ⟨h19, h⟩ | ⟨h19, h⟩
                    · injection h with h; subst h; exact runLp_sound mixedOrders (live := [2]) (ids := []) (π := [.dec true, .row (c85 x4), .callv (.v (.bool r6)), .dec false, .dec false, .dec false, .dec false, .dec false, .callv (.v (.int .i64 r13)), .dec false, .dec true, .callv (.v (.bool r17)), .dec true]) (hx := by kernel_rfl) (hps := pc (h3) <| pc (ob85 h5) <| pc (k_palingref15_Place h7) <| pc (h8) <| pc (h9) <| pc (h10) <| pc (h11) <| pc (h12) <| pc (k_palingref15_At h14) <| pc (h15) <| pc (h16) <| pc (k_palingref15_Place h18) <| pc (h19) <| pn)
                    · obtain ⟨x20, h21, h⟩ := bind_out h
                      rcases ite_out h with ⟨h22, h⟩ | ⟨h22, h⟩
                      · injection h with h; subst h; exact runLp_sound mixedOrders (live := [2]) (ids := []) (π := [.dec true, .row (c85 x4), .callv (.v (.bool r6)), .dec false, .dec false, .dec false, .dec false, .dec false, .callv (.v (.int .i64 r13)), .dec false, .dec true, .callv (.v (.bool r17)), .dec false, .row (c68 x20), .dec true]) (hx := by kernel_rfl) (hps := pc (h3) <| pc (ob85 h5) <| pc (k_palingref15_Place h7) <| pc (h8) <| pc (h9) <| pc (h10) <| pc (h11) <| pc (h12) <| pc (k_palingref15_At h14) <| pc (h15) <| pc (h16) <| pc (k_palingref15_Place h18) <| pc (h19) <| pc (ob68 h21) <| pc (h22) <| pn)
                      · injection h with h; subst h; exact runLp_sound mixedOrders (live := [1, 2, 3]) (ids := [0]) (π := [.dec true, .row (c85 x4), .callv (.v (.bool r6)), .dec false, .dec false, .dec false, .dec false, .dec false, .callv (.v (.int .i64 r13)), .dec false, .dec true, .callv (.v (.bool r17)), .dec false, .row (c68 x20), .dec false]) (hx := by kernel_rfl) (hps := pc (h3) <| pc (ob85 h5) <| pc (k_palingref15_Place h7) <| pc (h8) <| pc (h9) <| pc (h10) <| pc (h11) <| pc (h12) <| pc (k_palingref15_At h14) <| pc (h15) <| pc (h16) <| pc (k_palingref15_Place h18) <| pc (h19) <| pc (ob68 h21) <| pc (h22) <| pn)
                  · injection h with h; subst h; exact runLp_sound mixedOrders (live := [1, 2, 3]) (ids := [0]) (π := [.dec true, .row (c85 x4), .callv (.v (.bool r6)), .dec false, .dec false, .dec false, .dec false, .dec false, .callv (.v (.int .i64 r13)), .dec false, .dec false]) (hx := by kernel_rfl) (hps := pc (h3) <| pc (ob85 h5) <| pc (k_palingref15_Place h7) <| pc (h8) <| pc (h9) <| pc (h10) <| pc (h11) <| pc (h12) <| pc (k_palingref15_At h14) <| pc (h15) <| pc (h16) <| pn)
    · injection h with h; subst h; exact runLp_sound mixedOrders (live := [1, 2]) (ids := [0]) (π := [.dec false]) (hx := by kernel_rfl) (hps := pc (h3) <| pn)
  · rcases r with _ | _ <;> exact Ex.noConfusion

theorem k_palingref15_domains_L3 {a1 : Api_Net} {v25 : Int} {x27 : Api_Domain} : LoopOK Try.prog UU 0 120 (subC (codeOf Try.f130) [1, 1, 0, 1, 0, 0, 1, 0, 0, 1, 1, 0, 0]) (ρ := Unit ⊕ Unit) (palingref15_domains_L3 a1 v25 x27)
    (fun v29 : Int => ([(1, .op 0 1 0 0), (2, .v (.bool false)), (5, .v (.int .i64 v25)), (6, .op 1 1 0 0), (7, .v (.int .i64 v29))] : Fr DD)) (fun v29 : Int => ([.box 61 (c61 a1) false, .box 85 (c85 x27) false] : Heap DD)) (fun r => match r with | Sum.inl _ => .ret | Sum.inr _ => .exit 4) (fun r => match r with | Sum.inl _ => [(2, .v (.bool false))] | Sum.inr _ => [(1, .op 0 1 0 0), (2, .v (.bool false)), (5, .v (.int .i64 v25))]) (fun r => match r with | Sum.inl _ => [] | Sum.inr _ => [.box 61 (c61 a1) false]) := by
  refine loop_sound3 (fun s q h => ?_) (fun r => ?_)
  · replace h : palingref15_domains_L3 a1 v25 x27 s = some q := h; revert h; revert s; intro v29 h
    unfold palingref15_domains_L3 at h
    rcases ite_out h with ⟨h30, h⟩ | ⟨h30, h⟩
    · obtain ⟨x31, h32, h⟩ := bind_out h
      obtain ⟨r33, h34, h⟩ := bind_out h
      rcases ite_out h with ⟨h35, h⟩ | ⟨h35, h⟩
      · injection h with h; subst h; exact runLp_sound mixedOrders (live := [2]) (ids := []) (π := [.dec true, .row (c3 x31), .callv (.v (.bool r33)), .dec true]) (hx := by kernel_rfl) (hps := pc (h30) <| pc (ob3 h32) <| pc (k_palingref15_peer h34) <| pc (h35) <| pn)
      · rcases ite_out h with ⟨h36, h⟩ | ⟨h36, h⟩
        · obtain ⟨x37, h38, h⟩ := bind_out h
          obtain ⟨r39, h40, h⟩ := bind_out h
          rcases ite_out h with ⟨h41, h⟩ | ⟨h41, h⟩
          · injection h with h; subst h; exact runLp_sound mixedOrders (live := [2]) (ids := []) (π := [.dec true, .row (c3 x31), .callv (.v (.bool r33)), .dec false, .row (c3 x37), .callv (.v (.bool r39)), .dec true]) (hx := by kernel_rfl) (hps := pc (h30) <| pc (ob3 h32) <| pc (k_palingref15_peer h34) <| pc (h35) <| pc (sl_ob h36) <| pc (ob3 h38) <| pc (k_palingref15_In h40) <| pc (h41) <| pn)
          · injection h with h; subst h; exact runLp_sound mixedOrders (live := [1, 2, 5, 6, 7]) (ids := [0, 1]) (π := [.dec true, .row (c3 x31), .callv (.v (.bool r33)), .dec false, .row (c3 x37), .callv (.v (.bool r39)), .dec false]) (hx := by kernel_rfl) (hps := pc (h30) <| pc (ob3 h32) <| pc (k_palingref15_peer h34) <| pc (h35) <| pc (sl_ob h36) <| pc (ob3 h38) <| pc (k_palingref15_In h40) <| pc (h41) <| pn)
        · cases h
    · injection h with h; subst h; exact runLp_sound mixedOrders (live := [1, 2, 5]) (ids := [0]) (π := [.dec false]) (hx := by kernel_rfl) (hps := pc (h30) <| pn)
  · rcases r with _ | _ <;> exact Ex.noConfusion

theorem k_palingref15_domains_L2 {a1 : Api_Net} : LoopOK Try.prog UU 0 120 (subC (codeOf Try.f130) [1, 1, 0, 1, 0, 0]) (ρ := Unit ⊕ Unit) (palingref15_domains_L2 a1)
    (fun v25 : Int => ([(1, .op 0 1 0 0), (2, .v (.bool false)), (5, .v (.int .i64 v25))] : Fr DD)) (fun v25 : Int => ([.box 61 (c61 a1) false] : Heap DD)) (fun r => match r with | Sum.inl _ => .ret | Sum.inr _ => .exit 2) (fun r => match r with | Sum.inl _ => [(2, .v (.bool false))] | Sum.inr _ => [(2, .v (.bool false))]) (fun r => match r with | Sum.inl _ => [] | Sum.inr _ => []) := by
  refine loop_sound3 (fun s q h => ?_) (fun r => ?_)
  · replace h : palingref15_domains_L2 a1 s = some q := h; revert h; revert s; intro v25 h
    unfold palingref15_domains_L2 at h
    rcases ite_out h with ⟨h26, h⟩ | ⟨h26, h⟩
    · obtain ⟨x27, h28, h⟩ := bind_out h
      obtain ⟨r43, h42, h⟩ := bind_out h
      rcases r43 with _ | _
      · injection h with h; subst h; exact runLp_sound mixedOrders (live := [2]) (ids := []) (π := [.dec true, .row (c85 x27), .sum [1, 2, 5, 6, 7] [0, 2] .ret [(2, .v (.bool false))] []]) (hx := by kernel_rfl) (hps := pc (h26) <| pc (ob85 h28) <| pc (k_palingref15_domains_L3 _ _ h42) <| pn)
      · injection h with h; subst h; exact runLp_sound mixedOrders (live := [1, 2, 5]) (ids := [0]) (π := [.dec true, .row (c85 x27), .sum [1, 2, 5, 6, 7] [0, 2] (.exit 4) [(1, .op 0 1 0 0), (2, .v (.bool false)), (5, .v (.int .i64 v25))] [.box 61 (c61 a1) false]]) (hx := by kernel_rfl) (hps := pc (h26) <| pc (ob85 h28) <| pc (k_palingref15_domains_L3 _ _ h42) <| pn)
    · injection h with h; subst h; exact runLp_sound mixedOrders (live := [2]) (ids := []) (π := [.dec false]) (hx := by kernel_rfl) (hps := pc (h26) <| pn)
  · rcases r with _ | _ <;> exact Ex.noConfusion

theorem k_palingref15_domains {a1 : Api_Net} {r : Bool} (h : palingref15_domains a1 = some r) :
    CallsOK Try.prog UU 130 [.agg (c61 a1)] [] (.v (.bool r)) [] := by
  unfold palingref15_domains at h
  obtain ⟨r24, h23, h⟩ := bind_out h
  rcases r24 with _ | _
  · injection h with h; subst h; exact runFn_sound mixedOrders Try.func130 rfl (keep := none) (π := [.sum [1, 2, 3] [0] .ret [(2, .v (.bool false))] []]) (hrun := by kernel_rfl) (hps := pc (k_palingref15_domains_L1 _ _ h23) <| pn)
  · obtain ⟨r45, h44, h⟩ := bind_out h
    rcases r45 with _ | _
    · injection h with h; subst h; exact runFn_sound mixedOrders Try.func130 rfl (keep := none) (π := [.sum [1, 2, 3] [0] (.exit 0) [(1, .op 0 1 0 0), (2, .v (.bool false))] [.box 61 (c61 a1) false], .sum [1, 2, 5] [0] .ret [(2, .v (.bool false))] []]) (hrun := by kernel_rfl) (hps := pc (k_palingref15_domains_L1 _ _ h23) <| pc (k_palingref15_domains_L2 _ _ h44) <| pn)
    · injection h with h; subst h; exact runFn_sound mixedOrders Try.func130 rfl (keep := none) (π := [.sum [1, 2, 3] [0] (.exit 0) [(1, .op 0 1 0 0), (2, .v (.bool false))] [.box 61 (c61 a1) false], .sum [1, 2, 5] [0] (.exit 2) [(2, .v (.bool false))] []]) (hrun := by kernel_rfl) (hps := pc (k_palingref15_domains_L1 _ _ h23) <| pc (k_palingref15_domains_L2 _ _ h44) <| pn)

theorem k_palingref03_Rising_L1 {a1 : List Int} {a2 : Int} {a3 : Int} : LoopOK Try.prog UU 0 52 (subC (codeOf Try.f167) [1, 1, 0, 1, 0, 0]) (ρ := Unit ⊕ Unit) (palingref03_Rising_L1 a1 a2 a3)
    (fun v6 : Int => ([(0, .sl 3 a1), (1, .v (.int .i64 a2)), (2, .v (.int .i64 a3)), (6, .v (.bool false)), (7, .v (.int .i64 v6))] : Fr DD)) (fun v6 : Int => ([] : Heap DD)) (fun r => match r with | Sum.inl _ => .ret | Sum.inr _ => .exit 0) (fun r => match r with | Sum.inl _ => [(6, .v (.bool false))] | Sum.inr _ => [(6, .v (.bool false))]) (fun r => match r with | Sum.inl _ => [] | Sum.inr _ => []) := by
  refine loop_sound3 (fun s q h => ?_) (fun r => ?_)
  · replace h : palingref03_Rising_L1 a1 a2 a3 s = some q := h; revert h; revert s; intro v6 h
    unfold palingref03_Rising_L1 at h
    rcases ite_out h with ⟨h7, h⟩ | ⟨h7, h⟩
    · obtain ⟨x8, h9, h⟩ := bind_out h
      rcases ite_out h with ⟨h10, h⟩ | ⟨h10, h⟩
      · injection h with h; subst h; exact runLp_sound mixedOrders (live := [6]) (ids := []) (π := [.dec true, .row (c3 x8), .dec true]) (hx := by kernel_rfl) (hps := pc (h7) <| pc (ob3 h9) <| pc (h10) <| pn)
      · obtain ⟨x11, h12, h⟩ := bind_out h
        rcases ite_out h with ⟨h13, h⟩ | ⟨h13, h⟩
        · injection h with h; subst h; exact runLp_sound mixedOrders (live := [6]) (ids := []) (π := [.dec true, .row (c3 x8), .dec false, .row (c3 x11), .dec true]) (hx := by kernel_rfl) (hps := pc (h7) <| pc (ob3 h9) <| pc (h10) <| pc (ob3 h12) <| pc (h13) <| pn)
        · rcases ite_out h with ⟨h14, h⟩ | ⟨h14, h⟩
          · obtain ⟨x15, h16, h⟩ := bind_out h
            obtain ⟨x17, h18, h⟩ := bind_out h
            rcases ite_out h with ⟨h19, h⟩ | ⟨h19, h⟩
            · injection h with h; subst h; exact runLp_sound mixedOrders (live := [6]) (ids := []) (π := [.dec true, .row (c3 x8), .dec false, .row (c3 x11), .dec false, .dec true, .row (c3 x15), .row (c3 x17), .dec true]) (hx := by kernel_rfl) (hps := pc (h7) <| pc (ob3 h9) <| pc (h10) <| pc (ob3 h12) <| pc (h13) <| pc (h14) <| pc (ob3 h16) <| pc (ob3 h18) <| pc (h19) <| pn)
            · injection h with h; subst h; exact runLp_sound mixedOrders (live := [0, 1, 2, 6, 7]) (ids := []) (π := [.dec true, .row (c3 x8), .dec false, .row (c3 x11), .dec false, .dec true, .row (c3 x15), .row (c3 x17), .dec false]) (hx := by kernel_rfl) (hps := pc (h7) <| pc (ob3 h9) <| pc (h10) <| pc (ob3 h12) <| pc (h13) <| pc (h14) <| pc (ob3 h16) <| pc (ob3 h18) <| pc (h19) <| pn)
          · injection h with h; subst h; exact runLp_sound mixedOrders (live := [0, 1, 2, 6, 7]) (ids := []) (π := [.dec true, .row (c3 x8), .dec false, .row (c3 x11), .dec false, .dec false]) (hx := by kernel_rfl) (hps := pc (h7) <| pc (ob3 h9) <| pc (h10) <| pc (ob3 h12) <| pc (h13) <| pc (h14) <| pn)
    · injection h with h; subst h; exact runLp_sound mixedOrders (live := [6]) (ids := []) (π := [.dec false]) (hx := by kernel_rfl) (hps := pc (h7) <| pn)
  · rcases r with _ | _ <;> exact Ex.noConfusion

theorem k_palingref03_Rising {a1 : List Int} {a2 : Int} {a3 : Int} {r : Bool} (h : palingref03_Rising a1 a2 a3 = some r) :
    CallsOK Try.prog UU 167 [.sl 3 a1, .v (.int .i64 a2), .v (.int .i64 a3)] [] (.v (.bool r)) [] := by
  unfold palingref03_Rising at h
  rcases ite_out h with ⟨h4, h⟩ | ⟨h4, h⟩
  · injection h with h; subst h; exact runFn_sound mixedOrders Try.func167 rfl (keep := none) (π := [.dec true]) (hrun := by kernel_rfl) (hps := pc (h4) <| pn)
  · rcases ite_out h with ⟨h5, h⟩ | ⟨h5, h⟩
    · injection h with h; subst h; exact runFn_sound mixedOrders Try.func167 rfl (keep := none) (π := [.dec false, .dec true]) (hrun := by kernel_rfl) (hps := pc (h4) <| pc (h5) <| pn)
    · obtain ⟨r21, h20, h⟩ := bind_out h
      rcases r21 with _ | _
      · injection h with h; subst h; exact runFn_sound mixedOrders Try.func167 rfl (keep := none) (π := [.dec false, .dec false, .sum [0, 1, 2, 6, 7] [] .ret [(6, .v (.bool false))] []]) (hrun := by kernel_rfl) (hps := pc (h4) <| pc (h5) <| pc (k_palingref03_Rising_L1 _ _ h20) <| pn)
      · injection h with h; subst h; exact runFn_sound mixedOrders Try.func167 rfl (keep := none) (π := [.dec false, .dec false, .sum [0, 1, 2, 6, 7] [] (.exit 0) [(6, .v (.bool false))] []]) (hrun := by kernel_rfl) (hps := pc (h4) <| pc (h5) <| pc (k_palingref03_Rising_L1 _ _ h20) <| pn)

theorem k_palingref15_rising {a1 : List Int} {a2 : Int} {r : Bool} (h : palingref15_rising a1 a2 = some r) :
    CallsOK Try.prog UU 163 [.sl 3 a1, .v (.int .i64 a2)] [] (.v (.bool r)) [] := by
  unfold palingref15_rising at h
  rcases ite_out h with ⟨h3, h⟩ | ⟨h3, h⟩
  · injection h with h; subst h; exact runFn_sound mixedOrders Try.func163 rfl (keep := none) (π := [.dec true]) (hrun := by kernel_rfl) (hps := pc (h3) <| pn)
  · obtain ⟨r4, h5, h⟩ := bind_out h
    injection h with h; subst h; exact runFn_sound mixedOrders Try.func163 rfl (keep := none) (π := [.dec false, .callv (.v (.bool r4))]) (hrun := by kernel_rfl) (hps := pc (h3) <| pc (k_palingref03_Rising h5) <| pn)

theorem k_palingref15_ports_J2 {a1 : Api_Net} {v2 : Int} {x4 : Api_Port} {r : Unit ⊕ Unit} (h : palingref15_ports_J2 a1 v2 x4 = some r) :
    ExecOK Try.prog UU 0 120 (subC (codeOf Try.f131) [1, 0, 1, 0, 0, 1, 0, 0, 1, 1, 0]) [(1, .op 0 1 0 0), (2, .v (.bool false)), (3, .v (.int .i64 v2)), (4, .op 1 1 0 0)] [.box 61 (c61 a1) false, .box 96 (c96 x4) false] ((fun r => match r with | Sum.inl _ => .ret | Sum.inr _ => .nor) r) ((fun r => match r with | Sum.inl _ => [(2, .v (.bool false))] | Sum.inr _ => [(1, .op 0 1 0 0), (2, .v (.bool false)), (3, .v (.int .i64 v2)), (4, .op 1 1 0 0)]) r) ((fun r => match r with | Sum.inl _ => [] | Sum.inr _ => [.box 61 (c61 a1) false, .box 96 (c96 x4) false]) r) := by
  unfold palingref15_ports_J2 at h
  rcases ite_out h with ⟨h17, h⟩ | ⟨h17, h⟩
  · rcases ite_out h with ⟨h18, h⟩ | ⟨h18, h⟩
    · injection h with h; subst h; exact runLp_sound mixedOrders (live := [2]) (ids := []) (π := [.dec true, .dec true]) (hx := by kernel_rfl) (hps := pc (h17) <| pc (h18) <| pn)
    · rcases ite_out h with ⟨h19, h⟩ | ⟨h19, h⟩
      · obtain ⟨r20, h21, h⟩ := bind_out h
        rcases ite_out h with ⟨h22, h⟩ | ⟨h22, h⟩
        · injection h with h; subst h; exact runLp_sound mixedOrders (live := [2]) (ids := []) (π := [.dec true, .dec false, .dec true, .callv (.v (.int .i64 r20)), .dec true]) (hx := by kernel_rfl) (hps := pc (h17) <| pc (h18) <| pc (h19) <| pc (k_palingref15_At h21) <| pc (h22) <| pn)
        · injection h with h; subst h; exact runLp_sound mixedOrders (live := [1, 2, 3, 4]) (ids := [0, 1]) (π := [.dec true, .dec false, .dec true, .callv (.v (.int .i64 r20)), .dec false]) (hx := by kernel_rfl) (hps := pc (h17) <| pc (h18) <| pc (h19) <| pc (k_palingref15_At h21) <| pc (h22) <| pn)
      · injection h with h; subst h; exact runLp_sound mixedOrders (live := [1, 2, 3, 4]) (ids := [0, 1]) (π := [.dec true, .dec false, .dec false]) (hx := by kernel_rfl) (hps := pc (h17) <| pc (h18) <| pc (h19) <| pn)
  · rcases ite_out h with ⟨h23, h⟩ | ⟨h23, h⟩
    · obtain ⟨r24, h25, h⟩ := bind_out h
      rcases ite_out h with ⟨h26, h⟩ | ⟨h26, h⟩
      · injection h with h; subst h; exact runLp_sound mixedOrders (live := [2]) (ids := []) (π := [.dec false, .dec true, .callv (.v (.int .i64 r24)), .dec true]) (hx := by kernel_rfl) (hps := pc (h17) <| pc (h23) <| pc (k_palingref15_At h25) <| pc (h26) <| pn)
      · injection h with h; subst h; exact runLp_sound mixedOrders (live := [1, 2, 3, 4]) (ids := [0, 1]) (π := [.dec false, .dec true, .callv (.v (.int .i64 r24)), .dec false]) (hx := by kernel_rfl) (hps := pc (h17) <| pc (h23) <| pc (k_palingref15_At h25) <| pc (h26) <| pn)
    · injection h with h; subst h; exact runLp_sound mixedOrders (live := [1, 2, 3, 4]) (ids := [0, 1]) (π := [.dec false, .dec false]) (hx := by kernel_rfl) (hps := pc (h17) <| pc (h23) <| pn)

theorem k_palingref15_ports_L3 {a1 : Api_Net} {v2 : Int} {x4 : Api_Port} : LoopOK Try.prog UU 0 120 (subC (codeOf Try.f131) [1, 0, 1, 0, 0, 1, 0, 0, 1, 1, 1, 0, 1, 0, 0]) (ρ := Unit ⊕ Unit) (palingref15_ports_L3 a1 v2 x4)
    (fun v29 : Int => ([(1, .op 0 1 0 0), (2, .v (.bool false)), (3, .v (.int .i64 v2)), (4, .op 1 1 0 0), (5, .v (.int .i64 v29))] : Fr DD)) (fun v29 : Int => ([.box 61 (c61 a1) false, .box 96 (c96 x4) false] : Heap DD)) (fun r => match r with | Sum.inl _ => .ret | Sum.inr _ => .exit 2) (fun r => match r with | Sum.inl _ => [(2, .v (.bool false))] | Sum.inr _ => [(1, .op 0 1 0 0), (2, .v (.bool false)), (3, .v (.int .i64 v2)), (4, .op 1 1 0 0)]) (fun r => match r with | Sum.inl _ => [] | Sum.inr _ => [.box 61 (c61 a1) false, .box 96 (c96 x4) false]) := by
  refine loop_sound3 (fun s q h => ?_) (fun r => ?_)
  · replace h : palingref15_ports_L3 a1 v2 x4 s = some q := h; revert h; revert s; intro v29 h
    unfold palingref15_ports_L3 at h
    rcases ite_out h with ⟨h30, h⟩ | ⟨h30, h⟩
    · obtain ⟨x31, h32, h⟩ := bind_out h
      obtain ⟨r33, h34, h⟩ := bind_out h
      rcases ite_out h with ⟨h35, h⟩ | ⟨h35, h⟩
      · injection h with h; subst h; exact runLp_sound mixedOrders (live := [2]) (ids := []) (π := [.dec true, .row (c3 x31), .callv (.v (.int .i64 r33)), .dec true]) (hx := by kernel_rfl) (hps := pc (h30) <| pc (ob3 h32) <| pc (k_palingref15_At h34) <| pc (h35) <| pn)
      · injection h with h; subst h; exact runLp_sound mixedOrders (live := [1, 2, 3, 4, 5]) (ids := [0, 1]) (π := [.dec true, .row (c3 x31), .callv (.v (.int .i64 r33)), .dec false]) (hx := by kernel_rfl) (hps := pc (h30) <| pc (ob3 h32) <| pc (k_palingref15_At h34) <| pc (h35) <| pn)
    · injection h with h; subst h; exact runLp_sound mixedOrders (live := [1, 2, 3, 4]) (ids := [0, 1]) (π := [.dec false]) (hx := by kernel_rfl) (hps := pc (h30) <| pn)
  · rcases r with _ | _ <;> exact Ex.noConfusion

theorem k_palingref15_ports_L1 {a1 : Api_Net} : LoopOK Try.prog UU 0 120 (subC (codeOf Try.f131) [1, 0, 1, 0, 0]) (ρ := Unit ⊕ Unit) (palingref15_ports_L1 a1)
    (fun v2 : Int => ([(1, .op 0 1 0 0), (2, .v (.bool false)), (3, .v (.int .i64 v2))] : Fr DD)) (fun v2 : Int => ([.box 61 (c61 a1) false] : Heap DD)) (fun r => match r with | Sum.inl _ => .ret | Sum.inr _ => .exit 0) (fun r => match r with | Sum.inl _ => [(2, .v (.bool false))] | Sum.inr _ => [(2, .v (.bool false))]) (fun r => match r with | Sum.inl _ => [] | Sum.inr _ => []) := by
  refine loop_sound3 (fun s q h => ?_) (fun r => ?_)
  · replace h : palingref15_ports_L1 a1 s = some q := h; revert h; revert s; intro v2 h
    unfold palingref15_ports_L1 at h
    rcases ite_out h with ⟨h3, h⟩ | ⟨h3, h⟩
    · obtain ⟨x4, h5, h⟩ := bind_out h
      obtain ⟨r6, h7, h⟩ := bind_out h
      rcases ite_out h with ⟨h8, h⟩ | ⟨h8, h⟩
      · injection h with h; subst h; exact runLp_sound mixedOrders (live := [2]) (ids := []) (π := [.dec true, .row (c96 x4), .callv (.v (.bool r6)), .dec true]) (hx := by kernel_rfl) (hps := pc (h3) <| pc (ob96 h5) <| pc (k_palingref15_Place h7) <| pc (h8) <| pn)
      · rcases ite_out h with ⟨h9, h⟩ | ⟨h9, h⟩
        · injection h with h; subst h; exact runLp_sound mixedOrders (live := [2]) (ids := []) (π := [.dec true, .row (c96 x4), .callv (.v (.bool r6)), .dec false, .dec true]) (hx := by kernel_rfl) (hps := pc (h3) <| pc (ob96 h5) <| pc (k_palingref15_Place h7) <| pc (h8) <| pc (h9) <| pn)
        · rcases ite_out h with ⟨h10, h⟩ | ⟨h10, h⟩
          · injection h with h; subst h; exact runLp_sound mixedOrders (live := [2]) (ids := []) (π := [.dec true, .row (c96 x4), .callv (.v (.bool r6)), .dec false, .dec false, .dec true]) (hx := by kernel_rfl) (hps := pc (h3) <| pc (ob96 h5) <| pc (k_palingref15_Place h7) <| pc (h8) <| pc (h9) <| pc (h10) <| pn)
          · obtain ⟨r11, h12, h⟩ := bind_out h
            rcases ite_out h with ⟨h13, h⟩ | ⟨h13, h⟩
            · injection h with h; subst h; exact runLp_sound mixedOrders (live := [2]) (ids := []) (π := [.dec true, .row (c96 x4), .callv (.v (.bool r6)), .dec false, .dec false, .dec false, .callv (.v (.bool r11)), .dec true]) (hx := by kernel_rfl) (hps := pc (h3) <| pc (ob96 h5) <| pc (k_palingref15_Place h7) <| pc (h8) <| pc (h9) <| pc (h10) <| pc (k_palingref15_rising h12) <| pc (h13) <| pn)
            · obtain ⟨r14, h15, h⟩ := bind_out h
              rcases ite_out h with ⟨h16, h⟩ | ⟨h16, h⟩
              · injection h with h; subst h; exact runLp_sound mixedOrders (live := [2]) (ids := []) (π := [.dec true, .row (c96 x4), .callv (.v (.bool r6)), .dec false, .dec false, .dec false, .callv (.v (.bool r11)), .dec false, .callv (.v (.bool r14)), .dec true]) (hx := by kernel_rfl) (hps := pc (h3) <| pc (ob96 h5) <| pc (k_palingref15_Place h7) <| pc (h8) <| pc (h9) <| pc (h10) <| pc (k_palingref15_rising h12) <| pc (h13) <| pc (k_palingref15_In h15) <| pc (h16) <| pn)
              · obtain ⟨r28, h27, h⟩ := bind_out h
                rcases r28 with _ | _
                · injection h with h; subst h; exact runLp_sound mixedOrders (live := [2]) (ids := []) (π := [.dec true, .row (c96 x4), .callv (.v (.bool r6)), .dec false, .dec false, .dec false, .callv (.v (.bool r11)), .dec false, .callv (.v (.bool r14)), .dec false, .cut [1, 2, 3, 4] [0, 2] .ret [(2, .v (.bool false))] []]) (hx := by kernel_rfl) (hps := pc (h3) <| pc (ob96 h5) <| pc (k_palingref15_Place h7) <| pc (h8) <| pc (h9) <| pc (h10) <| pc (k_palingref15_rising h12) <| pc (h13) <| pc (k_palingref15_In h15) <| pc (h16) <| pc (k_palingref15_ports_J2 h27) <| pn)
                · obtain ⟨r37, h36, h⟩ := bind_out h
                  rcases r37 with _ | _
                  · injection h with h; subst h; exact runLp_sound mixedOrders (live := [2]) (ids := []) (π := [.dec true, .row (c96 x4), .callv (.v (.bool r6)), .dec false, .dec false, .dec false, .callv (.v (.bool r11)), .dec false, .callv (.v (.bool r14)), .dec false, .cut [1, 2, 3, 4] [0, 2] .nor [(1, .op 0 1 0 0), (2, .v (.bool false)), (3, .v (.int .i64 v2)), (4, .op 1 1 0 0)] [.box 61 (c61 a1) false, .box 96 (c96 x4) false], .sum [1, 2, 3, 4, 5] [0, 1] .ret [(2, .v (.bool false))] []]) (hx := by kernel_rfl) (hps := pc (h3) <| pc (ob96 h5) <| pc (k_palingref15_Place h7) <| pc (h8) <| pc (h9) <| pc (h10) <| pc (k_palingref15_rising h12) <| pc (h13) <| pc (k_palingref15_In h15) <| pc (h16) <| pc (k_palingref15_ports_J2 h27) <| pc (k_palingref15_ports_L3 _ _ h36) <| pn)
                  · rcases ite_out h with ⟨h38, h⟩ | ⟨h38, h⟩
                    · injection h with h; subst h; exact runLp_sound mixedOrders (live := [1, 2, 3]) (ids := [0]) (π := [.dec true, .row (c96 x4), .callv (.v (.bool r6)), .dec false, .dec false, .dec false, .callv (.v (.bool r11)), .dec false, .callv (.v (.bool r14)), .dec false, .cut [1, 2, 3, 4] [0, 2] .nor [(1, .op 0 1 0 0), (2, .v (.bool false)), (3, .v (.int .i64 v2)), (4, .op 1 1 0 0)] [.box 61 (c61 a1) false, .box 96 (c96 x4) false], .sum [1, 2, 3, 4, 5] [0, 1] (.exit 2) [(1, .op 0 1 0 0), (2, .v (.bool false)), (3, .v (.int .i64 v2)), (4, .op 1 1 0 0)] [.box 61 (c61 a1) false, .box 96 (c96 x4) false], .dec true]) (hx := by kernel_rfl) (hps := pc (h3) <| pc (ob96 h5) <| pc (k_palingref15_Place h7) <| pc (h8) <| pc (h9) <| pc (h10) <| pc (k_palingref15_rising h12) <| pc (h13) <| pc (k_palingref15_In h15) <| pc (h16) <| pc (k_palingref15_ports_J2 h27) <| pc (k_palingref15_ports_L3 _ _ h36) <| pc (h38) <| pn)
                    · obtain ⟨r39, h40, h⟩ := bind_out h
                      rcases ite_out h with ⟨h41, h⟩ | ⟨h41, h⟩
                      · injection h with h; subst h; exact runLp_sound mixedOrders (live := [2]) (ids := []) (π := [.dec true, .row (c96 x4), .callv (.v (.bool r6)), .dec false, .dec false, .dec false, .callv (.v (.bool r11)), .dec false, .callv (.v (.bool r14)), .dec false, .cut [1, 2, 3, 4] [0, 2] .nor [(1, .op 0 1 0 0), (2, .v (.bool false)), (3, .v (.int .i64 v2)), (4, .op 1 1 0 0)] [.box 61 (c61 a1) false, .box 96 (c96 x4) false], .sum [1, 2, 3, 4, 5] [0, 1] (.exit 2) [(1, .op 0 1 0 0), (2, .v (.bool false)), (3, .v (.int .i64 v2)), (4, .op 1 1 0 0)] [.box 61 (c61 a1) false, .box 96 (c96 x4) false], .dec false, .callv (.v (.bool r39)), .dec true]) (hx := by kernel_rfl) (hps := pc (h3) <| pc (ob96 h5) <| pc (k_palingref15_Place h7) <| pc (h8) <| pc (h9) <| pc (h10) <| pc (k_palingref15_rising h12) <| pc (h13) <| pc (k_palingref15_In h15) <| pc (h16) <| pc (k_palingref15_ports_J2 h27) <| pc (k_palingref15_ports_L3 _ _ h36) <| pc (h38) <| pc (k_palingref15_Place h40) <| pc (h41) <| pn)
                      · obtain ⟨x42, h43, h⟩ := bind_out h
                        rcases ite_out h with ⟨h44, h⟩ | ⟨h44, h⟩
                        · obtain ⟨x45, h46, h⟩ := bind_out h
                          rcases ite_out h with ⟨h47, h⟩ | ⟨h47, h⟩
                          · injection h with h; subst h; exact runLp_sound mixedOrders (live := [2]) (ids := []) (π := [.dec true, .row (c96 x4), .callv (.v (.bool r6)), .dec false, .dec false, .dec false, .callv (.v (.bool r11)), .dec false, .callv (.v (.bool r14)), .dec false, .cut [1, 2, 3, 4] [0, 2] .nor [(1, .op 0 1 0 0), (2, .v (.bool false)), (3, .v (.int .i64 v2)), (4, .op 1 1 0 0)] [.box 61 (c61 a1) false, .box 96 (c96 x4) false], .sum [1, 2, 3, 4, 5] [0, 1] (.exit 2) [(1, .op 0 1 0 0), (2, .v (.bool false)), (3, .v (.int .i64 v2)), (4, .op 1 1 0 0)] [.box 61 (c61 a1) false, .box 96 (c96 x4) false], .dec false, .callv (.v (.bool r39)), .dec false, .row (c153 x42), .dec true, .row (c153 x45), .dec true]) (hx := by kernel_rfl) (hps := pc (h3) <| pc (ob96 h5) <| pc (k_palingref15_Place h7) <| pc (h8) <| pc (h9) <| pc (h10) <| pc (k_palingref15_rising h12) <| pc (h13) <| pc (k_palingref15_In h15) <| pc (h16) <| pc (k_palingref15_ports_J2 h27) <| pc (k_palingref15_ports_L3 _ _ h36) <| pc (h38) <| pc (k_palingref15_Place h40) <| pc (h41) <| pc (ob153 h43) <| pc (h44) <| pc (ob153 h46) <| pc (h47) <| pn)
                          · injection h with h; subst h; exact runLp_sound mixedOrders (live := [1, 2, 3]) (ids := [0]) (π := [.dec true, .row (c96 x4), .callv (.v (.bool r6)), .dec false, .dec false, .dec false, .callv (.v (.bool r11)), .dec false, .callv (.v (.bool r14)), .dec false, .cut [1, 2, 3, 4] [0, 2] .nor [(1, .op 0 1 0 0), (2, .v (.bool false)), (3, .v (.int .i64 v2)), (4, .op 1 1 0 0)] [.box 61 (c61 a1) false, .box 96 (c96 x4) false], .sum [1, 2, 3, 4, 5] [0, 1] (.exit 2) [(1, .op 0 1 0 0), (2, .v (.bool false)), (3, .v (.int .i64 v2)), (4, .op 1 1 0 0)] [.box 61 (c61 a1) false, .box 96 (c96 x4) false], .dec false, .callv (.v (.bool r39)), .dec false, .row (c153 x42), .dec true, .row (c153 x45), .dec false]) (hx := by kernel_rfl) (hps := pc (h3) <| pc (ob96 h5) <| pc (k_palingref15_Place h7) <| pc (h8) <| pc (h9) <| pc (h10) <| pc (k_palingref15_rising h12) <| pc (h13) <| pc (k_palingref15_In h15) <| pc (h16) <| pc (k_palingref15_ports_J2 h27) <| pc (k_palingref15_ports_L3 _ _ h36) <| pc (h38) <| pc (k_palingref15_Place h40) <| pc (h41) <| pc (ob153 h43) <| pc (h44) <| pc (ob153 h46) <| pc (h47) <| pn)
                        · injection h with h; subst h; exact runLp_sound mixedOrders (live := [1, 2, 3]) (ids := [0]) (π := [.dec true, .row (c96 x4), .callv (.v (.bool r6)), .dec false, .dec false, .dec false, .callv (.v (.bool r11)), .dec false, .callv (.v (.bool r14)), .dec false, .cut [1, 2, 3, 4] [0, 2] .nor [(1, .op 0 1 0 0), (2, .v (.bool false)), (3, .v (.int .i64 v2)), (4, .op 1 1 0 0)] [.box 61 (c61 a1) false, .box 96 (c96 x4) false], .sum [1, 2, 3, 4, 5] [0, 1] (.exit 2) [(1, .op 0 1 0 0), (2, .v (.bool false)), (3, .v (.int .i64 v2)), (4, .op 1 1 0 0)] [.box 61 (c61 a1) false, .box 96 (c96 x4) false], .dec false, .callv (.v (.bool r39)), .dec false, .row (c153 x42), .dec false]) (hx := by kernel_rfl) (hps := pc (h3) <| pc (ob96 h5) <| pc (k_palingref15_Place h7) <| pc (h8) <| pc (h9) <| pc (h10) <| pc (k_palingref15_rising h12) <| pc (h13) <| pc (k_palingref15_In h15) <| pc (h16) <| pc (k_palingref15_ports_J2 h27) <| pc (k_palingref15_ports_L3 _ _ h36) <| pc (h38) <| pc (k_palingref15_Place h40) <| pc (h41) <| pc (ob153 h43) <| pc (h44) <| pn)
    · injection h with h; subst h; exact runLp_sound mixedOrders (live := [2]) (ids := []) (π := [.dec false]) (hx := by kernel_rfl) (hps := pc (h3) <| pn)
  · rcases r with _ | _ <;> exact Ex.noConfusion

theorem k_palingref15_ports {a1 : Api_Net} {r : Bool} (h : palingref15_ports a1 = some r) :
    CallsOK Try.prog UU 131 [.agg (c61 a1)] [] (.v (.bool r)) [] := by
  unfold palingref15_ports at h
  obtain ⟨r49, h48, h⟩ := bind_out h
  rcases r49 with _ | _
  · injection h with h; subst h; exact runFn_sound mixedOrders Try.func131 rfl (keep := none) (π := [.sum [1, 2, 3] [0] .ret [(2, .v (.bool false))] []]) (hrun := by kernel_rfl) (hps := pc (k_palingref15_ports_L1 _ _ h48) <| pn)
  · injection h with h; subst h; exact runFn_sound mixedOrders Try.func131 rfl (keep := none) (π := [.sum [1, 2, 3] [0] (.exit 0) [(2, .v (.bool false))] []]) (hrun := by kernel_rfl) (hps := pc (k_palingref15_ports_L1 _ _ h48) <| pn)

theorem k_palingref15_links_L1 {a1 : Api_Net} : LoopOK Try.prog UU 0 70 (subC (codeOf Try.f132) [1, 0, 1, 0, 0]) (ρ := Unit ⊕ Unit) (palingref15_links_L1 a1)
    (fun v2 : Int => ([(1, .op 0 1 0 0), (2, .v (.bool false)), (3, .v (.int .i64 v2))] : Fr DD)) (fun v2 : Int => ([.box 61 (c61 a1) false] : Heap DD)) (fun r => match r with | Sum.inl _ => .ret | Sum.inr _ => .exit 0) (fun r => match r with | Sum.inl _ => [(2, .v (.bool false))] | Sum.inr _ => [(2, .v (.bool false))]) (fun r => match r with | Sum.inl _ => [] | Sum.inr _ => []) := by
  refine loop_sound3 (fun s q h => ?_) (fun r => ?_)
  · replace h : palingref15_links_L1 a1 s = some q := h; revert h; revert s; intro v2 h
    unfold palingref15_links_L1 at h
    rcases ite_out h with ⟨h3, h⟩ | ⟨h3, h⟩
    · obtain ⟨x4, h5, h⟩ := bind_out h
      obtain ⟨r6, h7, h⟩ := bind_out h
      rcases ite_out h with ⟨h8, h⟩ | ⟨h8, h⟩
      · injection h with h; subst h; exact runLp_sound mixedOrders (live := [2]) (ids := []) (π := [.dec true, .row (c153 x4), .callv (.v (.bool r6)), .dec true]) (hx := by kernel_rfl) (hps := pc (h3) <| pc (ob153 h5) <| pc (k_palingref15_Place h7) <| pc (h8) <| pn)
      · obtain ⟨r9, h10, h⟩ := bind_out h
        rcases ite_out h with ⟨h11, h⟩ | ⟨h11, h⟩
        · injection h with h; subst h; exact runLp_sound mixedOrders (live := [2]) (ids := []) (π := [.dec true, .row (c153 x4), .callv (.v (.bool r6)), .dec false, .callv (.v (.bool r9)), .dec true]) (hx := by kernel_rfl) (hps := pc (h3) <| pc (ob153 h5) <| pc (k_palingref15_Place h7) <| pc (h8) <| pc (k_palingref15_Place h10) <| pc (h11) <| pn)
        · obtain ⟨x12, h13, h⟩ := bind_out h
          obtain ⟨x14, h15, h⟩ := bind_out h
          rcases ite_out h with ⟨h16, h⟩ | ⟨h16, h⟩
          · injection h with h; subst h; exact runLp_sound mixedOrders (live := [2]) (ids := []) (π := [.dec true, .row (c153 x4), .callv (.v (.bool r6)), .dec false, .callv (.v (.bool r9)), .dec false, .row (c96 x12), .row (c96 x14), .dec true]) (hx := by kernel_rfl) (hps := pc (h3) <| pc (ob153 h5) <| pc (k_palingref15_Place h7) <| pc (h8) <| pc (k_palingref15_Place h10) <| pc (h11) <| pc (ob96 h13) <| pc (ob96 h15) <| pc (h16) <| pn)
          · obtain ⟨x17, h18, h⟩ := bind_out h
            rcases ite_out h with ⟨h19, h⟩ | ⟨h19, h⟩
            · injection h with h; subst h; exact runLp_sound mixedOrders (live := [2]) (ids := []) (π := [.dec true, .row (c153 x4), .callv (.v (.bool r6)), .dec false, .callv (.v (.bool r9)), .dec false, .row (c96 x12), .row (c96 x14), .dec false, .row (c96 x17), .dec true]) (hx := by kernel_rfl) (hps := pc (h3) <| pc (ob153 h5) <| pc (k_palingref15_Place h7) <| pc (h8) <| pc (k_palingref15_Place h10) <| pc (h11) <| pc (ob96 h13) <| pc (ob96 h15) <| pc (h16) <| pc (ob96 h18) <| pc (h19) <| pn)
            · obtain ⟨x20, h21, h⟩ := bind_out h
              rcases ite_out h with ⟨h22, h⟩ | ⟨h22, h⟩
              · injection h with h; subst h; exact runLp_sound mixedOrders (live := [2]) (ids := []) (π := [.dec true, .row (c153 x4), .callv (.v (.bool r6)), .dec false, .callv (.v (.bool r9)), .dec false, .row (c96 x12), .row (c96 x14), .dec false, .row (c96 x17), .dec false, .row (c96 x20), .dec true]) (hx := by kernel_rfl) (hps := pc (h3) <| pc (ob153 h5) <| pc (k_palingref15_Place h7) <| pc (h8) <| pc (k_palingref15_Place h10) <| pc (h11) <| pc (ob96 h13) <| pc (ob96 h15) <| pc (h16) <| pc (ob96 h18) <| pc (h19) <| pc (ob96 h21) <| pc (h22) <| pn)
              · injection h with h; subst h; exact runLp_sound mixedOrders (live := [1, 2, 3]) (ids := [0]) (π := [.dec true, .row (c153 x4), .callv (.v (.bool r6)), .dec false, .callv (.v (.bool r9)), .dec false, .row (c96 x12), .row (c96 x14), .dec false, .row (c96 x17), .dec false, .row (c96 x20), .dec false]) (hx := by kernel_rfl) (hps := pc (h3) <| pc (ob153 h5) <| pc (k_palingref15_Place h7) <| pc (h8) <| pc (k_palingref15_Place h10) <| pc (h11) <| pc (ob96 h13) <| pc (ob96 h15) <| pc (h16) <| pc (ob96 h18) <| pc (h19) <| pc (ob96 h21) <| pc (h22) <| pn)
    · injection h with h; subst h; exact runLp_sound mixedOrders (live := [2]) (ids := []) (π := [.dec false]) (hx := by kernel_rfl) (hps := pc (h3) <| pn)
  · rcases r with _ | _ <;> exact Ex.noConfusion

theorem k_palingref15_links {a1 : Api_Net} {r : Bool} (h : palingref15_links a1 = some r) :
    CallsOK Try.prog UU 132 [.agg (c61 a1)] [] (.v (.bool r)) [] := by
  unfold palingref15_links at h
  obtain ⟨r24, h23, h⟩ := bind_out h
  rcases r24 with _ | _
  · injection h with h; subst h; exact runFn_sound mixedOrders Try.func132 rfl (keep := none) (π := [.sum [1, 2, 3] [0] .ret [(2, .v (.bool false))] []]) (hrun := by kernel_rfl) (hps := pc (k_palingref15_links_L1 _ _ h23) <| pn)
  · injection h with h; subst h; exact runFn_sound mixedOrders Try.func132 rfl (keep := none) (π := [.sum [1, 2, 3] [0] (.exit 0) [(2, .v (.bool false))] []]) (hrun := by kernel_rfl) (hps := pc (k_palingref15_links_L1 _ _ h23) <| pn)

theorem k_palingref15_Member {a1 : Api_Port} {a2 : Int} {r : Bool} (h : palingref15_Member a1 a2 = some r) :
    CallsOK Try.prog UU 134 [.agg (c96 a1), .v (.int .i64 a2)] [] (.v (.bool r)) [] := by
  unfold palingref15_Member at h
  rcases ite_out h with ⟨h3, h⟩ | ⟨h3, h⟩
  · rcases ite_out h with ⟨h4, h⟩ | ⟨h4, h⟩
    · injection h with h; subst h; exact runFn_sound mixedOrders Try.func134 rfl (keep := none) (π := [.dec true, .dec true]) (hrun := by kernel_rfl) (hps := pc (h3) <| pc (h4) <| pn)
    · obtain ⟨r5, h6, h⟩ := bind_out h
      injection h with h; subst h; exact runFn_sound mixedOrders Try.func134 rfl (keep := none) (π := [.dec true, .dec false, .callv (.v (.bool r5))]) (hrun := by kernel_rfl) (hps := pc (h3) <| pc (h4) <| pc (k_palingref15_In h6) <| pn)
  · injection h with h; subst h; exact runFn_sound mixedOrders Try.func134 rfl (keep := none) (π := [.dec false]) (hrun := by kernel_rfl) (hps := pc (h3) <| pn)

theorem k_palingref15_rest_L1 {a1 : Api_Net} : LoopOK Try.prog UU 0 192 (subC (codeOf Try.f133) [1, 0, 1, 0, 0]) (ρ := Unit ⊕ Unit) (palingref15_rest_L1 a1)
    (fun v2 : Int => ([(1, .op 0 1 0 0), (2, .v (.bool false)), (3, .v (.int .i64 v2))] : Fr DD)) (fun v2 : Int => ([.box 61 (c61 a1) false] : Heap DD)) (fun r => match r with | Sum.inl _ => .ret | Sum.inr _ => .exit 0) (fun r => match r with | Sum.inl _ => [(2, .v (.bool false))] | Sum.inr _ => [(1, .op 0 1 0 0), (2, .v (.bool false))]) (fun r => match r with | Sum.inl _ => [] | Sum.inr _ => [.box 61 (c61 a1) false]) := by
  refine loop_sound3 (fun s q h => ?_) (fun r => ?_)
  · replace h : palingref15_rest_L1 a1 s = some q := h; revert h; revert s; intro v2 h
    unfold palingref15_rest_L1 at h
    rcases ite_out h with ⟨h3, h⟩ | ⟨h3, h⟩
    · obtain ⟨x4, h5, h⟩ := bind_out h
      obtain ⟨r6, h7, h⟩ := bind_out h
      rcases ite_out h with ⟨h8, h⟩ | ⟨h8, h⟩
      · injection h with h; subst h; exact runLp_sound mixedOrders (live := [2]) (ids := []) (π := [.dec true, .row (c166 x4), .callv (.v (.bool r6)), .dec true]) (hx := by kernel_rfl) (hps := pc (h3) <| pc (ob166 h5) <| pc (k_palingref15_Place h7) <| pc (h8) <| pn)
      · obtain ⟨r9, h10, h⟩ := bind_out h
        rcases ite_out h with ⟨h11, h⟩ | ⟨h11, h⟩
        · injection h with h; subst h; exact runLp_sound mixedOrders (live := [2]) (ids := []) (π := [.dec true, .row (c166 x4), .callv (.v (.bool r6)), .dec false, .callv (.v (.bool r9)), .dec true]) (hx := by kernel_rfl) (hps := pc (h3) <| pc (ob166 h5) <| pc (k_palingref15_Place h7) <| pc (h8) <| pc (k_palingref15_Place h10) <| pc (h11) <| pn)
        · obtain ⟨x12, h13, h⟩ := bind_out h
          obtain ⟨x14, h15, h⟩ := bind_out h
          rcases ite_out h with ⟨h16, h⟩ | ⟨h16, h⟩
          · injection h with h; subst h; exact runLp_sound mixedOrders (live := [2]) (ids := []) (π := [.dec true, .row (c166 x4), .callv (.v (.bool r6)), .dec false, .callv (.v (.bool r9)), .dec false, .row (c85 x12), .row (c96 x14), .dec true]) (hx := by kernel_rfl) (hps := pc (h3) <| pc (ob166 h5) <| pc (k_palingref15_Place h7) <| pc (h8) <| pc (k_palingref15_Place h10) <| pc (h11) <| pc (ob85 h13) <| pc (ob96 h15) <| pc (h16) <| pn)
          · obtain ⟨x17, h18, h⟩ := bind_out h
            obtain ⟨r19, h20, h⟩ := bind_out h
            rcases ite_out h with ⟨h21, h⟩ | ⟨h21, h⟩
            · injection h with h; subst h; exact runLp_sound mixedOrders (live := [2]) (ids := []) (π := [.dec true, .row (c166 x4), .callv (.v (.bool r6)), .dec false, .callv (.v (.bool r9)), .dec false, .row (c85 x12), .row (c96 x14), .dec false, .row (c96 x17), .callv (.v (.bool r19)), .dec true]) (hx := by kernel_rfl) (hps := pc (h3) <| pc (ob166 h5) <| pc (k_palingref15_Place h7) <| pc (h8) <| pc (k_palingref15_Place h10) <| pc (h11) <| pc (ob85 h13) <| pc (ob96 h15) <| pc (h16) <| pc (ob96 h18) <| pc (k_palingref15_Member h20) <| pc (h21) <| pn)
            · injection h with h; subst h; exact runLp_sound mixedOrders (live := [1, 2, 3]) (ids := [0]) (π := [.dec true, .row (c166 x4), .callv (.v (.bool r6)), .dec false, .callv (.v (.bool r9)), .dec false, .row (c85 x12), .row (c96 x14), .dec false, .row (c96 x17), .callv (.v (.bool r19)), .dec false]) (hx := by kernel_rfl) (hps := pc (h3) <| pc (ob166 h5) <| pc (k_palingref15_Place h7) <| pc (h8) <| pc (k_palingref15_Place h10) <| pc (h11) <| pc (ob85 h13) <| pc (ob96 h15) <| pc (h16) <| pc (ob96 h18) <| pc (k_palingref15_Member h20) <| pc (h21) <| pn)
    · injection h with h; subst h; exact runLp_sound mixedOrders (live := [1, 2]) (ids := [0]) (π := [.dec false]) (hx := by kernel_rfl) (hps := pc (h3) <| pn)
  · rcases r with _ | _ <;> exact Ex.noConfusion

theorem k_palingref15_rest_L2 {a1 : Api_Net} : LoopOK Try.prog UU 0 192 (subC (codeOf Try.f133) [1, 1, 0, 1, 0, 0]) (ρ := Unit ⊕ Unit) (palingref15_rest_L2 a1)
    (fun v24 : Int => ([(1, .op 0 1 0 0), (2, .v (.bool false)), (6, .v (.int .i64 v24))] : Fr DD)) (fun v24 : Int => ([.box 61 (c61 a1) false] : Heap DD)) (fun r => match r with | Sum.inl _ => .ret | Sum.inr _ => .exit 2) (fun r => match r with | Sum.inl _ => [(2, .v (.bool false))] | Sum.inr _ => [(1, .op 0 1 0 0), (2, .v (.bool false))]) (fun r => match r with | Sum.inl _ => [] | Sum.inr _ => [.box 61 (c61 a1) false]) := by
  refine loop_sound3 (fun s q h => ?_) (fun r => ?_)
  · replace h : palingref15_rest_L2 a1 s = some q := h; revert h; revert s; intro v24 h
    unfold palingref15_rest_L2 at h
    rcases ite_out h with ⟨h25, h⟩ | ⟨h25, h⟩
    · obtain ⟨x26, h27, h⟩ := bind_out h
      obtain ⟨r28, h29, h⟩ := bind_out h
      rcases ite_out h with ⟨h30, h⟩ | ⟨h30, h⟩
      · injection h with h; subst h; exact runLp_sound mixedOrders (live := [2]) (ids := []) (π := [.dec true, .row (c128 x26), .callv (.v (.bool r28)), .dec true]) (hx := by kernel_rfl) (hps := pc (h25) <| pc (ob128 h27) <| pc (k_palingref15_Place h29) <| pc (h30) <| pn)
      · obtain ⟨x31, h32, h⟩ := bind_out h
        rcases ite_out h with ⟨h33, h⟩ | ⟨h33, h⟩
        · injection h with h; subst h; exact runLp_sound mixedOrders (live := [2]) (ids := []) (π := [.dec true, .row (c128 x26), .callv (.v (.bool r28)), .dec false, .row (c128 x31), .dec true]) (hx := by kernel_rfl) (hps := pc (h25) <| pc (ob128 h27) <| pc (k_palingref15_Place h29) <| pc (h30) <| pc (ob128 h32) <| pc (h33) <| pn)
        · injection h with h; subst h; exact runLp_sound mixedOrders (live := [1, 2, 6]) (ids := [0]) (π := [.dec true, .row (c128 x26), .callv (.v (.bool r28)), .dec false, .row (c128 x31), .dec false]) (hx := by kernel_rfl) (hps := pc (h25) <| pc (ob128 h27) <| pc (k_palingref15_Place h29) <| pc (h30) <| pc (ob128 h32) <| pc (h33) <| pn)
    · injection h with h; subst h; exact runLp_sound mixedOrders (live := [1, 2]) (ids := [0]) (π := [.dec false]) (hx := by kernel_rfl) (hps := pc (h25) <| pn)
  · rcases r with _ | _ <;> exact Ex.noConfusion

theorem k_palingref15_rest_L3 {a1 : Api_Net} : LoopOK Try.prog UU 0 192 (subC (codeOf Try.f133) [1, 1, 1, 0, 1, 0, 0]) (ρ := Unit ⊕ Unit) (palingref15_rest_L3 a1)
    (fun v36 : Int => ([(1, .op 0 1 0 0), (2, .v (.bool false)), (7, .v (.int .i64 v36))] : Fr DD)) (fun v36 : Int => ([.box 61 (c61 a1) false] : Heap DD)) (fun r => match r with | Sum.inl _ => .ret | Sum.inr _ => .exit 4) (fun r => match r with | Sum.inl _ => [(2, .v (.bool false))] | Sum.inr _ => [(1, .op 0 1 0 0), (2, .v (.bool false))]) (fun r => match r with | Sum.inl _ => [] | Sum.inr _ => [.box 61 (c61 a1) false]) := by
  refine loop_sound3 (fun s q h => ?_) (fun r => ?_)
  · replace h : palingref15_rest_L3 a1 s = some q := h; revert h; revert s; intro v36 h
    unfold palingref15_rest_L3 at h
    rcases ite_out h with ⟨h37, h⟩ | ⟨h37, h⟩
    · obtain ⟨x38, h39, h⟩ := bind_out h
      obtain ⟨r40, h41, h⟩ := bind_out h
      rcases ite_out h with ⟨h42, h⟩ | ⟨h42, h⟩
      · injection h with h; subst h; exact runLp_sound mixedOrders (live := [2]) (ids := []) (π := [.dec true, .row (c71 x38), .callv (.v (.bool r40)), .dec true]) (hx := by kernel_rfl) (hps := pc (h37) <| pc (ob71 h39) <| pc (k_palingref15_Place h41) <| pc (h42) <| pn)
      · obtain ⟨r43, h44, h⟩ := bind_out h
        rcases ite_out h with ⟨h45, h⟩ | ⟨h45, h⟩
        · injection h with h; subst h; exact runLp_sound mixedOrders (live := [2]) (ids := []) (π := [.dec true, .row (c71 x38), .callv (.v (.bool r40)), .dec false, .callv (.v (.bool r43)), .dec true]) (hx := by kernel_rfl) (hps := pc (h37) <| pc (ob71 h39) <| pc (k_palingref15_Place h41) <| pc (h42) <| pc (k_palingref15_rising h44) <| pc (h45) <| pn)
        · obtain ⟨r46, h47, h⟩ := bind_out h
          rcases ite_out h with ⟨h48, h⟩ | ⟨h48, h⟩
          · injection h with h; subst h; exact runLp_sound mixedOrders (live := [2]) (ids := []) (π := [.dec true, .row (c71 x38), .callv (.v (.bool r40)), .dec false, .callv (.v (.bool r43)), .dec false, .callv (.v (.bool r46)), .dec true]) (hx := by kernel_rfl) (hps := pc (h37) <| pc (ob71 h39) <| pc (k_palingref15_Place h41) <| pc (h42) <| pc (k_palingref15_rising h44) <| pc (h45) <| pc (k_palingref15_rising h47) <| pc (h48) <| pn)
          · injection h with h; subst h; exact runLp_sound mixedOrders (live := [1, 2, 7]) (ids := [0]) (π := [.dec true, .row (c71 x38), .callv (.v (.bool r40)), .dec false, .callv (.v (.bool r43)), .dec false, .callv (.v (.bool r46)), .dec false]) (hx := by kernel_rfl) (hps := pc (h37) <| pc (ob71 h39) <| pc (k_palingref15_Place h41) <| pc (h42) <| pc (k_palingref15_rising h44) <| pc (h45) <| pc (k_palingref15_rising h47) <| pc (h48) <| pn)
    · injection h with h; subst h; exact runLp_sound mixedOrders (live := [1, 2]) (ids := [0]) (π := [.dec false]) (hx := by kernel_rfl) (hps := pc (h37) <| pn)
  · rcases r with _ | _ <;> exact Ex.noConfusion

theorem k_palingref15_rest_L4 {a1 : Api_Net} : LoopOK Try.prog UU 0 192 (subC (codeOf Try.f133) [1, 1, 1, 1, 0, 1, 0, 0]) (ρ := Unit ⊕ Unit) (palingref15_rest_L4 a1)
    (fun v51 : Int => ([(1, .op 0 1 0 0), (2, .v (.bool false)), (9, .v (.int .i64 v51))] : Fr DD)) (fun v51 : Int => ([.box 61 (c61 a1) false] : Heap DD)) (fun r => match r with | Sum.inl _ => .ret | Sum.inr _ => .exit 6) (fun r => match r with | Sum.inl _ => [(2, .v (.bool false))] | Sum.inr _ => [(2, .v (.bool false))]) (fun r => match r with | Sum.inl _ => [] | Sum.inr _ => []) := by
  refine loop_sound3 (fun s q h => ?_) (fun r => ?_)
  · replace h : palingref15_rest_L4 a1 s = some q := h; revert h; revert s; intro v51 h
    unfold palingref15_rest_L4 at h
    rcases ite_out h with ⟨h52, h⟩ | ⟨h52, h⟩
    · obtain ⟨x53, h54, h⟩ := bind_out h
      obtain ⟨r55, h56, h⟩ := bind_out h
      rcases ite_out h with ⟨h57, h⟩ | ⟨h57, h⟩
      · injection h with h; subst h; exact runLp_sound mixedOrders (live := [2]) (ids := []) (π := [.dec true, .row (c68 x53), .callv (.v (.bool r55)), .dec true]) (hx := by kernel_rfl) (hps := pc (h52) <| pc (ob68 h54) <| pc (k_palingref15_Place h56) <| pc (h57) <| pn)
      · obtain ⟨r58, h59, h⟩ := bind_out h
        rcases ite_out h with ⟨h60, h⟩ | ⟨h60, h⟩
        · injection h with h; subst h; exact runLp_sound mixedOrders (live := [2]) (ids := []) (π := [.dec true, .row (c68 x53), .callv (.v (.bool r55)), .dec false, .callv (.v (.bool r58)), .dec true]) (hx := by kernel_rfl) (hps := pc (h52) <| pc (ob68 h54) <| pc (k_palingref15_Place h56) <| pc (h57) <| pc (k_palingref15_Place h59) <| pc (h60) <| pn)
        · rcases ite_out h with ⟨h61, h⟩ | ⟨h61, h⟩
          · injection h with h; subst h; exact runLp_sound mixedOrders (live := [2]) (ids := []) (π := [.dec true, .row (c68 x53), .callv (.v (.bool r55)), .dec false, .callv (.v (.bool r58)), .dec false, .dec true]) (hx := by kernel_rfl) (hps := pc (h52) <| pc (ob68 h54) <| pc (k_palingref15_Place h56) <| pc (h57) <| pc (k_palingref15_Place h59) <| pc (h60) <| pc (h61) <| pn)
          · rcases ite_out h with ⟨h62, h⟩ | ⟨h62, h⟩
            · injection h with h; subst h; exact runLp_sound mixedOrders (live := [2]) (ids := []) (π := [.dec true, .row (c68 x53), .callv (.v (.bool r55)), .dec false, .callv (.v (.bool r58)), .dec false, .dec false, .dec true]) (hx := by kernel_rfl) (hps := pc (h52) <| pc (ob68 h54) <| pc (k_palingref15_Place h56) <| pc (h57) <| pc (k_palingref15_Place h59) <| pc (h60) <| pc (h61) <| pc (h62) <| pn)
            · obtain ⟨x63, h64, h⟩ := bind_out h
              obtain ⟨x65, h66, h⟩ := bind_out h
              rcases ite_out h with ⟨h67, h⟩ | ⟨h67, h⟩
              · injection h with h; subst h; exact runLp_sound mixedOrders (live := [2]) (ids := []) (π := [.dec true, .row (c68 x53), .callv (.v (.bool r55)), .dec false, .callv (.v (.bool r58)), .dec false, .dec false, .dec false, .row (c85 x63), .row (c71 x65), .dec true]) (hx := by kernel_rfl) (hps := pc (h52) <| pc (ob68 h54) <| pc (k_palingref15_Place h56) <| pc (h57) <| pc (k_palingref15_Place h59) <| pc (h60) <| pc (h61) <| pc (h62) <| pc (ob85 h64) <| pc (ob71 h66) <| pc (h67) <| pn)
              · obtain ⟨x68, h69, h⟩ := bind_out h
                rcases ite_out h with ⟨h70, h⟩ | ⟨h70, h⟩
                · injection h with h; subst h; exact runLp_sound mixedOrders (live := [2]) (ids := []) (π := [.dec true, .row (c68 x53), .callv (.v (.bool r55)), .dec false, .callv (.v (.bool r58)), .dec false, .dec false, .dec false, .row (c85 x63), .row (c71 x65), .dec false, .row (c85 x68), .dec true]) (hx := by kernel_rfl) (hps := pc (h52) <| pc (ob68 h54) <| pc (k_palingref15_Place h56) <| pc (h57) <| pc (k_palingref15_Place h59) <| pc (h60) <| pc (h61) <| pc (h62) <| pc (ob85 h64) <| pc (ob71 h66) <| pc (h67) <| pc (ob85 h69) <| pc (h70) <| pn)
                · injection h with h; subst h; exact runLp_sound mixedOrders (live := [1, 2, 9]) (ids := [0]) (π := [.dec true, .row (c68 x53), .callv (.v (.bool r55)), .dec false, .callv (.v (.bool r58)), .dec false, .dec false, .dec false, .row (c85 x63), .row (c71 x65), .dec false, .row (c85 x68), .dec false]) (hx := by kernel_rfl) (hps := pc (h52) <| pc (ob68 h54) <| pc (k_palingref15_Place h56) <| pc (h57) <| pc (k_palingref15_Place h59) <| pc (h60) <| pc (h61) <| pc (h62) <| pc (ob85 h64) <| pc (ob71 h66) <| pc (h67) <| pc (ob85 h69) <| pc (h70) <| pn)
    · injection h with h; subst h; exact runLp_sound mixedOrders (live := [2]) (ids := []) (π := [.dec false]) (hx := by kernel_rfl) (hps := pc (h52) <| pn)
  · rcases r with _ | _ <;> exact Ex.noConfusion

theorem k_palingref15_rest {a1 : Api_Net} {r : Bool} (h : palingref15_rest a1 = some r) :
    CallsOK Try.prog UU 133 [.agg (c61 a1)] [] (.v (.bool r)) [] := by
  unfold palingref15_rest at h
  obtain ⟨r23, h22, h⟩ := bind_out h
  rcases r23 with _ | _
  · injection h with h; subst h; exact runFn_sound mixedOrders Try.func133 rfl (keep := none) (π := [.sum [1, 2, 3] [0] .ret [(2, .v (.bool false))] []]) (hrun := by kernel_rfl) (hps := pc (k_palingref15_rest_L1 _ _ h22) <| pn)
  · obtain ⟨r35, h34, h⟩ := bind_out h
    rcases r35 with _ | _
    · injection h with h; subst h; exact runFn_sound mixedOrders Try.func133 rfl (keep := none) (π := [.sum [1, 2, 3] [0] (.exit 0) [(1, .op 0 1 0 0), (2, .v (.bool false))] [.box 61 (c61 a1) false], .sum [1, 2, 6] [0] .ret [(2, .v (.bool false))] []]) (hrun := by kernel_rfl) (hps := pc (k_palingref15_rest_L1 _ _ h22) <| pc (k_palingref15_rest_L2 _ _ h34) <| pn)
    · obtain ⟨r50, h49, h⟩ := bind_out h
      rcases r50 with _ | _
      · injection h with h; subst h; exact runFn_sound mixedOrders Try.func133 rfl (keep := none) (π := [.sum [1, 2, 3] [0] (.exit 0) [(1, .op 0 1 0 0), (2, .v (.bool false))] [.box 61 (c61 a1) false], .sum [1, 2, 6] [0] (.exit 2) [(1, .op 0 1 0 0), (2, .v (.bool false))] [.box 61 (c61 a1) false], .sum [1, 2, 7] [0] .ret [(2, .v (.bool false))] []]) (hrun := by kernel_rfl) (hps := pc (k_palingref15_rest_L1 _ _ h22) <| pc (k_palingref15_rest_L2 _ _ h34) <| pc (k_palingref15_rest_L3 _ _ h49) <| pn)
      · obtain ⟨r72, h71, h⟩ := bind_out h
        rcases r72 with _ | _
        · injection h with h; subst h; exact runFn_sound mixedOrders Try.func133 rfl (keep := none) (π := [.sum [1, 2, 3] [0] (.exit 0) [(1, .op 0 1 0 0), (2, .v (.bool false))] [.box 61 (c61 a1) false], .sum [1, 2, 6] [0] (.exit 2) [(1, .op 0 1 0 0), (2, .v (.bool false))] [.box 61 (c61 a1) false], .sum [1, 2, 7] [0] (.exit 4) [(1, .op 0 1 0 0), (2, .v (.bool false))] [.box 61 (c61 a1) false], .sum [1, 2, 9] [0] .ret [(2, .v (.bool false))] []]) (hrun := by kernel_rfl) (hps := pc (k_palingref15_rest_L1 _ _ h22) <| pc (k_palingref15_rest_L2 _ _ h34) <| pc (k_palingref15_rest_L3 _ _ h49) <| pc (k_palingref15_rest_L4 _ _ h71) <| pn)
        · injection h with h; subst h; exact runFn_sound mixedOrders Try.func133 rfl (keep := none) (π := [.sum [1, 2, 3] [0] (.exit 0) [(1, .op 0 1 0 0), (2, .v (.bool false))] [.box 61 (c61 a1) false], .sum [1, 2, 6] [0] (.exit 2) [(1, .op 0 1 0 0), (2, .v (.bool false))] [.box 61 (c61 a1) false], .sum [1, 2, 7] [0] (.exit 4) [(1, .op 0 1 0 0), (2, .v (.bool false))] [.box 61 (c61 a1) false], .sum [1, 2, 9] [0] (.exit 6) [(2, .v (.bool false))] []]) (hrun := by kernel_rfl) (hps := pc (k_palingref15_rest_L1 _ _ h22) <| pc (k_palingref15_rest_L2 _ _ h34) <| pc (k_palingref15_rest_L3 _ _ h49) <| pc (k_palingref15_rest_L4 _ _ h71) <| pn)

theorem k_palingref15_Right {a1 : Api_Net} {r : Bool} (h : palingref15_Right a1 = some r) :
    CallsOK Try.prog UU 78 [.agg (c61 a1)] [] (.v (.bool r)) [] := by
  unfold palingref15_Right at h
  rcases ite_out h with ⟨h2, h⟩ | ⟨h2, h⟩
  · injection h with h; subst h; exact runFn_sound mixedOrders Try.func78 rfl (keep := none) (π := [.dec true]) (hrun := by kernel_rfl) (hps := pc (h2) <| pn)
  · rcases ite_out h with ⟨h3, h⟩ | ⟨h3, h⟩
    · injection h with h; subst h; exact runFn_sound mixedOrders Try.func78 rfl (keep := none) (π := [.dec false, .dec true]) (hrun := by kernel_rfl) (hps := pc (h2) <| pc (h3) <| pn)
    · rcases ite_out h with ⟨h4, h⟩ | ⟨h4, h⟩
      · injection h with h; subst h; exact runFn_sound mixedOrders Try.func78 rfl (keep := none) (π := [.dec false, .dec false, .dec true]) (hrun := by kernel_rfl) (hps := pc (h2) <| pc (h3) <| pc (h4) <| pn)
      · rcases ite_out h with ⟨h5, h⟩ | ⟨h5, h⟩
        · injection h with h; subst h; exact runFn_sound mixedOrders Try.func78 rfl (keep := none) (π := [.dec false, .dec false, .dec false, .dec true]) (hrun := by kernel_rfl) (hps := pc (h2) <| pc (h3) <| pc (h4) <| pc (h5) <| pn)
        · rcases ite_out h with ⟨h6, h⟩ | ⟨h6, h⟩
          · injection h with h; subst h; exact runFn_sound mixedOrders Try.func78 rfl (keep := none) (π := [.dec false, .dec false, .dec false, .dec false, .dec true]) (hrun := by kernel_rfl) (hps := pc (h2) <| pc (h3) <| pc (h4) <| pc (h5) <| pc (h6) <| pn)
          · rcases ite_out h with ⟨h7, h⟩ | ⟨h7, h⟩
            · injection h with h; subst h; exact runFn_sound mixedOrders Try.func78 rfl (keep := none) (π := [.dec false, .dec false, .dec false, .dec false, .dec false, .dec true]) (hrun := by kernel_rfl) (hps := pc (h2) <| pc (h3) <| pc (h4) <| pc (h5) <| pc (h6) <| pc (h7) <| pn)
            · rcases ite_out h with ⟨h8, h⟩ | ⟨h8, h⟩
              · injection h with h; subst h; exact runFn_sound mixedOrders Try.func78 rfl (keep := none) (π := [.dec false, .dec false, .dec false, .dec false, .dec false, .dec false, .dec true]) (hrun := by kernel_rfl) (hps := pc (h2) <| pc (h3) <| pc (h4) <| pc (h5) <| pc (h6) <| pc (h7) <| pc (h8) <| pn)
              · rcases ite_out h with ⟨h9, h⟩ | ⟨h9, h⟩
                · injection h with h; subst h; exact runFn_sound mixedOrders Try.func78 rfl (keep := none) (π := [.dec false, .dec false, .dec false, .dec false, .dec false, .dec false, .dec false, .dec true]) (hrun := by kernel_rfl) (hps := pc (h2) <| pc (h3) <| pc (h4) <| pc (h5) <| pc (h6) <| pc (h7) <| pc (h8) <| pc (h9) <| pn)
                · obtain ⟨r10, h11, h⟩ := bind_out h
                  rcases ite_out h with ⟨h12, h⟩ | ⟨h12, h⟩
                  · obtain ⟨r13, h14, h⟩ := bind_out h
                    rcases ite_out h with ⟨h15, h⟩ | ⟨h15, h⟩
                    · obtain ⟨r16, h17, h⟩ := bind_out h
                      rcases ite_out h with ⟨h18, h⟩ | ⟨h18, h⟩
                      · obtain ⟨r19, h20, h⟩ := bind_out h
                        injection h with h; subst h; exact runFn_sound mixedOrders Try.func78 rfl (keep := none) (π := [.dec false, .dec false, .dec false, .dec false, .dec false, .dec false, .dec false, .dec false, .callv (.v (.bool r10)), .dec true, .callv (.v (.bool r13)), .dec true, .callv (.v (.bool r16)), .dec true, .callv (.v (.bool r19))]) (hrun := by kernel_rfl) (hps := pc (h2) <| pc (h3) <| pc (h4) <| pc (h5) <| pc (h6) <| pc (h7) <| pc (h8) <| pc (h9) <| pc (k_palingref15_domains h11) <| pc (h12) <| pc (k_palingref15_ports h14) <| pc (h15) <| pc (k_palingref15_links h17) <| pc (h18) <| pc (k_palingref15_rest h20) <| pn)
                      · injection h with h; subst h; exact runFn_sound mixedOrders Try.func78 rfl (keep := none) (π := [.dec false, .dec false, .dec false, .dec false, .dec false, .dec false, .dec false, .dec false, .callv (.v (.bool r10)), .dec true, .callv (.v (.bool r13)), .dec true, .callv (.v (.bool r16)), .dec false]) (hrun := by kernel_rfl) (hps := pc (h2) <| pc (h3) <| pc (h4) <| pc (h5) <| pc (h6) <| pc (h7) <| pc (h8) <| pc (h9) <| pc (k_palingref15_domains h11) <| pc (h12) <| pc (k_palingref15_ports h14) <| pc (h15) <| pc (k_palingref15_links h17) <| pc (h18) <| pn)
                    · injection h with h; subst h; exact runFn_sound mixedOrders Try.func78 rfl (keep := none) (π := [.dec false, .dec false, .dec false, .dec false, .dec false, .dec false, .dec false, .dec false, .callv (.v (.bool r10)), .dec true, .callv (.v (.bool r13)), .dec false]) (hrun := by kernel_rfl) (hps := pc (h2) <| pc (h3) <| pc (h4) <| pc (h5) <| pc (h6) <| pc (h7) <| pc (h8) <| pc (h9) <| pc (k_palingref15_domains h11) <| pc (h12) <| pc (k_palingref15_ports h14) <| pc (h15) <| pn)
                  · injection h with h; subst h; exact runFn_sound mixedOrders Try.func78 rfl (keep := none) (π := [.dec false, .dec false, .dec false, .dec false, .dec false, .dec false, .dec false, .dec false, .callv (.v (.bool r10)), .dec false]) (hrun := by kernel_rfl) (hps := pc (h2) <| pc (h3) <| pc (h4) <| pc (h5) <| pc (h6) <| pc (h7) <| pc (h8) <| pc (h9) <| pc (k_palingref15_domains h11) <| pc (h12) <| pn)

theorem k_palingref15_Members_L1 {a1 : Api_Net} {x6 : Api_Domain} : LoopOK Try.prog UU 0 50 (subC (codeOf Try.f81) [1, 1, 1, 1, 0, 1, 0, 0]) (fun s : (List Int) × Int => match s with | (l8, v9) => palingref15_Members_L1 a1 x6 l8 v9)
    (fun s : (List Int) × Int => (match s with | (l8, v9) => [(2, .op 0 1 0 0), (4, .os 1 0), (5, .os 2 (List.length l8)), (6, .op 3 1 0 0), (7, .v (.int .i64 v9))] : Fr DD)) (fun s : (List Int) × Int => (match s with | (l8, v9) => [.box 61 (c61 a1) false, .n 3, .arr 3 l8 (List.length l8) false, .box 85 (c85 x6) false] : Heap DD)) (fun r => match r with | l22 => .exit 0) (fun r => match r with | l22 => [(4, .os 0 0), (5, .os 1 (List.length l22))]) (fun r => match r with | l22 => [.n 3, .arr 3 l22 (List.length l22) false]) := by
  refine loop_sound3 (fun s q h => ?_) (fun r => ?_)
  · obtain ⟨l8, v9⟩ := s; replace h : palingref15_Members_L1 a1 x6 l8 v9 = some q := h
    unfold palingref15_Members_L1 at h
    rcases ite_out h with ⟨h10, h⟩ | ⟨h10, h⟩
    · obtain ⟨x11, h12, h⟩ := bind_out h
      rcases ite_out h with ⟨h13, h⟩ | ⟨h13, h⟩
      · obtain ⟨x14, h15, h⟩ := bind_out h
        obtain ⟨r16, h17, h⟩ := bind_out h
        rcases ite_out h with ⟨h18, h⟩ | ⟨h18, h⟩
        · rcases ite_out h with ⟨h19, h⟩ | ⟨h19, h⟩
          · injection h with h; subst h; exact runLp_sound mixedOrders (live := [2, 4, 5, 6, 7]) (ids := [0, 1, 2, 3]) (π := [.dec true, .row (c96 x11), .dec true, .row (c96 x14), .callv (.v (.bool r16)), .dec true, .obj [] (.arr 3 [v9] (List.length [v9]) false), .obj [] (.arr 3 (l8 ++ [v9]) (List.length (l8 ++ [v9])) false)]) (hx := by kernel_rfl) (hps := pc (h10) <| pc (ob96 h12) <| pc (h13) <| pc (ob96 h15) <| pc (k_palingref15_Member h17) <| pc (h18) <| pc (bs_ob 3 [v9]) <| pc (app_ob 3 (n := (List.length l8)) (l := l8) (xs := [v9]) h19) <| pc ((rfl : ((List.length [v9]) : Nat) = (List.length [v9]))) <| pn)
          · cases h
        · injection h with h; subst h; exact runLp_sound mixedOrders (live := [2, 4, 5, 6, 7]) (ids := [0, 1, 2, 3]) (π := [.dec true, .row (c96 x11), .dec true, .row (c96 x14), .callv (.v (.bool r16)), .dec false]) (hx := by kernel_rfl) (hps := pc (h10) <| pc (ob96 h12) <| pc (h13) <| pc (ob96 h15) <| pc (k_palingref15_Member h17) <| pc (h18) <| pn)
      · injection h with h; subst h; exact runLp_sound mixedOrders (live := [2, 4, 5, 6, 7]) (ids := [0, 1, 2, 3]) (π := [.dec true, .row (c96 x11), .dec false]) (hx := by kernel_rfl) (hps := pc (h10) <| pc (ob96 h12) <| pc (h13) <| pn)
    · injection h with h; subst h; exact runLp_sound mixedOrders (live := [4, 5]) (ids := [1, 2]) (π := [.dec false]) (hx := by kernel_rfl) (hps := pc (h10) <| pn)
  · exact Ex.noConfusion

theorem k_palingref15_Members {a1 : Api_Net} {a2 : Int} {r : ((List Int))} (h : palingref15_Members a1 a2 = some r) :
    CallsOK Try.prog UU 81 [.agg (c61 a1), .v (.int .i64 a2)] [] ((fun r => match r with | l25 => .os 0 (List.length l25)) r) ((fun r => match r with | l25 => [.arr 3 l25 (List.length l25) false]) r) := by
  unfold palingref15_Members at h
  obtain ⟨r3, h4, h⟩ := bind_out h
  rcases ite_out h with ⟨h5, h⟩ | ⟨h5, h⟩
  · injection h with h; subst h; exact runFn_sound mixedOrders Try.func81 rfl (keep := some [3]) (π := [.callv (.v (.bool r3)), .dec true]) (hrun := by kernel_rfl) (hps := pc (k_palingref15_Place h4) <| pc (h5) <| pn)
  · obtain ⟨x6, h7, h⟩ := bind_out h
    obtain ⟨l22, h23, h⟩ := bind_out h
    injection h with h; subst h; exact runFn_sound mixedOrders Try.func81 rfl (keep := some [1]) (π := [.callv (.v (.bool r3)), .dec false, .row (c85 x6), .sum [2, 4, 5, 6, 7] [0, 1, 2, 4] (.exit 0) [(4, .os 0 0), (5, .os 1 (List.length l22))] [.n 3, .arr 3 l22 (List.length l22) false]]) (hrun := by kernel_rfl) (hps := pc (k_palingref15_Place h4) <| pc (h5) <| pc (ob85 h7) <| pc (k_palingref15_Members_L1 _ _ h23) <| pn)

theorem k_palingref01_Bytes_L2 {a1 : Int} {l2 : List Int} {v3 : Int} : LoopOK Try.prog UU 0 26 (subC (codeOf Try.f112) [1, 1, 0, 1, 0, 0, 1, 0, 0, 1, 0, 1, 0, 0]) (fun s : Int × Int => match s with | (v5, v6) => palingref01_Bytes_L2 a1 l2 v3 v5 v6)
    (fun s : Int × Int => (match s with | (v5, v6) => [(0, .v (.int .u64 a1)), (2, .os 0 0), (3, .os 1 (List.length l2)), (4, .v (.int .i64 v3)), (5, .v (.int .u64 v5)), (6, .v (.int .i64 v6))] : Fr DD)) (fun s : Int × Int => (match s with | (v5, v6) => [.n 5, .arr 5 l2 (List.length l2) false] : Heap DD)) (fun r => match r with | v9 => .exit 2) (fun r => match r with | v9 => [(0, .v (.int .u64 a1)), (2, .os 0 0), (3, .os 1 (List.length l2)), (4, .v (.int .i64 v3)), (5, .v (.int .u64 v9))]) (fun r => match r with | v9 => [.n 5, .arr 5 l2 (List.length l2) false]) := by
  refine loop_sound3 (fun s q h => ?_) (fun r => ?_)
  · obtain ⟨v5, v6⟩ := s; replace h : palingref01_Bytes_L2 a1 l2 v3 v5 v6 = some q := h
    unfold palingref01_Bytes_L2 at h
    rcases ite_out h with ⟨h7, h⟩ | ⟨h7, h⟩
    · injection h with h; subst h; exact runLp_sound mixedOrders (live := [0, 2, 3, 4, 5, 6]) (ids := [0, 1]) (π := [.dec true]) (hx := by kernel_rfl) (hps := pc (h7) <| pc ((show (256 : Int) ≠ 0 from by decide)) <| pn)
    · injection h with h; subst h; exact runLp_sound mixedOrders (live := [0, 2, 3, 4, 5]) (ids := [0, 1]) (π := [.dec false]) (hx := by kernel_rfl) (hps := pc (h7) <| pn)
  · exact Ex.noConfusion

theorem k_palingref01_Bytes_L1 {a1 : Int} : LoopOK Try.prog UU 0 26 (subC (codeOf Try.f112) [1, 1, 0, 1, 0, 0]) (fun s : (List Int) × Int => match s with | (l2, v3) => palingref01_Bytes_L1 a1 l2 v3)
    (fun s : (List Int) × Int => (match s with | (l2, v3) => [(0, .v (.int .u64 a1)), (2, .os 0 0), (3, .os 1 (List.length l2)), (4, .v (.int .i64 v3))] : Fr DD)) (fun s : (List Int) × Int => (match s with | (l2, v3) => [.n 5, .arr 5 l2 (List.length l2) false] : Heap DD)) (fun r => match r with | l15 => .exit 0) (fun r => match r with | l15 => [(2, .os 0 0), (3, .os 1 (List.length l15))]) (fun r => match r with | l15 => [.n 5, .arr 5 l15 (List.length l15) false]) := by
  refine loop_sound3 (fun s q h => ?_) (fun r => ?_)
  · obtain ⟨l2, v3⟩ := s; replace h : palingref01_Bytes_L1 a1 l2 v3 = some q := h
    unfold palingref01_Bytes_L1 at h
    rcases ite_out h with ⟨h4, h⟩ | ⟨h4, h⟩
    · obtain ⟨v9, h10, h⟩ := bind_out h
      rcases ite_out h with ⟨h12, h⟩ | ⟨h12, h⟩
      · injection h with h; subst h; exact runLp_sound mixedOrders (live := [0, 2, 3, 4]) (ids := [0, 1]) (π := [.dec true, .sum [0, 2, 3, 4, 5, 6] [0, 1] (.exit 2) [(0, .v (.int .u64 a1)), (2, .os 0 0), (3, .os 1 (List.length l2)), (4, .v (.int .i64 v3)), (5, .v (.int .u64 v9))] [.n 5, .arr 5 l2 (List.length l2) false], .obj [] (.arr 5 [(wr_u8 (Int.tmod v9 256) : Int)] (List.length [(wr_u8 (Int.tmod v9 256) : Int)]) false), .obj [] (.arr 5 (l2 ++ [(wr_u8 (Int.tmod v9 256) : Int)]) (List.length (l2 ++ [(wr_u8 (Int.tmod v9 256) : Int)])) false)]) (hx := by kernel_rfl) (hps := pc (h4) <| pc (k_palingref01_Bytes_L2 _ _ h10) <| pc ((show (256 : Int) ≠ 0 from by decide)) <| pc (bs_ob 5 [(wr_u8 (Int.tmod v9 256) : Int)]) <| pc (app_ob 5 (n := (List.length l2)) (l := l2) (xs := [(wr_u8 (Int.tmod v9 256) : Int)]) h12) <| pc ((rfl : ((List.length [(wr_u8 (Int.tmod v9 256) : Int)]) : Nat) = (List.length [(wr_u8 (Int.tmod v9 256) : Int)]))) <| pn)
      · cases h
    · injection h with h; subst h; exact runLp_sound mixedOrders (live := [2, 3]) (ids := [0, 1]) (π := [.dec false]) (hx := by kernel_rfl) (hps := pc (h4) <| pn)
  · exact Ex.noConfusion

theorem k_palingref01_Bytes {a1 : Int} {r : ((List Int))} (h : palingref01_Bytes a1 = some r) :
    CallsOK Try.prog UU 112 [.v (.int .u64 a1)] [] ((fun r => match r with | l18 => .os 0 (List.length l18)) r) ((fun r => match r with | l18 => [.arr 5 l18 (List.length l18) false]) r) := by
  unfold palingref01_Bytes at h
  obtain ⟨l15, h16, h⟩ := bind_out h
  injection h with h; subst h; exact runFn_sound mixedOrders Try.func112 rfl (keep := some [1]) (π := [.sum [0, 2, 3, 4] [0, 1] (.exit 0) [(2, .os 0 0), (3, .os 1 (List.length l15))] [.n 5, .arr 5 l15 (List.length l15) false]]) (hrun := by kernel_rfl) (hps := pc (k_palingref01_Bytes_L1 _ _ h16) <| pn)

theorem k_palingref04_Put {a1 : Api_Frame} {r : ((List Int) × Int)} (h : palingref04_Put a1 = some r) :
    CallsOK Try.prog UU 52 [.agg (c37 a1)] [] ((fun r => match r with | (l16, v17) => .tup [.os 0 (List.length l16), .v (.int .i64 v17)]) r) ((fun r => match r with | (l16, v17) => [.arr 5 l16 (List.length l16) false]) r) := by
  unfold palingref04_Put at h
  rcases ite_out h with ⟨h2, h⟩ | ⟨h2, h⟩
  · injection h with h; subst h; exact runFn_sound mixedOrders Try.func52 rfl (keep := some [2]) (π := [.dec true]) (hrun := by kernel_rfl) (hps := pc (h2) <| pn)
  · rcases ite_out h with ⟨h3, h⟩ | ⟨h3, h⟩
    · injection h with h; subst h; exact runFn_sound mixedOrders Try.func52 rfl (keep := some [2]) (π := [.dec false, .dec true]) (hrun := by kernel_rfl) (hps := pc (h2) <| pc (h3) <| pn)
    · rcases ite_out h with ⟨h4, h⟩ | ⟨h4, h⟩
      · injection h with h; subst h; exact runFn_sound mixedOrders Try.func52 rfl (keep := some [2]) (π := [.dec false, .dec false, .dec true]) (hrun := by kernel_rfl) (hps := pc (h2) <| pc (h3) <| pc (h4) <| pn)
      · rcases ite_out h with ⟨h5, h⟩ | ⟨h5, h⟩
        · injection h with h; subst h; exact runFn_sound mixedOrders Try.func52 rfl (keep := some [2]) (π := [.dec false, .dec false, .dec false, .dec true]) (hrun := by kernel_rfl) (hps := pc (h2) <| pc (h3) <| pc (h4) <| pc (h5) <| pn)
        · rcases ite_out h with ⟨h6, h⟩ | ⟨h6, h⟩
          · injection h with h; subst h; exact runFn_sound mixedOrders Try.func52 rfl (keep := some [2]) (π := [.dec false, .dec false, .dec false, .dec false, .dec true]) (hrun := by kernel_rfl) (hps := pc (h2) <| pc (h3) <| pc (h4) <| pc (h5) <| pc (h6) <| pn)
          · obtain ⟨l9, h8, h⟩ := bind_out h
            obtain ⟨l12, h11, h⟩ := bind_out h
            rcases ite_out h with ⟨h13, h⟩ | ⟨h13, h⟩
            · rcases ite_out h with ⟨h14, h⟩ | ⟨h14, h⟩
              · rcases ite_out h with ⟨h15, h⟩ | ⟨h15, h⟩
                · injection h with h; subst h; exact runFn_sound mixedOrders Try.func52 rfl (keep := some [2]) (π := [.dec false, .dec false, .dec false, .dec false, .dec false, .sum [2] [] .nor [] [.box 37 (c37 a1) false, .n 5, .arr 5 l9 (List.length l9) false], .callo (.os 0 (List.length l9)) [.arr 5 l9 (List.length l9) false], .callo (.os 0 (List.length l12)) [.arr 5 l12 (List.length l12) false], .obj [] (.arr 5 (l9 ++ l12) (List.length (l9 ++ l12)) false), .obj [] (.arr 5 [(wr_u8 (wr_i64 (Int.tdiv a1.type_ 256)) : Int), (wr_u8 (Int.tmod a1.type_ 256) : Int)] (List.length [(wr_u8 (wr_i64 (Int.tdiv a1.type_ 256)) : Int), (wr_u8 (Int.tmod a1.type_ 256) : Int)]) false), .obj [] (.arr 5 ((l9 ++ l12) ++ [(wr_u8 (wr_i64 (Int.tdiv a1.type_ 256)) : Int), (wr_u8 (Int.tmod a1.type_ 256) : Int)]) (List.length ((l9 ++ l12) ++ [(wr_u8 (wr_i64 (Int.tdiv a1.type_ 256)) : Int), (wr_u8 (Int.tmod a1.type_ 256) : Int)])) false), .obj [] (.arr 5 (((l9 ++ l12) ++ [(wr_u8 (wr_i64 (Int.tdiv a1.type_ 256)) : Int), (wr_u8 (Int.tmod a1.type_ 256) : Int)]) ++ a1.body) (List.length (((l9 ++ l12) ++ [(wr_u8 (wr_i64 (Int.tdiv a1.type_ 256)) : Int), (wr_u8 (Int.tmod a1.type_ 256) : Int)]) ++ a1.body)) false)]) (hrun := by kernel_rfl) (hps := pc (h2) <| pc (h3) <| pc (h4) <| pc (h5) <| pc (h6) <| pc ((rfl : ([.box 37 (c37 a1) false, .n 5, .arr 5 l9 (List.length l9) false] : Heap DD) = [.box 37 (c37 a1) false, .n 5, .arr 5 l9 (List.length l9) false])) <| pc (k_palingref01_Bytes h8) <| pc (im5 l9) <| pc ((rfl : (.op 0 1 0 1 : AV DD) = .op 0 1 0 1)) <| pc ((rfl : (.v (.int .u64 a1.src) : AV DD) = .v (.int .u64 a1.src))) <| pc (k_palingref01_Bytes h11) <| pc (im5 l12) <| pc (app_ob 5 (n := (List.length l9)) (l := l9) (xs := l12) h13) <| pc ((rfl : ((List.length l12) : Nat) = (List.length l12))) <| pc ((show (256 : Int) ≠ 0 from by decide)) <| pc ((show (256 : Int) ≠ 0 from by decide)) <| pc (bs_ob 5 [(wr_u8 (wr_i64 (Int.tdiv a1.type_ 256)) : Int), (wr_u8 (Int.tmod a1.type_ 256) : Int)]) <| pc (app_ob 5 (n := (List.length (l9 ++ l12))) (l := l9 ++ l12) (xs := [(wr_u8 (wr_i64 (Int.tdiv a1.type_ 256)) : Int), (wr_u8 (Int.tmod a1.type_ 256) : Int)]) h14) <| pc ((rfl : ((List.length [(wr_u8 (wr_i64 (Int.tdiv a1.type_ 256)) : Int), (wr_u8 (Int.tmod a1.type_ 256) : Int)]) : Nat) = (List.length [(wr_u8 (wr_i64 (Int.tdiv a1.type_ 256)) : Int), (wr_u8 (Int.tmod a1.type_ 256) : Int)]))) <| pc (app_ob 5 (n := (List.length ((l9 ++ l12) ++ [(wr_u8 (wr_i64 (Int.tdiv a1.type_ 256)) : Int), (wr_u8 (Int.tmod a1.type_ 256) : Int)]))) (l := (l9 ++ l12) ++ [(wr_u8 (wr_i64 (Int.tdiv a1.type_ 256)) : Int), (wr_u8 (Int.tmod a1.type_ 256) : Int)]) (xs := a1.body) h15) <| pn)
                · cases h
              · cases h
            · cases h

end Go.Eng
