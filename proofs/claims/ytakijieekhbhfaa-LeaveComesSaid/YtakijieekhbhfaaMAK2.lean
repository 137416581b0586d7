/- Part of the proof of LeaveComes: printed mirrors of the functions, or their contracts. No conditions. -/
import Derived.Test.YtakijieekhbhfaaMAK1
set_option linter.unusedVariables false
set_option maxRecDepth 100000
namespace Go.Eng
open Go Go.Proofs
theorem k_palinglaw28_works {r : Bool} (h : palinglaw28_works = some r) :
    CallsOK Try.prog UU 35 [] [] (.v (.bool r)) [] := by
  unfold palinglaw28_works at h
  obtain ⟨r1, h2, h⟩ := bind_out h
  obtain ⟨l3, v4⟩ := r1
  obtain ⟨r5, h6, h⟩ := bind_out h
  obtain ⟨l7, v8⟩ := r5
  obtain ⟨r9, h10, h⟩ := bind_out h
  obtain ⟨l11, v12⟩ := r9
  rcases ite_out h with ⟨h13, h⟩ | ⟨h13, h⟩
  · rcases ite_out h with ⟨h14, h⟩ | ⟨h14, h⟩
    · rcases ite_out h with ⟨h15, h⟩ | ⟨h15, h⟩
      · rcases ite_out h with ⟨h16, h⟩ | ⟨h16, h⟩
        · rcases ite_out h with ⟨h17, h⟩ | ⟨h17, h⟩
          · obtain ⟨x18, h19, h⟩ := bind_out h
            rcases ite_out h with ⟨h20, h⟩ | ⟨h20, h⟩
            · injection h with h; subst h; exact runFn_sound mixedOrders Try.func35 rfl (keep := none) (π := [.obj [] (.arr 138 [(⟨0, 0, (⟨#[97]⟩ : ByteArray), 0, 0⟩ : Api_Device)] (List.length [(⟨0, 0, (⟨#[97]⟩ : ByteArray), 0, 0⟩ : Api_Device)]) false), .obj [] (.arr 3 [(20 : Int)] (List.length [(20 : Int)]) false), .obj [1] (.arr 96 [(⟨0, 0, 10, 0, (-1), (⟨#[112]⟩ : ByteArray), [(20 : Int)]⟩ : Api_Port)] (List.length [(⟨0, 0, 10, 0, (-1), (⟨#[112]⟩ : ByteArray), [(20 : Int)]⟩ : Api_Port)]) false), .obj [] (.arr 85 [(⟨0, 10, 0, (-1), 0, []⟩ : Api_Domain), (⟨0, 20, 0, (-1), 0, []⟩ : Api_Domain)] (List.length [(⟨0, 10, 0, (-1), 0, []⟩ : Api_Domain), (⟨0, 20, 0, (-1), 0, []⟩ : Api_Domain)]) false), .callo (.tup [.os 0 (List.length l3), .v (.int .i64 v4)]) [.arr 5 l3 (List.length l3) false], .callo (.tup [.os 0 (List.length l7), .v (.int .i64 v8)]) [.arr 5 l7 (List.length l7) false], .callo (.tup [.os 0 (List.length l11), .v (.int .i64 v12)]) [.arr 5 l11 (List.length l11) false], .dec true, .dec true, .dec true, .dec true, .row (c5 x18), .dec true]) (hrun := by kernel_rfl) (hps := pc (bs_ob 138 [(⟨0, 0, (⟨#[97]⟩ : ByteArray), 0, 0⟩ : Api_Device)]) <| pc (bs_ob 3 [(20 : Int)]) <| pc (bs_ob 96 [(⟨0, 0, 10, 0, (-1), (⟨#[112]⟩ : ByteArray), [(20 : Int)]⟩ : Api_Port)]) <| pc ((rfl : ((List.length [(20 : Int)]) : Nat) = (List.length [(20 : Int)]))) <| pc (bs_ob 85 [(⟨0, 10, 0, (-1), 0, []⟩ : Api_Domain), (⟨0, 20, 0, (-1), 0, []⟩ : Api_Domain)]) <| pc (k_leave_At h2) <| pc (im5 l3) <| pc ((rfl : ((List.length [(⟨0, 0, (⟨#[97]⟩ : ByteArray), 0, 0⟩ : Api_Device)]) : Nat) = (List.length [(⟨0, 0, (⟨#[97]⟩ : ByteArray), 0, 0⟩ : Api_Device)]))) <| pc ((rfl : ((List.length [(⟨0, 0, 10, 0, (-1), (⟨#[112]⟩ : ByteArray), [(20 : Int)]⟩ : Api_Port)]) : Nat) = (List.length [(⟨0, 0, 10, 0, (-1), (⟨#[112]⟩ : ByteArray), [(20 : Int)]⟩ : Api_Port)]))) <| pc ((rfl : (0 : Nat) = 0)) <| pc ((rfl : ((List.length [(⟨0, 10, 0, (-1), 0, []⟩ : Api_Domain), (⟨0, 20, 0, (-1), 0, []⟩ : Api_Domain)]) : Nat) = (List.length [(⟨0, 10, 0, (-1), 0, []⟩ : Api_Domain), (⟨0, 20, 0, (-1), 0, []⟩ : Api_Domain)]))) <| pc ((rfl : (0 : Nat) = 0)) <| pc ((rfl : (0 : Nat) = 0)) <| pc ((rfl : (0 : Nat) = 0)) <| pc ((rfl : (0 : Nat) = 0)) <| pc ((rfl : (0 : Nat) = 0)) <| pc (k_leave_At h6) <| pc (im5 l7) <| pc ((rfl : ((List.length [(⟨0, 0, (⟨#[97]⟩ : ByteArray), 0, 0⟩ : Api_Device)]) : Nat) = (List.length [(⟨0, 0, (⟨#[97]⟩ : ByteArray), 0, 0⟩ : Api_Device)]))) <| pc ((rfl : ((List.length [(⟨0, 0, 10, 0, (-1), (⟨#[112]⟩ : ByteArray), [(20 : Int)]⟩ : Api_Port)]) : Nat) = (List.length [(⟨0, 0, 10, 0, (-1), (⟨#[112]⟩ : ByteArray), [(20 : Int)]⟩ : Api_Port)]))) <| pc ((rfl : (0 : Nat) = 0)) <| pc ((rfl : ((List.length [(⟨0, 10, 0, (-1), 0, []⟩ : Api_Domain), (⟨0, 20, 0, (-1), 0, []⟩ : Api_Domain)]) : Nat) = (List.length [(⟨0, 10, 0, (-1), 0, []⟩ : Api_Domain), (⟨0, 20, 0, (-1), 0, []⟩ : Api_Domain)]))) <| pc ((rfl : (0 : Nat) = 0)) <| pc ((rfl : (0 : Nat) = 0)) <| pc ((rfl : (0 : Nat) = 0)) <| pc ((rfl : (0 : Nat) = 0)) <| pc ((rfl : (0 : Nat) = 0)) <| pc (k_leave_At h10) <| pc (im5 l11) <| pc ((rfl : ((List.length [(⟨0, 0, (⟨#[97]⟩ : ByteArray), 0, 0⟩ : Api_Device)]) : Nat) = (List.length [(⟨0, 0, (⟨#[97]⟩ : ByteArray), 0, 0⟩ : Api_Device)]))) <| pc ((rfl : ((List.length [(⟨0, 0, 10, 0, (-1), (⟨#[112]⟩ : ByteArray), [(20 : Int)]⟩ : Api_Port)]) : Nat) = (List.length [(⟨0, 0, 10, 0, (-1), (⟨#[112]⟩ : ByteArray), [(20 : Int)]⟩ : Api_Port)]))) <| pc ((rfl : (0 : Nat) = 0)) <| pc ((rfl : ((List.length [(⟨0, 10, 0, (-1), 0, []⟩ : Api_Domain), (⟨0, 20, 0, (-1), 0, []⟩ : Api_Domain)]) : Nat) = (List.length [(⟨0, 10, 0, (-1), 0, []⟩ : Api_Domain), (⟨0, 20, 0, (-1), 0, []⟩ : Api_Domain)]))) <| pc ((rfl : (0 : Nat) = 0)) <| pc ((rfl : (0 : Nat) = 0)) <| pc ((rfl : (0 : Nat) = 0)) <| pc ((rfl : (0 : Nat) = 0)) <| pc ((rfl : (0 : Nat) = 0)) <| pc (h13) <| pc ((rfl : ((List.length l3) : Nat) = (List.length l3))) <| pc (h14) <| pc (h15) <| pc ((rfl : ((List.length l7) : Nat) = (List.length l7))) <| pc (h16) <| pc (And.intro (rfl : ((List.length l7) : Nat) = (List.length l7)) (lin_ob h17)) <| pc (And.intro (rfl : ((List.length l7) : Nat) = (List.length l7)) (obn5 h19)) <| pc (h20) <| pn)
            · injection h with h; subst h; exact runFn_sound mixedOrders Try.func35 rfl (keep := none) (π := [.obj [] (.arr 138 [(⟨0, 0, (⟨#[97]⟩ : ByteArray), 0, 0⟩ : Api_Device)] (List.length [(⟨0, 0, (⟨#[97]⟩ : ByteArray), 0, 0⟩ : Api_Device)]) false), .obj [] (.arr 3 [(20 : Int)] (List.length [(20 : Int)]) false), .obj [1] (.arr 96 [(⟨0, 0, 10, 0, (-1), (⟨#[112]⟩ : ByteArray), [(20 : Int)]⟩ : Api_Port)] (List.length [(⟨0, 0, 10, 0, (-1), (⟨#[112]⟩ : ByteArray), [(20 : Int)]⟩ : Api_Port)]) false), .obj [] (.arr 85 [(⟨0, 10, 0, (-1), 0, []⟩ : Api_Domain), (⟨0, 20, 0, (-1), 0, []⟩ : Api_Domain)] (List.length [(⟨0, 10, 0, (-1), 0, []⟩ : Api_Domain), (⟨0, 20, 0, (-1), 0, []⟩ : Api_Domain)]) false), .callo (.tup [.os 0 (List.length l3), .v (.int .i64 v4)]) [.arr 5 l3 (List.length l3) false], .callo (.tup [.os 0 (List.length l7), .v (.int .i64 v8)]) [.arr 5 l7 (List.length l7) false], .callo (.tup [.os 0 (List.length l11), .v (.int .i64 v12)]) [.arr 5 l11 (List.length l11) false], .dec true, .dec true, .dec true, .dec true, .row (c5 x18), .dec false]) (hrun := by kernel_rfl) (hps := pc (bs_ob 138 [(⟨0, 0, (⟨#[97]⟩ : ByteArray), 0, 0⟩ : Api_Device)]) <| pc (bs_ob 3 [(20 : Int)]) <| pc (bs_ob 96 [(⟨0, 0, 10, 0, (-1), (⟨#[112]⟩ : ByteArray), [(20 : Int)]⟩ : Api_Port)]) <| pc ((rfl : ((List.length [(20 : Int)]) : Nat) = (List.length [(20 : Int)]))) <| pc (bs_ob 85 [(⟨0, 10, 0, (-1), 0, []⟩ : Api_Domain), (⟨0, 20, 0, (-1), 0, []⟩ : Api_Domain)]) <| pc (k_leave_At h2) <| pc (im5 l3) <| pc ((rfl : ((List.length [(⟨0, 0, (⟨#[97]⟩ : ByteArray), 0, 0⟩ : Api_Device)]) : Nat) = (List.length [(⟨0, 0, (⟨#[97]⟩ : ByteArray), 0, 0⟩ : Api_Device)]))) <| pc ((rfl : ((List.length [(⟨0, 0, 10, 0, (-1), (⟨#[112]⟩ : ByteArray), [(20 : Int)]⟩ : Api_Port)]) : Nat) = (List.length [(⟨0, 0, 10, 0, (-1), (⟨#[112]⟩ : ByteArray), [(20 : Int)]⟩ : Api_Port)]))) <| pc ((rfl : (0 : Nat) = 0)) <| pc ((rfl : ((List.length [(⟨0, 10, 0, (-1), 0, []⟩ : Api_Domain), (⟨0, 20, 0, (-1), 0, []⟩ : Api_Domain)]) : Nat) = (List.length [(⟨0, 10, 0, (-1), 0, []⟩ : Api_Domain), (⟨0, 20, 0, (-1), 0, []⟩ : Api_Domain)]))) <| pc ((rfl : (0 : Nat) = 0)) <| pc ((rfl : (0 : Nat) = 0)) <| pc ((rfl : (0 : Nat) = 0)) <| pc ((rfl : (0 : Nat) = 0)) <| pc ((rfl : (0 : Nat) = 0)) <| pc (k_leave_At h6) <| pc (im5 l7) <| pc ((rfl : ((List.length [(⟨0, 0, (⟨#[97]⟩ : ByteArray), 0, 0⟩ : Api_Device)]) : Nat) = (List.length [(⟨0, 0, (⟨#[97]⟩ : ByteArray), 0, 0⟩ : Api_Device)]))) <| pc ((rfl : ((List.length [(⟨0, 0, 10, 0, (-1), (⟨#[112]⟩ : ByteArray), [(20 : Int)]⟩ : Api_Port)]) : Nat) = (List.length [(⟨0, 0, 10, 0, (-1), (⟨#[112]⟩ : ByteArray), [(20 : Int)]⟩ : Api_Port)]))) <| pc ((rfl : (0 : Nat) = 0)) <| pc ((rfl : ((List.length [(⟨0, 10, 0, (-1), 0, []⟩ : Api_Domain), (⟨0, 20, 0, (-1), 0, []⟩ : Api_Domain)]) : Nat) = (List.length [(⟨0, 10, 0, (-1), 0, []⟩ : Api_Domain), (⟨0, 20, 0, (-1), 0, []⟩ : Api_Domain)]))) <| pc ((rfl : (0 : Nat) = 0)) <| pc ((rfl : (0 : Nat) = 0)) <| pc ((rfl : (0 : Nat) = 0)) <| pc ((rfl : (0 : Nat) = 0)) <| pc ((rfl : (0 : Nat) = 0)) <| pc (k_leave_At h10) <| pc (im5 l11) <| pc ((rfl : ((List.length [(⟨0, 0, (⟨#[97]⟩ : ByteArray), 0, 0⟩ : Api_Device)]) : Nat) = (List.length [(⟨0, 0, (⟨#[97]⟩ : ByteArray), 0, 0⟩ : Api_Device)]))) <| pc ((rfl : ((List.length [(⟨0, 0, 10, 0, (-1), (⟨#[112]⟩ : ByteArray), [(20 : Int)]⟩ : Api_Port)]) : Nat) = (List.length [(⟨0, 0, 10, 0, (-1), (⟨#[112]⟩ : ByteArray), [(20 : Int)]⟩ : Api_Port)]))) <| pc ((rfl : (0 : Nat) = 0)) <| pc ((rfl : ((List.length [(⟨0, 10, 0, (-1), 0, []⟩ : Api_Domain), (⟨0, 20, 0, (-1), 0, []⟩ : Api_Domain)]) : Nat) = (List.length [(⟨0, 10, 0, (-1), 0, []⟩ : Api_Domain), (⟨0, 20, 0, (-1), 0, []⟩ : Api_Domain)]))) <| pc ((rfl : (0 : Nat) = 0)) <| pc ((rfl : (0 : Nat) = 0)) <| pc ((rfl : (0 : Nat) = 0)) <| pc ((rfl : (0 : Nat) = 0)) <| pc ((rfl : (0 : Nat) = 0)) <| pc (h13) <| pc ((rfl : ((List.length l3) : Nat) = (List.length l3))) <| pc (h14) <| pc (h15) <| pc ((rfl : ((List.length l7) : Nat) = (List.length l7))) <| pc (h16) <| pc (And.intro (rfl : ((List.length l7) : Nat) = (List.length l7)) (lin_ob h17)) <| pc (And.intro (rfl : ((List.length l7) : Nat) = (List.length l7)) (obn5 h19)) <| pc (h20) <| pn)
          · cases h
        · injection h with h; subst h; exact runFn_sound mixedOrders Try.func35 rfl (keep := none) (π := [.obj [] (.arr 138 [(⟨0, 0, (⟨#[97]⟩ : ByteArray), 0, 0⟩ : Api_Device)] (List.length [(⟨0, 0, (⟨#[97]⟩ : ByteArray), 0, 0⟩ : Api_Device)]) false), .obj [] (.arr 3 [(20 : Int)] (List.length [(20 : Int)]) false), .obj [1] (.arr 96 [(⟨0, 0, 10, 0, (-1), (⟨#[112]⟩ : ByteArray), [(20 : Int)]⟩ : Api_Port)] (List.length [(⟨0, 0, 10, 0, (-1), (⟨#[112]⟩ : ByteArray), [(20 : Int)]⟩ : Api_Port)]) false), .obj [] (.arr 85 [(⟨0, 10, 0, (-1), 0, []⟩ : Api_Domain), (⟨0, 20, 0, (-1), 0, []⟩ : Api_Domain)] (List.length [(⟨0, 10, 0, (-1), 0, []⟩ : Api_Domain), (⟨0, 20, 0, (-1), 0, []⟩ : Api_Domain)]) false), .callo (.tup [.os 0 (List.length l3), .v (.int .i64 v4)]) [.arr 5 l3 (List.length l3) false], .callo (.tup [.os 0 (List.length l7), .v (.int .i64 v8)]) [.arr 5 l7 (List.length l7) false], .callo (.tup [.os 0 (List.length l11), .v (.int .i64 v12)]) [.arr 5 l11 (List.length l11) false], .dec true, .dec true, .dec true, .dec false]) (hrun := by kernel_rfl) (hps := pc (bs_ob 138 [(⟨0, 0, (⟨#[97]⟩ : ByteArray), 0, 0⟩ : Api_Device)]) <| pc (bs_ob 3 [(20 : Int)]) <| pc (bs_ob 96 [(⟨0, 0, 10, 0, (-1), (⟨#[112]⟩ : ByteArray), [(20 : Int)]⟩ : Api_Port)]) <| pc ((rfl : ((List.length [(20 : Int)]) : Nat) = (List.length [(20 : Int)]))) <| pc (bs_ob 85 [(⟨0, 10, 0, (-1), 0, []⟩ : Api_Domain), (⟨0, 20, 0, (-1), 0, []⟩ : Api_Domain)]) <| pc (k_leave_At h2) <| pc (im5 l3) <| pc ((rfl : ((List.length [(⟨0, 0, (⟨#[97]⟩ : ByteArray), 0, 0⟩ : Api_Device)]) : Nat) = (List.length [(⟨0, 0, (⟨#[97]⟩ : ByteArray), 0, 0⟩ : Api_Device)]))) <| pc ((rfl : ((List.length [(⟨0, 0, 10, 0, (-1), (⟨#[112]⟩ : ByteArray), [(20 : Int)]⟩ : Api_Port)]) : Nat) = (List.length [(⟨0, 0, 10, 0, (-1), (⟨#[112]⟩ : ByteArray), [(20 : Int)]⟩ : Api_Port)]))) <| pc ((rfl : (0 : Nat) = 0)) <| pc ((rfl : ((List.length [(⟨0, 10, 0, (-1), 0, []⟩ : Api_Domain), (⟨0, 20, 0, (-1), 0, []⟩ : Api_Domain)]) : Nat) = (List.length [(⟨0, 10, 0, (-1), 0, []⟩ : Api_Domain), (⟨0, 20, 0, (-1), 0, []⟩ : Api_Domain)]))) <| pc ((rfl : (0 : Nat) = 0)) <| pc ((rfl : (0 : Nat) = 0)) <| pc ((rfl : (0 : Nat) = 0)) <| pc ((rfl : (0 : Nat) = 0)) <| pc ((rfl : (0 : Nat) = 0)) <| pc (k_leave_At h6) <| pc (im5 l7) <| pc ((rfl : ((List.length [(⟨0, 0, (⟨#[97]⟩ : ByteArray), 0, 0⟩ : Api_Device)]) : Nat) = (List.length [(⟨0, 0, (⟨#[97]⟩ : ByteArray), 0, 0⟩ : Api_Device)]))) <| pc ((rfl : ((List.length [(⟨0, 0, 10, 0, (-1), (⟨#[112]⟩ : ByteArray), [(20 : Int)]⟩ : Api_Port)]) : Nat) = (List.length [(⟨0, 0, 10, 0, (-1), (⟨#[112]⟩ : ByteArray), [(20 : Int)]⟩ : Api_Port)]))) <| pc ((rfl : (0 : Nat) = 0)) <| pc ((rfl : ((List.length [(⟨0, 10, 0, (-1), 0, []⟩ : Api_Domain), (⟨0, 20, 0, (-1), 0, []⟩ : Api_Domain)]) : Nat) = (List.length [(⟨0, 10, 0, (-1), 0, []⟩ : Api_Domain), (⟨0, 20, 0, (-1), 0, []⟩ : Api_Domain)]))) <| pc ((rfl : (0 : Nat) = 0)) <| pc ((rfl : (0 : Nat) = 0)) <| pc ((rfl : (0 : Nat) = 0)) <| pc ((rfl : (0 : Nat) = 0)) <| pc ((rfl : (0 : Nat) = 0)) <| pc (k_leave_At h10) <| pc (im5 l11) <| pc ((rfl : ((List.length [(⟨0, 0, (⟨#[97]⟩ : ByteArray), 0, 0⟩ : Api_Device)]) : Nat) = (List.length [(⟨0, 0, (⟨#[97]⟩ : ByteArray), 0, 0⟩ : Api_Device)]))) <| pc ((rfl : ((List.length [(⟨0, 0, 10, 0, (-1), (⟨#[112]⟩ : ByteArray), [(20 : Int)]⟩ : Api_Port)]) : Nat) = (List.length [(⟨0, 0, 10, 0, (-1), (⟨#[112]⟩ : ByteArray), [(20 : Int)]⟩ : Api_Port)]))) <| pc ((rfl : (0 : Nat) = 0)) <| pc ((rfl : ((List.length [(⟨0, 10, 0, (-1), 0, []⟩ : Api_Domain), (⟨0, 20, 0, (-1), 0, []⟩ : Api_Domain)]) : Nat) = (List.length [(⟨0, 10, 0, (-1), 0, []⟩ : Api_Domain), (⟨0, 20, 0, (-1), 0, []⟩ : Api_Domain)]))) <| pc ((rfl : (0 : Nat) = 0)) <| pc ((rfl : (0 : Nat) = 0)) <| pc ((rfl : (0 : Nat) = 0)) <| pc ((rfl : (0 : Nat) = 0)) <| pc ((rfl : (0 : Nat) = 0)) <| pc (h13) <| pc ((rfl : ((List.length l3) : Nat) = (List.length l3))) <| pc (h14) <| pc (h15) <| pc ((rfl : ((List.length l7) : Nat) = (List.length l7))) <| pc (h16) <| pn)
      · injection h with h; subst h; exact runFn_sound mixedOrders Try.func35 rfl (keep := none) (π := [.obj [] (.arr 138 [(⟨0, 0, (⟨#[97]⟩ : ByteArray), 0, 0⟩ : Api_Device)] (List.length [(⟨0, 0, (⟨#[97]⟩ : ByteArray), 0, 0⟩ : Api_Device)]) false), .obj [] (.arr 3 [(20 : Int)] (List.length [(20 : Int)]) false), .obj [1] (.arr 96 [(⟨0, 0, 10, 0, (-1), (⟨#[112]⟩ : ByteArray), [(20 : Int)]⟩ : Api_Port)] (List.length [(⟨0, 0, 10, 0, (-1), (⟨#[112]⟩ : ByteArray), [(20 : Int)]⟩ : Api_Port)]) false), .obj [] (.arr 85 [(⟨0, 10, 0, (-1), 0, []⟩ : Api_Domain), (⟨0, 20, 0, (-1), 0, []⟩ : Api_Domain)] (List.length [(⟨0, 10, 0, (-1), 0, []⟩ : Api_Domain), (⟨0, 20, 0, (-1), 0, []⟩ : Api_Domain)]) false), .callo (.tup [.os 0 (List.length l3), .v (.int .i64 v4)]) [.arr 5 l3 (List.length l3) false], .callo (.tup [.os 0 (List.length l7), .v (.int .i64 v8)]) [.arr 5 l7 (List.length l7) false], .callo (.tup [.os 0 (List.length l11), .v (.int .i64 v12)]) [.arr 5 l11 (List.length l11) false], .dec true, .dec true, .dec false]) (hrun := by kernel_rfl) (hps := pc (bs_ob 138 [(⟨0, 0, (⟨#[97]⟩ : ByteArray), 0, 0⟩ : Api_Device)]) <| pc (bs_ob 3 [(20 : Int)]) <| pc (bs_ob 96 [(⟨0, 0, 10, 0, (-1), (⟨#[112]⟩ : ByteArray), [(20 : Int)]⟩ : Api_Port)]) <| pc ((rfl : ((List.length [(20 : Int)]) : Nat) = (List.length [(20 : Int)]))) <| pc (bs_ob 85 [(⟨0, 10, 0, (-1), 0, []⟩ : Api_Domain), (⟨0, 20, 0, (-1), 0, []⟩ : Api_Domain)]) <| pc (k_leave_At h2) <| pc (im5 l3) <| pc ((rfl : ((List.length [(⟨0, 0, (⟨#[97]⟩ : ByteArray), 0, 0⟩ : Api_Device)]) : Nat) = (List.length [(⟨0, 0, (⟨#[97]⟩ : ByteArray), 0, 0⟩ : Api_Device)]))) <| pc ((rfl : ((List.length [(⟨0, 0, 10, 0, (-1), (⟨#[112]⟩ : ByteArray), [(20 : Int)]⟩ : Api_Port)]) : Nat) = (List.length [(⟨0, 0, 10, 0, (-1), (⟨#[112]⟩ : ByteArray), [(20 : Int)]⟩ : Api_Port)]))) <| pc ((rfl : (0 : Nat) = 0)) <| pc ((rfl : ((List.length [(⟨0, 10, 0, (-1), 0, []⟩ : Api_Domain), (⟨0, 20, 0, (-1), 0, []⟩ : Api_Domain)]) : Nat) = (List.length [(⟨0, 10, 0, (-1), 0, []⟩ : Api_Domain), (⟨0, 20, 0, (-1), 0, []⟩ : Api_Domain)]))) <| pc ((rfl : (0 : Nat) = 0)) <| pc ((rfl : (0 : Nat) = 0)) <| pc ((rfl : (0 : Nat) = 0)) <| pc ((rfl : (0 : Nat) = 0)) <| pc ((rfl : (0 : Nat) = 0)) <| pc (k_leave_At h6) <| pc (im5 l7) <| pc ((rfl : ((List.length [(⟨0, 0, (⟨#[97]⟩ : ByteArray), 0, 0⟩ : Api_Device)]) : Nat) = (List.length [(⟨0, 0, (⟨#[97]⟩ : ByteArray), 0, 0⟩ : Api_Device)]))) <| pc ((rfl : ((List.length [(⟨0, 0, 10, 0, (-1), (⟨#[112]⟩ : ByteArray), [(20 : Int)]⟩ : Api_Port)]) : Nat) = (List.length [(⟨0, 0, 10, 0, (-1), (⟨#[112]⟩ : ByteArray), [(20 : Int)]⟩ : Api_Port)]))) <| pc ((rfl : (0 : Nat) = 0)) <| pc ((rfl : ((List.length [(⟨0, 10, 0, (-1), 0, []⟩ : Api_Domain), (⟨0, 20, 0, (-1), 0, []⟩ : Api_Domain)]) : Nat) = (List.length [(⟨0, 10, 0, (-1), 0, []⟩ : Api_Domain), (⟨0, 20, 0, (-1), 0, []⟩ : Api_Domain)]))) <| pc ((rfl : (0 : Nat) = 0)) <| pc ((rfl : (0 : Nat) = 0)) <| pc ((rfl : (0 : Nat) = 0)) <| pc ((rfl : (0 : Nat) = 0)) <| pc ((rfl : (0 : Nat) = 0)) <| pc (k_leave_At h10) <| pc (im5 l11) <| pc ((rfl : ((List.length [(⟨0, 0, (⟨#[97]⟩ : ByteArray), 0, 0⟩ : Api_Device)]) : Nat) = (List.length [(⟨0, 0, (⟨#[97]⟩ : ByteArray), 0, 0⟩ : Api_Device)]))) <| pc ((rfl : ((List.length [(⟨0, 0, 10, 0, (-1), (⟨#[112]⟩ : ByteArray), [(20 : Int)]⟩ : Api_Port)]) : Nat) = (List.length [(⟨0, 0, 10, 0, (-1), (⟨#[112]⟩ : ByteArray), [(20 : Int)]⟩ : Api_Port)]))) <| pc ((rfl : (0 : Nat) = 0)) <| pc ((rfl : ((List.length [(⟨0, 10, 0, (-1), 0, []⟩ : Api_Domain), (⟨0, 20, 0, (-1), 0, []⟩ : Api_Domain)]) : Nat) = (List.length [(⟨0, 10, 0, (-1), 0, []⟩ : Api_Domain), (⟨0, 20, 0, (-1), 0, []⟩ : Api_Domain)]))) <| pc ((rfl : (0 : Nat) = 0)) <| pc ((rfl : (0 : Nat) = 0)) <| pc ((rfl : (0 : Nat) = 0)) <| pc ((rfl : (0 : Nat) = 0)) <| pc ((rfl : (0 : Nat) = 0)) <| pc (h13) <| pc ((rfl : ((List.length l3) : Nat) = (List.length l3))) <| pc (h14) <| pc (h15) <| pn)
    · injection h with h; subst h; exact runFn_sound mixedOrders Try.func35 rfl (keep := none) (π := [.obj [] (.arr 138 [(⟨0, 0, (⟨#[97]⟩ : ByteArray), 0, 0⟩ : Api_Device)] (List.length [(⟨0, 0, (⟨#[97]⟩ : ByteArray), 0, 0⟩ : Api_Device)]) false), .obj [] (.arr 3 [(20 : Int)] (List.length [(20 : Int)]) false), .obj [1] (.arr 96 [(⟨0, 0, 10, 0, (-1), (⟨#[112]⟩ : ByteArray), [(20 : Int)]⟩ : Api_Port)] (List.length [(⟨0, 0, 10, 0, (-1), (⟨#[112]⟩ : ByteArray), [(20 : Int)]⟩ : Api_Port)]) false), .obj [] (.arr 85 [(⟨0, 10, 0, (-1), 0, []⟩ : Api_Domain), (⟨0, 20, 0, (-1), 0, []⟩ : Api_Domain)] (List.length [(⟨0, 10, 0, (-1), 0, []⟩ : Api_Domain), (⟨0, 20, 0, (-1), 0, []⟩ : Api_Domain)]) false), .callo (.tup [.os 0 (List.length l3), .v (.int .i64 v4)]) [.arr 5 l3 (List.length l3) false], .callo (.tup [.os 0 (List.length l7), .v (.int .i64 v8)]) [.arr 5 l7 (List.length l7) false], .callo (.tup [.os 0 (List.length l11), .v (.int .i64 v12)]) [.arr 5 l11 (List.length l11) false], .dec true, .dec false]) (hrun := by kernel_rfl) (hps := pc (bs_ob 138 [(⟨0, 0, (⟨#[97]⟩ : ByteArray), 0, 0⟩ : Api_Device)]) <| pc (bs_ob 3 [(20 : Int)]) <| pc (bs_ob 96 [(⟨0, 0, 10, 0, (-1), (⟨#[112]⟩ : ByteArray), [(20 : Int)]⟩ : Api_Port)]) <| pc ((rfl : ((List.length [(20 : Int)]) : Nat) = (List.length [(20 : Int)]))) <| pc (bs_ob 85 [(⟨0, 10, 0, (-1), 0, []⟩ : Api_Domain), (⟨0, 20, 0, (-1), 0, []⟩ : Api_Domain)]) <| pc (k_leave_At h2) <| pc (im5 l3) <| pc ((rfl : ((List.length [(⟨0, 0, (⟨#[97]⟩ : ByteArray), 0, 0⟩ : Api_Device)]) : Nat) = (List.length [(⟨0, 0, (⟨#[97]⟩ : ByteArray), 0, 0⟩ : Api_Device)]))) <| pc ((rfl : ((List.length [(⟨0, 0, 10, 0, (-1), (⟨#[112]⟩ : ByteArray), [(20 : Int)]⟩ : Api_Port)]) : Nat) = (List.length [(⟨0, 0, 10, 0, (-1), (⟨#[112]⟩ : ByteArray), [(20 : Int)]⟩ : Api_Port)]))) <| pc ((rfl : (0 : Nat) = 0)) <| pc ((rfl : ((List.length [(⟨0, 10, 0, (-1), 0, []⟩ : Api_Domain), (⟨0, 20, 0, (-1), 0, []⟩ : Api_Domain)]) : Nat) = (List.length [(⟨0, 10, 0, (-1), 0, []⟩ : Api_Domain), (⟨0, 20, 0, (-1), 0, []⟩ : Api_Domain)]))) <| pc ((rfl : (0 : Nat) = 0)) <| pc ((rfl : (0 : Nat) = 0)) <| pc ((rfl : (0 : Nat) = 0)) <| pc ((rfl : (0 : Nat) = 0)) <| pc ((rfl : (0 : Nat) = 0)) <| pc (k_leave_At h6) <| pc (im5 l7) <| pc ((rfl : ((List.length [(⟨0, 0, (⟨#[97]⟩ : ByteArray), 0, 0⟩ : Api_Device)]) : Nat) = (List.length [(⟨0, 0, (⟨#[97]⟩ : ByteArray), 0, 0⟩ : Api_Device)]))) <| pc ((rfl : ((List.length [(⟨0, 0, 10, 0, (-1), (⟨#[112]⟩ : ByteArray), [(20 : Int)]⟩ : Api_Port)]) : Nat) = (List.length [(⟨0, 0, 10, 0, (-1), (⟨#[112]⟩ : ByteArray), [(20 : Int)]⟩ : Api_Port)]))) <| pc ((rfl : (0 : Nat) = 0)) <| pc ((rfl : ((List.length [(⟨0, 10, 0, (-1), 0, []⟩ : Api_Domain), (⟨0, 20, 0, (-1), 0, []⟩ : Api_Domain)]) : Nat) = (List.length [(⟨0, 10, 0, (-1), 0, []⟩ : Api_Domain), (⟨0, 20, 0, (-1), 0, []⟩ : Api_Domain)]))) <| pc ((rfl : (0 : Nat) = 0)) <| pc ((rfl : (0 : Nat) = 0)) <| pc ((rfl : (0 : Nat) = 0)) <| pc ((rfl : (0 : Nat) = 0)) <| pc ((rfl : (0 : Nat) = 0)) <| pc (k_leave_At h10) <| pc (im5 l11) <| pc ((rfl : ((List.length [(⟨0, 0, (⟨#[97]⟩ : ByteArray), 0, 0⟩ : Api_Device)]) : Nat) = (List.length [(⟨0, 0, (⟨#[97]⟩ : ByteArray), 0, 0⟩ : Api_Device)]))) <| pc ((rfl : ((List.length [(⟨0, 0, 10, 0, (-1), (⟨#[112]⟩ : ByteArray), [(20 : Int)]⟩ : Api_Port)]) : Nat) = (List.length [(⟨0, 0, 10, 0, (-1), (⟨#[112]⟩ : ByteArray), [(20 : Int)]⟩ : Api_Port)]))) <| pc ((rfl : (0 : Nat) = 0)) <| pc ((rfl : ((List.length [(⟨0, 10, 0, (-1), 0, []⟩ : Api_Domain), (⟨0, 20, 0, (-1), 0, []⟩ : Api_Domain)]) : Nat) = (List.length [(⟨0, 10, 0, (-1), 0, []⟩ : Api_Domain), (⟨0, 20, 0, (-1), 0, []⟩ : Api_Domain)]))) <| pc ((rfl : (0 : Nat) = 0)) <| pc ((rfl : (0 : Nat) = 0)) <| pc ((rfl : (0 : Nat) = 0)) <| pc ((rfl : (0 : Nat) = 0)) <| pc ((rfl : (0 : Nat) = 0)) <| pc (h13) <| pc ((rfl : ((List.length l3) : Nat) = (List.length l3))) <| pc (h14) <| pn)
  · injection h with h; subst h; exact runFn_sound mixedOrders Try.func35 rfl (keep := none) (π := [.obj [] (.arr 138 [(⟨0, 0, (⟨#[97]⟩ : ByteArray), 0, 0⟩ : Api_Device)] (List.length [(⟨0, 0, (⟨#[97]⟩ : ByteArray), 0, 0⟩ : Api_Device)]) false), .obj [] (.arr 3 [(20 : Int)] (List.length [(20 : Int)]) false), .obj [1] (.arr 96 [(⟨0, 0, 10, 0, (-1), (⟨#[112]⟩ : ByteArray), [(20 : Int)]⟩ : Api_Port)] (List.length [(⟨0, 0, 10, 0, (-1), (⟨#[112]⟩ : ByteArray), [(20 : Int)]⟩ : Api_Port)]) false), .obj [] (.arr 85 [(⟨0, 10, 0, (-1), 0, []⟩ : Api_Domain), (⟨0, 20, 0, (-1), 0, []⟩ : Api_Domain)] (List.length [(⟨0, 10, 0, (-1), 0, []⟩ : Api_Domain), (⟨0, 20, 0, (-1), 0, []⟩ : Api_Domain)]) false), .callo (.tup [.os 0 (List.length l3), .v (.int .i64 v4)]) [.arr 5 l3 (List.length l3) false], .callo (.tup [.os 0 (List.length l7), .v (.int .i64 v8)]) [.arr 5 l7 (List.length l7) false], .callo (.tup [.os 0 (List.length l11), .v (.int .i64 v12)]) [.arr 5 l11 (List.length l11) false], .dec false]) (hrun := by kernel_rfl) (hps := pc (bs_ob 138 [(⟨0, 0, (⟨#[97]⟩ : ByteArray), 0, 0⟩ : Api_Device)]) <| pc (bs_ob 3 [(20 : Int)]) <| pc (bs_ob 96 [(⟨0, 0, 10, 0, (-1), (⟨#[112]⟩ : ByteArray), [(20 : Int)]⟩ : Api_Port)]) <| pc ((rfl : ((List.length [(20 : Int)]) : Nat) = (List.length [(20 : Int)]))) <| pc (bs_ob 85 [(⟨0, 10, 0, (-1), 0, []⟩ : Api_Domain), (⟨0, 20, 0, (-1), 0, []⟩ : Api_Domain)]) <| pc (k_leave_At h2) <| pc (im5 l3) <| pc ((rfl : ((List.length [(⟨0, 0, (⟨#[97]⟩ : ByteArray), 0, 0⟩ : Api_Device)]) : Nat) = (List.length [(⟨0, 0, (⟨#[97]⟩ : ByteArray), 0, 0⟩ : Api_Device)]))) <| pc ((rfl : ((List.length [(⟨0, 0, 10, 0, (-1), (⟨#[112]⟩ : ByteArray), [(20 : Int)]⟩ : Api_Port)]) : Nat) = (List.length [(⟨0, 0, 10, 0, (-1), (⟨#[112]⟩ : ByteArray), [(20 : Int)]⟩ : Api_Port)]))) <| pc ((rfl : (0 : Nat) = 0)) <| pc ((rfl : ((List.length [(⟨0, 10, 0, (-1), 0, []⟩ : Api_Domain), (⟨0, 20, 0, (-1), 0, []⟩ : Api_Domain)]) : Nat) = (List.length [(⟨0, 10, 0, (-1), 0, []⟩ : Api_Domain), (⟨0, 20, 0, (-1), 0, []⟩ : Api_Domain)]))) <| pc ((rfl : (0 : Nat) = 0)) <| pc ((rfl : (0 : Nat) = 0)) <| pc ((rfl : (0 : Nat) = 0)) <| pc ((rfl : (0 : Nat) = 0)) <| pc ((rfl : (0 : Nat) = 0)) <| pc (k_leave_At h6) <| pc (im5 l7) <| pc ((rfl : ((List.length [(⟨0, 0, (⟨#[97]⟩ : ByteArray), 0, 0⟩ : Api_Device)]) : Nat) = (List.length [(⟨0, 0, (⟨#[97]⟩ : ByteArray), 0, 0⟩ : Api_Device)]))) <| pc ((rfl : ((List.length [(⟨0, 0, 10, 0, (-1), (⟨#[112]⟩ : ByteArray), [(20 : Int)]⟩ : Api_Port)]) : Nat) = (List.length [(⟨0, 0, 10, 0, (-1), (⟨#[112]⟩ : ByteArray), [(20 : Int)]⟩ : Api_Port)]))) <| pc ((rfl : (0 : Nat) = 0)) <| pc ((rfl : ((List.length [(⟨0, 10, 0, (-1), 0, []⟩ : Api_Domain), (⟨0, 20, 0, (-1), 0, []⟩ : Api_Domain)]) : Nat) = (List.length [(⟨0, 10, 0, (-1), 0, []⟩ : Api_Domain), (⟨0, 20, 0, (-1), 0, []⟩ : Api_Domain)]))) <| pc ((rfl : (0 : Nat) = 0)) <| pc ((rfl : (0 : Nat) = 0)) <| pc ((rfl : (0 : Nat) = 0)) <| pc ((rfl : (0 : Nat) = 0)) <| pc ((rfl : (0 : Nat) = 0)) <| pc (k_leave_At h10) <| pc (im5 l11) <| pc ((rfl : ((List.length [(⟨0, 0, (⟨#[97]⟩ : ByteArray), 0, 0⟩ : Api_Device)]) : Nat) = (List.length [(⟨0, 0, (⟨#[97]⟩ : ByteArray), 0, 0⟩ : Api_Device)]))) <| pc ((rfl : ((List.length [(⟨0, 0, 10, 0, (-1), (⟨#[112]⟩ : ByteArray), [(20 : Int)]⟩ : Api_Port)]) : Nat) = (List.length [(⟨0, 0, 10, 0, (-1), (⟨#[112]⟩ : ByteArray), [(20 : Int)]⟩ : Api_Port)]))) <| pc ((rfl : (0 : Nat) = 0)) <| pc ((rfl : ((List.length [(⟨0, 10, 0, (-1), 0, []⟩ : Api_Domain), (⟨0, 20, 0, (-1), 0, []⟩ : Api_Domain)]) : Nat) = (List.length [(⟨0, 10, 0, (-1), 0, []⟩ : Api_Domain), (⟨0, 20, 0, (-1), 0, []⟩ : Api_Domain)]))) <| pc ((rfl : (0 : Nat) = 0)) <| pc ((rfl : (0 : Nat) = 0)) <| pc ((rfl : (0 : Nat) = 0)) <| pc ((rfl : (0 : Nat) = 0)) <| pc ((rfl : (0 : Nat) = 0)) <| pc (h13) <| pn)

theorem k_palinglaw15_Great_L1 {a1 : Api_Net} : LoopOK Try.prog UU 0 123 (subC (codeOf Try.f25) [1, 1, 0, 1, 0, 0]) (ρ := Unit ⊕ Unit) (palinglaw15_Great_L1 a1)
    (fun v10 : Int => ([(1, .op 0 1 0 0), (2, .v (.bool false)), (3, .v (.int .i64 v10))] : Fr DD)) (fun v10 : Int => ([.box 61 (c61 a1) false] : Heap DD)) (fun r => match r with | Sum.inl _ => .ret | Sum.inr _ => .exit 0) (fun r => match r with | Sum.inl _ => [(2, .v (.bool true))] | Sum.inr _ => [(1, .op 0 1 0 0), (2, .v (.bool false))]) (fun r => match r with | Sum.inl _ => [] | Sum.inr _ => [.box 61 (c61 a1) false]) := by
  refine loop_sound3 (fun s q h => ?_) (fun r => ?_)
  · replace h : palinglaw15_Great_L1 a1 s = some q := h; revert h; revert s; intro v10 h
    unfold palinglaw15_Great_L1 at h
    rcases ite_out h with ⟨h11, h⟩ | ⟨h11, h⟩
    · obtain ⟨x12, h13, h⟩ := bind_out h
      rcases ite_out h with ⟨h14, h⟩ | ⟨h14, h⟩
      · injection h with h; subst h; exact runLp_sound mixedOrders (live := [2]) (ids := []) (π := [.dec true, .row (c96 x12), .dec true]) (hx := by kernel_rfl) (hps := pc (h11) <| pc (ob96 h13) <| pc (h14) <| pn)
      · injection h with h; subst h; exact runLp_sound mixedOrders (live := [1, 2, 3]) (ids := [0]) (π := [.dec true, .row (c96 x12), .dec false]) (hx := by kernel_rfl) (hps := pc (h11) <| pc (ob96 h13) <| pc (h14) <| pn)
    · injection h with h; subst h; exact runLp_sound mixedOrders (live := [1, 2]) (ids := [0]) (π := [.dec false]) (hx := by kernel_rfl) (hps := pc (h11) <| pn)
  · rcases r with _ | _ <;> exact Ex.noConfusion

theorem k_palinglaw15_Great_L2 {a1 : Api_Net} : LoopOK Try.prog UU 0 123 (subC (codeOf Try.f25) [1, 1, 1, 0, 1, 0, 0]) (ρ := Unit ⊕ Unit) (palinglaw15_Great_L2 a1)
    (fun v17 : Int => ([(1, .op 0 1 0 0), (2, .v (.bool false)), (4, .v (.int .i64 v17))] : Fr DD)) (fun v17 : Int => ([.box 61 (c61 a1) false] : Heap DD)) (fun r => match r with | Sum.inl _ => .ret | Sum.inr _ => .exit 2) (fun r => match r with | Sum.inl _ => [(2, .v (.bool true))] | Sum.inr _ => [(1, .op 0 1 0 0), (2, .v (.bool false))]) (fun r => match r with | Sum.inl _ => [] | Sum.inr _ => [.box 61 (c61 a1) false]) := by
  refine loop_sound3 (fun s q h => ?_) (fun r => ?_)
  · replace h : palinglaw15_Great_L2 a1 s = some q := h; revert h; revert s; intro v17 h
    unfold palinglaw15_Great_L2 at h
    rcases ite_out h with ⟨h18, h⟩ | ⟨h18, h⟩
    · obtain ⟨x19, h20, h⟩ := bind_out h
      rcases ite_out h with ⟨h21, h⟩ | ⟨h21, h⟩
      · injection h with h; subst h; exact runLp_sound mixedOrders (live := [2]) (ids := []) (π := [.dec true, .row (c85 x19), .dec true]) (hx := by kernel_rfl) (hps := pc (h18) <| pc (ob85 h20) <| pc (h21) <| pn)
      · injection h with h; subst h; exact runLp_sound mixedOrders (live := [1, 2, 4]) (ids := [0]) (π := [.dec true, .row (c85 x19), .dec false]) (hx := by kernel_rfl) (hps := pc (h18) <| pc (ob85 h20) <| pc (h21) <| pn)
    · injection h with h; subst h; exact runLp_sound mixedOrders (live := [1, 2]) (ids := [0]) (π := [.dec false]) (hx := by kernel_rfl) (hps := pc (h18) <| pn)
  · rcases r with _ | _ <;> exact Ex.noConfusion

theorem k_palinglaw15_Great_L3 {a1 : Api_Net} : LoopOK Try.prog UU 0 123 (subC (codeOf Try.f25) [1, 1, 1, 1, 0, 1, 0, 0]) (ρ := Unit ⊕ Unit) (palinglaw15_Great_L3 a1)
    (fun v24 : Int => ([(1, .op 0 1 0 0), (2, .v (.bool false)), (5, .v (.int .i64 v24))] : Fr DD)) (fun v24 : Int => ([.box 61 (c61 a1) false] : Heap DD)) (fun r => match r with | Sum.inl _ => .ret | Sum.inr _ => .exit 4) (fun r => match r with | Sum.inl _ => [(2, .v (.bool true))] | Sum.inr _ => [(1, .op 0 1 0 0), (2, .v (.bool false))]) (fun r => match r with | Sum.inl _ => [] | Sum.inr _ => [.box 61 (c61 a1) false]) := by
  refine loop_sound3 (fun s q h => ?_) (fun r => ?_)
  · replace h : palinglaw15_Great_L3 a1 s = some q := h; revert h; revert s; intro v24 h
    unfold palinglaw15_Great_L3 at h
    rcases ite_out h with ⟨h25, h⟩ | ⟨h25, h⟩
    · obtain ⟨x26, h27, h⟩ := bind_out h
      rcases ite_out h with ⟨h28, h⟩ | ⟨h28, h⟩
      · injection h with h; subst h; exact runLp_sound mixedOrders (live := [2]) (ids := []) (π := [.dec true, .row (c128 x26), .dec true]) (hx := by kernel_rfl) (hps := pc (h25) <| pc (ob128 h27) <| pc (h28) <| pn)
      · injection h with h; subst h; exact runLp_sound mixedOrders (live := [1, 2, 5]) (ids := [0]) (π := [.dec true, .row (c128 x26), .dec false]) (hx := by kernel_rfl) (hps := pc (h25) <| pc (ob128 h27) <| pc (h28) <| pn)
    · injection h with h; subst h; exact runLp_sound mixedOrders (live := [1, 2]) (ids := [0]) (π := [.dec false]) (hx := by kernel_rfl) (hps := pc (h25) <| pn)
  · rcases r with _ | _ <;> exact Ex.noConfusion

theorem k_palinglaw15_Great_L4 {a1 : Api_Net} : LoopOK Try.prog UU 0 123 (subC (codeOf Try.f25) [1, 1, 1, 1, 1, 0, 1, 0, 0]) (ρ := Unit ⊕ Unit) (palinglaw15_Great_L4 a1)
    (fun v31 : Int => ([(1, .op 0 1 0 0), (2, .v (.bool false)), (6, .v (.int .i64 v31))] : Fr DD)) (fun v31 : Int => ([.box 61 (c61 a1) false] : Heap DD)) (fun r => match r with | Sum.inl _ => .ret | Sum.inr _ => .exit 6) (fun r => match r with | Sum.inl _ => [(2, .v (.bool true))] | Sum.inr _ => [(2, .v (.bool false))]) (fun r => match r with | Sum.inl _ => [] | Sum.inr _ => []) := by
  refine loop_sound3 (fun s q h => ?_) (fun r => ?_)
  · replace h : palinglaw15_Great_L4 a1 s = some q := h; revert h; revert s; intro v31 h
    unfold palinglaw15_Great_L4 at h
    rcases ite_out h with ⟨h32, h⟩ | ⟨h32, h⟩
    · obtain ⟨x33, h34, h⟩ := bind_out h
      rcases ite_out h with ⟨h35, h⟩ | ⟨h35, h⟩
      · injection h with h; subst h; exact runLp_sound mixedOrders (live := [2]) (ids := []) (π := [.dec true, .row (c71 x33), .dec true]) (hx := by kernel_rfl) (hps := pc (h32) <| pc (ob71 h34) <| pc (h35) <| pn)
      · obtain ⟨x36, h37, h⟩ := bind_out h
        rcases ite_out h with ⟨h38, h⟩ | ⟨h38, h⟩
        · injection h with h; subst h; exact runLp_sound mixedOrders (live := [2]) (ids := []) (π := [.dec true, .row (c71 x33), .dec false, .row (c71 x36), .dec true]) (hx := by kernel_rfl) (hps := pc (h32) <| pc (ob71 h34) <| pc (h35) <| pc (ob71 h37) <| pc (h38) <| pn)
        · injection h with h; subst h; exact runLp_sound mixedOrders (live := [1, 2, 6]) (ids := [0]) (π := [.dec true, .row (c71 x33), .dec false, .row (c71 x36), .dec false]) (hx := by kernel_rfl) (hps := pc (h32) <| pc (ob71 h34) <| pc (h35) <| pc (ob71 h37) <| pc (h38) <| pn)
    · injection h with h; subst h; exact runLp_sound mixedOrders (live := [2]) (ids := []) (π := [.dec false]) (hx := by kernel_rfl) (hps := pc (h32) <| pn)
  · rcases r with _ | _ <;> exact Ex.noConfusion

theorem k_palinglaw15_Great {a1 : Api_Net} {r : Bool} (h : palinglaw15_Great a1 = some r) :
    CallsOK Try.prog UU 25 [.agg (c61 a1)] [] (.v (.bool r)) [] := by
  unfold palinglaw15_Great at h
  rcases ite_out h with ⟨h2, h⟩ | ⟨h2, h⟩
  · injection h with h; subst h; exact runFn_sound mixedOrders Try.func25 rfl (keep := none) (π := [.dec true]) (hrun := by kernel_rfl) (hps := pc (h2) <| pn)
  · rcases ite_out h with ⟨h3, h⟩ | ⟨h3, h⟩
    · injection h with h; subst h; exact runFn_sound mixedOrders Try.func25 rfl (keep := none) (π := [.dec false, .dec true]) (hrun := by kernel_rfl) (hps := pc (h2) <| pc (h3) <| pn)
    · rcases ite_out h with ⟨h4, h⟩ | ⟨h4, h⟩
      · injection h with h; subst h; exact runFn_sound mixedOrders Try.func25 rfl (keep := none) (π := [.dec false, .dec false, .dec true]) (hrun := by kernel_rfl) (hps := pc (h2) <| pc (h3) <| pc (h4) <| pn)
      · rcases ite_out h with ⟨h5, h⟩ | ⟨h5, h⟩
        · injection h with h; subst h; exact runFn_sound mixedOrders Try.func25 rfl (keep := none) (π := [.dec false, .dec false, .dec false, .dec true]) (hrun := by kernel_rfl) (hps := pc (h2) <| pc (h3) <| pc (h4) <| pc (h5) <| pn)
        · rcases ite_out h with ⟨h6, h⟩ | ⟨h6, h⟩
          · injection h with h; subst h; exact runFn_sound mixedOrders Try.func25 rfl (keep := none) (π := [.dec false, .dec false, .dec false, .dec false, .dec true]) (hrun := by kernel_rfl) (hps := pc (h2) <| pc (h3) <| pc (h4) <| pc (h5) <| pc (h6) <| pn)
          · rcases ite_out h with ⟨h7, h⟩ | ⟨h7, h⟩
            · injection h with h; subst h; exact runFn_sound mixedOrders Try.func25 rfl (keep := none) (π := [.dec false, .dec false, .dec false, .dec false, .dec false, .dec true]) (hrun := by kernel_rfl) (hps := pc (h2) <| pc (h3) <| pc (h4) <| pc (h5) <| pc (h6) <| pc (h7) <| pn)
            · rcases ite_out h with ⟨h8, h⟩ | ⟨h8, h⟩
              · injection h with h; subst h; exact runFn_sound mixedOrders Try.func25 rfl (keep := none) (π := [.dec false, .dec false, .dec false, .dec false, .dec false, .dec false, .dec true]) (hrun := by kernel_rfl) (hps := pc (h2) <| pc (h3) <| pc (h4) <| pc (h5) <| pc (h6) <| pc (h7) <| pc (h8) <| pn)
              · rcases ite_out h with ⟨h9, h⟩ | ⟨h9, h⟩
                · injection h with h; subst h; exact runFn_sound mixedOrders Try.func25 rfl (keep := none) (π := [.dec false, .dec false, .dec false, .dec false, .dec false, .dec false, .dec false, .dec true]) (hrun := by kernel_rfl) (hps := pc (h2) <| pc (h3) <| pc (h4) <| pc (h5) <| pc (h6) <| pc (h7) <| pc (h8) <| pc (h9) <| pn)
                · obtain ⟨r16, h15, h⟩ := bind_out h
                  rcases r16 with _ | _
                  · injection h with h; subst h; exact runFn_sound mixedOrders Try.func25 rfl (keep := none) (π := [.dec false, .dec false, .dec false, .dec false, .dec false, .dec false, .dec false, .dec false, .sum [1, 2, 3] [0] .ret [(2, .v (.bool true))] []]) (hrun := by kernel_rfl) (hps := pc (h2) <| pc (h3) <| pc (h4) <| pc (h5) <| pc (h6) <| pc (h7) <| pc (h8) <| pc (h9) <| pc (k_palinglaw15_Great_L1 _ _ h15) <| pn)
                  · obtain ⟨r23, h22, h⟩ := bind_out h
                    rcases r23 with _ | _
                    · injection h with h; subst h; exact runFn_sound mixedOrders Try.func25 rfl (keep := none) (π := [.dec false, .dec false, .dec false, .dec false, .dec false, .dec false, .dec false, .dec false, .sum [1, 2, 3] [0] (.exit 0) [(1, .op 0 1 0 0), (2, .v (.bool false))] [.box 61 (c61 a1) false], .sum [1, 2, 4] [0] .ret [(2, .v (.bool true))] []]) (hrun := by kernel_rfl) (hps := pc (h2) <| pc (h3) <| pc (h4) <| pc (h5) <| pc (h6) <| pc (h7) <| pc (h8) <| pc (h9) <| pc (k_palinglaw15_Great_L1 _ _ h15) <| pc (k_palinglaw15_Great_L2 _ _ h22) <| pn)
                    · obtain ⟨r30, h29, h⟩ := bind_out h
                      rcases r30 with _ | _
                      · injection h with h; subst h; exact runFn_sound mixedOrders Try.func25 rfl (keep := none) (π := [.dec false, .dec false, .dec false, .dec false, .dec false, .dec false, .dec false, .dec false, .sum [1, 2, 3] [0] (.exit 0) [(1, .op 0 1 0 0), (2, .v (.bool false))] [.box 61 (c61 a1) false], .sum [1, 2, 4] [0] (.exit 2) [(1, .op 0 1 0 0), (2, .v (.bool false))] [.box 61 (c61 a1) false], .sum [1, 2, 5] [0] .ret [(2, .v (.bool true))] []]) (hrun := by kernel_rfl) (hps := pc (h2) <| pc (h3) <| pc (h4) <| pc (h5) <| pc (h6) <| pc (h7) <| pc (h8) <| pc (h9) <| pc (k_palinglaw15_Great_L1 _ _ h15) <| pc (k_palinglaw15_Great_L2 _ _ h22) <| pc (k_palinglaw15_Great_L3 _ _ h29) <| pn)
                      · obtain ⟨r40, h39, h⟩ := bind_out h
                        rcases r40 with _ | _
                        · injection h with h; subst h; exact runFn_sound mixedOrders Try.func25 rfl (keep := none) (π := [.dec false, .dec false, .dec false, .dec false, .dec false, .dec false, .dec false, .dec false, .sum [1, 2, 3] [0] (.exit 0) [(1, .op 0 1 0 0), (2, .v (.bool false))] [.box 61 (c61 a1) false], .sum [1, 2, 4] [0] (.exit 2) [(1, .op 0 1 0 0), (2, .v (.bool false))] [.box 61 (c61 a1) false], .sum [1, 2, 5] [0] (.exit 4) [(1, .op 0 1 0 0), (2, .v (.bool false))] [.box 61 (c61 a1) false], .sum [1, 2, 6] [0] .ret [(2, .v (.bool true))] []]) (hrun := by kernel_rfl) (hps := pc (h2) <| pc (h3) <| pc (h4) <| pc (h5) <| pc (h6) <| pc (h7) <| pc (h8) <| pc (h9) <| pc (k_palinglaw15_Great_L1 _ _ h15) <| pc (k_palinglaw15_Great_L2 _ _ h22) <| pc (k_palinglaw15_Great_L3 _ _ h29) <| pc (k_palinglaw15_Great_L4 _ _ h39) <| pn)
                        · injection h with h; subst h; exact runFn_sound mixedOrders Try.func25 rfl (keep := none) (π := [.dec false, .dec false, .dec false, .dec false, .dec false, .dec false, .dec false, .dec false, .sum [1, 2, 3] [0] (.exit 0) [(1, .op 0 1 0 0), (2, .v (.bool false))] [.box 61 (c61 a1) false], .sum [1, 2, 4] [0] (.exit 2) [(1, .op 0 1 0 0), (2, .v (.bool false))] [.box 61 (c61 a1) false], .sum [1, 2, 5] [0] (.exit 4) [(1, .op 0 1 0 0), (2, .v (.bool false))] [.box 61 (c61 a1) false], .sum [1, 2, 6] [0] (.exit 6) [(2, .v (.bool false))] []]) (hrun := by kernel_rfl) (hps := pc (h2) <| pc (h3) <| pc (h4) <| pc (h5) <| pc (h6) <| pc (h7) <| pc (h8) <| pc (h9) <| pc (k_palinglaw15_Great_L1 _ _ h15) <| pc (k_palinglaw15_Great_L2 _ _ h22) <| pc (k_palinglaw15_Great_L3 _ _ h29) <| pc (k_palinglaw15_Great_L4 _ _ h39) <| pn)

theorem k_mac_Take_L1 {a1 : List Int} {a2 : Int} : LoopOK Try.prog UU 0 32 (subC (codeOf Try.f62) [1, 1, 1, 0, 1, 0, 0]) (fun s : Int × Int => match s with | (v5, v6) => mac_Take_L1 a1 a2 v5 v6)
    (fun s : Int × Int => (match s with | (v5, v6) => [(0, .sl 5 a1), (1, .v (.int .i64 a2)), (4, .v (.int .u64 0)), (5, .v (.bool false)), (6, .v (.int .u64 v5)), (17, .v (.int .i64 v6))] : Fr DD)) (fun s : Int × Int => (match s with | (v5, v6) => [] : Heap DD)) (fun r => match r with | v11 => .exit 0) (fun r => match r with | v11 => [(4, .v (.int .u64 0)), (5, .v (.bool false)), (6, .v (.int .u64 v11))]) (fun r => match r with | v11 => []) := by
  refine loop_sound3 (fun s q h => ?_) (fun r => ?_)
  · obtain ⟨v5, v6⟩ := s; replace h : mac_Take_L1 a1 a2 v5 v6 = some q := h
    unfold mac_Take_L1 at h
    rcases ite_out h with ⟨h7, h⟩ | ⟨h7, h⟩
    · obtain ⟨x8, h9, h⟩ := bind_out h
      injection h with h; subst h; exact runLp_sound mixedOrders (live := [0, 1, 4, 5, 6, 17]) (ids := []) (π := [.dec true, .row (c5 x8)]) (hx := by kernel_rfl) (hps := pc (h7) <| pc ((show (0 : Int) ≤ 8 from by decide)) <| pc (ob5 h9) <| pn)
    · injection h with h; subst h; exact runLp_sound mixedOrders (live := [4, 5, 6]) (ids := []) (π := [.dec false]) (hx := by kernel_rfl) (hps := pc (h7) <| pn)
  · exact Ex.noConfusion

theorem k_mac_Take {a1 : List Int} {a2 : Int} {r : Int × Bool} (h : mac_Take a1 a2 = some r) :
    CallsOK Try.prog UU 62 [.sl 5 a1, .v (.int .i64 a2)] [] (.tup [.v (.int .u64 r.1), .v (.bool r.2)]) [] := by
  unfold mac_Take at h
  rcases ite_out h with ⟨h3, h⟩ | ⟨h3, h⟩
  · injection h with h; subst h; exact runFn_sound mixedOrders Try.func62 rfl (keep := none) (π := [.dec true]) (hrun := by kernel_rfl) (hps := pc (h3) <| pn)
  · rcases ite_out h with ⟨h4, h⟩ | ⟨h4, h⟩
    · injection h with h; subst h; exact runFn_sound mixedOrders Try.func62 rfl (keep := none) (π := [.dec false, .dec true]) (hrun := by kernel_rfl) (hps := pc (h3) <| pc (h4) <| pn)
    · obtain ⟨v11, h12, h⟩ := bind_out h
      injection h with h; subst h; exact runFn_sound mixedOrders Try.func62 rfl (keep := none) (π := [.dec false, .dec false, .sum [0, 1, 4, 5, 6, 17] [] (.exit 0) [(4, .v (.int .u64 0)), (5, .v (.bool false)), (6, .v (.int .u64 v11))] []]) (hrun := by kernel_rfl) (hps := pc (h3) <| pc (h4) <| pc (k_mac_Take_L1 _ _ h12) <| pn)

theorem k_ether_Take {a1 : List Int} {r : ((List Int) × Nat × Int × Int × Int × Int)} (h : ether_Take a1 = some r) :
    CallsOK Try.prog UU 22 [.sl 5 a1] [] ((fun r => match r with | (l14, n15, v16, v17, v18, v19) => .tup [.agg [.v (.int .u64 v16), .v (.int .u64 v17), .v (.int .i64 v18), .os 0 n15], .v (.int .i64 v19)]) r) ((fun r => match r with | (l14, n15, v16, v17, v18, v19) => [.arr 5 l14 n15 false]) r) := by
  unfold ether_Take at h
  rcases ite_out h with ⟨h2, h⟩ | ⟨h2, h⟩
  · injection h with h; subst h; exact runFn_sound mixedOrders Try.func22 rfl (keep := some [2]) (π := [.dec true]) (hrun := by kernel_rfl) (hps := pc (h2) <| pn)
  · rcases ite_out h with ⟨h3, h⟩ | ⟨h3, h⟩
    · injection h with h; subst h; exact runFn_sound mixedOrders Try.func22 rfl (keep := some [2]) (π := [.dec false, .dec true]) (hrun := by kernel_rfl) (hps := pc (h2) <| pc (h3) <| pn)
    · obtain ⟨r4, h5, h⟩ := bind_out h
      obtain ⟨r6, h7, h⟩ := bind_out h
      rcases ite_out h with ⟨h8, h⟩ | ⟨h8, h⟩
      · rcases ite_out h with ⟨h9, h⟩ | ⟨h9, h⟩
        · obtain ⟨x10, h11, h⟩ := bind_out h
          obtain ⟨x12, h13, h⟩ := bind_out h
          injection h with h; subst h; exact runFn_sound mixedOrders Try.func22 rfl (keep := some [2]) (π := [.dec false, .dec false, .callv (.tup [.v (.int .u64 r4.1), .v (.bool r4.2)]), .callv (.tup [.v (.int .u64 r6.1), .v (.bool r6.2)]), .obj [] (.arr 5 (List.replicate (Int.toNat (wr_i64 ((a1.length : Int) - 14))) (0 : Int)) (Int.toNat (wr_i64 ((a1.length : Int) - 14))) false), .obj [] (.arr 5 (List.take 0 (List.replicate (Int.toNat (wr_i64 ((a1.length : Int) - 14))) (0 : Int)) ++ (List.take (min (List.length (List.drop (Int.toNat 14) (List.take (Int.toNat ((List.length a1) : Int)) a1))) ((List.length (List.replicate (Int.toNat (wr_i64 ((a1.length : Int) - 14))) (0 : Int))) - 0)) (List.drop (Int.toNat 14) (List.take (Int.toNat ((List.length a1) : Int)) a1)) ++ List.drop (0 + (min (List.length (List.drop (Int.toNat 14) (List.take (Int.toNat ((List.length a1) : Int)) a1))) ((List.length (List.replicate (Int.toNat (wr_i64 ((a1.length : Int) - 14))) (0 : Int))) - 0))) (List.replicate (Int.toNat (wr_i64 ((a1.length : Int) - 14))) (0 : Int)))) (Int.toNat (wr_i64 ((a1.length : Int) - 14))) false), .row (c5 x10), .row (c5 x12)]) (hrun := by kernel_rfl) (hps := pc (h2) <| pc (h3) <| pc (k_mac_Take h5) <| pc (k_mac_Take h7) <| pc (mk_ob 5 (0 : Int) h8) <| pc ((rfl : ((Int.toNat (wr_i64 ((a1.length : Int) - 14))) : Nat) = (Int.toNat (wr_i64 ((a1.length : Int) - 14))))) <| pc (sl_ob h9) <| pc (cp_ob (e := 5) (n := (Int.toNat (wr_i64 ((a1.length : Int) - 14)))) (l := List.replicate (Int.toNat (wr_i64 ((a1.length : Int) - 14))) (0 : Int)) (l2 := List.drop (Int.toNat 14) (List.take (Int.toNat ((List.length a1) : Int)) a1)) (a := 0) (b := (List.length (List.replicate (Int.toNat (wr_i64 ((a1.length : Int) - 14))) (0 : Int))))) <| pc (ob5 h11) <| pc ((show (0 : Int) ≤ 8 from by decide)) <| pc (ob5 h13) <| pn)
        · cases h
      · cases h

theorem k_vxlan_reader_fail_own {a1 : Int} {a2 : Int} {a3 : Int} {a4 : Int} {a5 : Int} {a6 : Int} {a7 : List Int} {a8 : Int} {a9 : Int} {a10 : Bool} {a11 : Int} {r : (Int)} (h : vxlan_reader_fail_own a1 a2 a3 a4 a5 a6 a7 a8 a9 a10 a11 = some r) :
    CallsOK Try.prog UU 116 [.op 0 1 0 0, .v (.bool a10), .v (.int .i64 a11)] [.box 114 [.v (.int .i64 a1), .v (.int .i64 a2), .v (.int .i64 a3), .v (.int .i64 a4), .v (.int .u32 a5), .v (.int .u32 a6), .os 1 (List.length a7), .v (.int .i64 a8), .v (.int .i64 a9)] false, .arr 5 a7 (List.length a7) false] ((fun r => match r with | v14 => .tup []) r) ((fun r => match r with | v14 => [.box 114 [.v (.int .i64 a1), .v (.int .i64 a2), .v (.int .i64 a3), .v (.int .i64 a4), .v (.int .u32 a5), .v (.int .u32 a6), .os 1 (List.length a7), .v (.int .i64 a8), .v (.int .i64 v14)] false, .arr 5 a7 (List.length a7) false]) r) := by
  unfold vxlan_reader_fail_own at h
  rcases ite_out h with ⟨h12, h⟩ | ⟨h12, h⟩
  · rcases ite_out h with ⟨h13, h⟩ | ⟨h13, h⟩
    · injection h with h; subst h; exact runFn_sound mixedOrders Try.func116 rfl (keep := some [0, 1]) (π := [.dec true, .dec true]) (hrun := by kernel_rfl) (hps := pc (h12) <| pc (h13) <| pn)
    · injection h with h; subst h; exact runFn_sound mixedOrders Try.func116 rfl (keep := some [0, 1]) (π := [.dec true, .dec false]) (hrun := by kernel_rfl) (hps := pc (h12) <| pc (h13) <| pn)
  · injection h with h; subst h; exact runFn_sound mixedOrders Try.func116 rfl (keep := some [0, 1]) (π := [.dec false]) (hrun := by kernel_rfl) (hps := pc (h12) <| pn)

theorem k_ipv4_pair {a1 : List Int} {a2 : Int} {r : Int} (h : ipv4_pair a1 a2 = some r) :
    CallsOK Try.prog UU 70 [.sl 5 a1, .v (.int .i64 a2)] [] (.v (.int .i64 r)) [] := by
  unfold ipv4_pair at h
  obtain ⟨x3, h4, h⟩ := bind_out h
  obtain ⟨x5, h6, h⟩ := bind_out h
  injection h with h; subst h; exact runFn_sound mixedOrders Try.func70 rfl (keep := none) (π := [.row (c5 x3), .row (c5 x5)]) (hrun := by kernel_rfl) (hps := pc (ob5 h4) <| pc ((show (0 : Int) ≤ 8 from by decide)) <| pc (ob5 h6) <| pn)

theorem k_sum_down_1_own {a1 : Int} {r : (Unit)} (h : sum_down_1_own a1 = some r) :
    CallsOK Try.prog UU 166 [.op 0 1 0 0] [.box 3 [.v (.int .i64 a1)] false] ((fun r => match r with | _ => .tup []) r) ((fun r => match r with | _ => [.box 3 [.v (.int .i64 (wr_i64 ((Int.fdiv a1 (2 ^ 16)) + (bits_and .i64 a1 65535))))] false]) r) := by
  unfold sum_down_1_own at h
  injection h with h; subst h; exact runFn_sound mixedOrders Try.func166 rfl (keep := some [0]) (π := []) (hrun := by kernel_rfl) (hps := pc ((show (0 : Int) ≤ 16 from by decide)) <| pn)

theorem k_sum_down_L1 : LoopOK Try.prog UU 0 10 (subC (codeOf Try.f161) [1, 1, 0, 0, 0]) (ρ := Int) (sum_down_L1)
    (fun v2 : Int => ([(1, .op 0 1 0 0), (2, .z), (3, .fn (.func 166) [] [.op 0 1 0 0])] : Fr DD)) (fun v2 : Int => ([.box 3 [.v (.int .i64 v2)] false] : Heap DD)) (fun r => match r with | v8 => .exit 0) (fun r => match r with | v8 => [(1, .op 0 1 0 0), (2, .z)]) (fun r => match r with | v8 => [.box 3 [.v (.int .i64 v8)] false]) := by
  refine loop_sound3 (fun s q h => ?_) (fun r => ?_)
  · replace h : sum_down_L1 s = some q := h; revert h; revert s; intro v2 h
    unfold sum_down_L1 at h
    rcases ite_out h with ⟨h3, h⟩ | ⟨h3, h⟩
    · obtain ⟨r4, h5, h⟩ := bind_out h
      injection h with h; subst h; exact runLp_sound mixedOrders (live := [1, 2, 3]) (ids := [0]) (π := [.dec true, .callm [0] (.tup []) [.box 3 [.v (.int .i64 (wr_i64 ((Int.fdiv v2 (2 ^ 16)) + (bits_and .i64 v2 65535))))] false]]) (hx := by kernel_rfl) (hps := pc (h3) <| pc (k_sum_down_1_own h5) <| pn)
    · injection h with h; subst h; exact runLp_sound mixedOrders (live := [1, 2]) (ids := [0]) (π := [.dec false]) (hx := by kernel_rfl) (hps := pc (h3) <| pn)
  · exact Ex.noConfusion

theorem k_sum_down {a1 : Int} {r : Int} (h : sum_down a1 = some r) :
    CallsOK Try.prog UU 161 [.v (.int .i64 a1)] [] (.v (.int .i64 r)) [] := by
  unfold sum_down at h
  obtain ⟨v8, h9, h⟩ := bind_out h
  injection h with h; subst h; exact runFn_sound mixedOrders Try.func161 rfl (keep := none) (π := [.sum [1, 2, 3] [0] (.exit 0) [(1, .op 0 1 0 0), (2, .z)] [.box 3 [.v (.int .i64 v8)] false]]) (hrun := by kernel_rfl) (hps := pc (k_sum_down_L1 _ _ h9) <| pn)

theorem k_sum_add_L1 {a1 : List Int} : LoopOK Try.prog UU 0 43 (subC (codeOf Try.f128) [1, 1, 0, 1, 0, 0]) (fun s : Int × Int => match s with | (v2, v3) => sum_add_L1 a1 v2 v3)
    (fun s : Int × Int => (match s with | (v2, v3) => [(0, .sl 5 a1), (2, .z), (3, .v (.int .i64 v2)), (4, .v (.int .i64 v3))] : Fr DD)) (fun s : Int × Int => (match s with | (v2, v3) => [] : Heap DD)) (fun r => match r with | v10 => .exit 0) (fun r => match r with | v10 => [(0, .sl 5 a1), (2, .z), (3, .v (.int .i64 v10))]) (fun r => match r with | v10 => []) := by
  refine loop_sound3 (fun s q h => ?_) (fun r => ?_)
  · obtain ⟨v2, v3⟩ := s; replace h : sum_add_L1 a1 v2 v3 = some q := h
    unfold sum_add_L1 at h
    rcases ite_out h with ⟨h4, h⟩ | ⟨h4, h⟩
    · obtain ⟨x5, h6, h⟩ := bind_out h
      obtain ⟨x7, h8, h⟩ := bind_out h
      injection h with h; subst h; exact runLp_sound mixedOrders (live := [0, 2, 3, 4]) (ids := []) (π := [.dec true, .row (c5 x5), .row (c5 x7)]) (hx := by kernel_rfl) (hps := pc (h4) <| pc (ob5 h6) <| pc ((show (0 : Int) ≤ 8 from by decide)) <| pc (ob5 h8) <| pn)
    · injection h with h; subst h; exact runLp_sound mixedOrders (live := [0, 2, 3]) (ids := []) (π := [.dec false]) (hx := by kernel_rfl) (hps := pc (h4) <| pn)
  · exact Ex.noConfusion

theorem k_sum_add {a1 : List Int} {r : Int} (h : sum_add a1 = some r) :
    CallsOK Try.prog UU 128 [.sl 5 a1] [] (.v (.int .i64 r)) [] := by
  unfold sum_add at h
  obtain ⟨v10, h11, h⟩ := bind_out h
  rcases ite_out h with ⟨h13, h⟩ | ⟨h13, h⟩
  · obtain ⟨x14, h15, h⟩ := bind_out h
    obtain ⟨r16, h17, h⟩ := bind_out h
    injection h with h; subst h; exact runFn_sound mixedOrders Try.func128 rfl (keep := none) (π := [.sum [0, 2, 3, 4] [] (.exit 0) [(0, .sl 5 a1), (2, .z), (3, .v (.int .i64 v10))] [], .dec true, .row (c5 x14), .callv (.v (.int .i64 r16))]) (hrun := by kernel_rfl) (hps := pc (k_sum_add_L1 _ _ h11) <| pc (h13) <| pc (ob5 h15) <| pc ((show (0 : Int) ≤ 8 from by decide)) <| pc (k_sum_down h17) <| pn)
  · obtain ⟨r18, h19, h⟩ := bind_out h
    injection h with h; subst h; exact runFn_sound mixedOrders Try.func128 rfl (keep := none) (π := [.sum [0, 2, 3, 4] [] (.exit 0) [(0, .sl 5 a1), (2, .z), (3, .v (.int .i64 v10))] [], .dec false, .callv (.v (.int .i64 r18))]) (hrun := by kernel_rfl) (hps := pc (k_sum_add_L1 _ _ h11) <| pc (h13) <| pc (k_sum_down h19) <| pn)

theorem k_sum_Right {a1 : List Int} {r : Bool} (h : sum_Right a1 = some r) :
    CallsOK Try.prog UU 71 [.sl 5 a1] [] (.v (.bool r)) [] := by
  unfold sum_Right at h
  obtain ⟨r2, h3, h⟩ := bind_out h
  injection h with h; subst h; exact runFn_sound mixedOrders Try.func71 rfl (keep := none) (π := [.callv (.v (.int .i64 r2))]) (hrun := by kernel_rfl) (hps := pc (k_sum_add h3) <| pn)

theorem k_ipv4_four {a1 : List Int} {a2 : Int} {r : Int} (h : ipv4_four a1 a2 = some r) :
    CallsOK Try.prog UU 72 [.sl 5 a1, .v (.int .i64 a2)] [] (.v (.int .u32 r)) [] := by
  unfold ipv4_four at h
  obtain ⟨r3, h4, h⟩ := bind_out h
  obtain ⟨r5, h6, h⟩ := bind_out h
  injection h with h; subst h; exact runFn_sound mixedOrders Try.func72 rfl (keep := none) (π := [.callv (.v (.int .i64 r3)), .callv (.v (.int .i64 r5))]) (hrun := by kernel_rfl) (hps := pc (k_ipv4_pair h4) <| pc ((show (0 : Int) ≤ 16 from by decide)) <| pc (k_ipv4_pair h6) <| pn)

theorem k_slices_Clone_byte {a1 : List Int} {r : List Int} (h : slices_Clone_byte a1 = some r) :
    CallsOK Try.prog UU 73 [.sl 5 a1] [] (.os 0 (List.length r)) [.arr 5 r (List.length r) false] := by
  unfold slices_Clone_byte at h
  rcases ite_out h with ⟨h1, h⟩ | ⟨h1, h⟩
  · injection h with h; subst h
    refine sn_split ?_ (fun e => ?_)
    · exact runFn_sound mixedOrders Try.func73 rfl (keep := some [1]) (π := [.obj [] (.n 5), .obj [] (.arr 5 a1 (List.length a1) false)]) (hrun := by kernel_rfl) (hps := pc (bs_ob 5 []) <| pc (app_ob 5 (n := 0) (l := []) (xs := a1) h1) <| pn)
    · subst e; exact runFn_sound mixedOrders Try.func73 rfl (keep := some [1]) (π := []) (hrun := by kernel_rfl) (hps := pn)
  · cases h

theorem k_ipv4_Take_J1 {a1 : List Int} {r : Bool} (h : ipv4_Take_J1 a1 = some r) :
    ExecOK Try.prog UU 0 62 (subC (codeOf Try.f31) [1, 0, 0, 1, 1, 0]) [(0, .sl 5 a1), (2, .op 0 1 0 0), (3, .z)] [.box 78 [.z, .z, .z, .z, .v (.int .u32 0), .v (.int .u32 0), .os 1 0] false, .n 5] ((fun r => match r with | v9 => .nor) r) ((fun r => match r with | v9 => [(0, .sl 5 a1), (2, .op 0 1 0 0), (3, .z), (9, .v (.bool v9))]) r) ((fun r => match r with | v9 => [.box 78 [.z, .z, .z, .z, .v (.int .u32 0), .v (.int .u32 0), .os 1 0] false, .n 5]) r) := by
  unfold ipv4_Take_J1 at h
  obtain ⟨x3, h4, h⟩ := bind_out h
  rcases ite_out h with ⟨h5, h⟩ | ⟨h5, h⟩
  · injection h with h; subst h; exact runLp_sound mixedOrders (live := [0, 2, 3, 9]) (ids := [0, 1]) (π := [.row (c5 x3), .dec true]) (hx := by kernel_rfl) (hps := pc (ob5 h4) <| pc (h5) <| pn)
  · obtain ⟨r6, h7, h⟩ := bind_out h
    injection h with h; subst h; exact runLp_sound mixedOrders (live := [0, 2, 3, 9]) (ids := [0, 1]) (π := [.row (c5 x3), .dec false, .callv (.v (.int .i64 r6))]) (hx := by kernel_rfl) (hps := pc (ob5 h4) <| pc (h5) <| pc (k_ipv4_pair h7) <| pn)

theorem k_ipv4_Take {a1 : List Int} {r : ((List Int) × Int × Int × Int × Int × Int × Int × Int)} (h : ipv4_Take a1 = some r) :
    CallsOK Try.prog UU 31 [.sl 5 a1] [] ((fun r => match r with | (l41, v42, v43, v44, v45, v46, v47, v48) => .tup [.agg [.v (.int .i64 v42), .v (.int .i64 v43), .v (.int .i64 v44), .v (.int .i64 v45), .v (.int .u32 v46), .v (.int .u32 v47), .os 0 (List.length l41)], .v (.int .i64 v48)]) r) ((fun r => match r with | (l41, v42, v43, v44, v45, v46, v47, v48) => [.arr 5 l41 (List.length l41) false]) r) := by
  unfold ipv4_Take at h
  rcases ite_out h with ⟨h2, h⟩ | ⟨h2, h⟩
  · injection h with h; subst h; exact runFn_sound mixedOrders Try.func31 rfl (keep := some [2]) (π := [.dec true]) (hrun := by kernel_rfl) (hps := pc (h2) <| pn)
  · obtain ⟨v9, h10, h⟩ := bind_out h
    rcases ite_out h with ⟨h12, h⟩ | ⟨h12, h⟩
    · injection h with h; subst h; exact runFn_sound mixedOrders Try.func31 rfl (keep := some [2]) (π := [.dec false, .cut [0, 2, 3] [1, 0] .nor [(0, .sl 5 a1), (2, .op 0 1 0 0), (3, .z), (9, .v (.bool v9))] [.box 78 [.z, .z, .z, .z, .v (.int .u32 0), .v (.int .u32 0), .os 1 0] false, .n 5], .dec true]) (hrun := by kernel_rfl) (hps := pc (h2) <| pc (k_ipv4_Take_J1 h10) <| pc (h12) <| pn)
    · obtain ⟨r13, h14, h⟩ := bind_out h
      rcases ite_out h with ⟨h15, h⟩ | ⟨h15, h⟩
      · injection h with h; subst h; exact runFn_sound mixedOrders Try.func31 rfl (keep := some [2]) (π := [.dec false, .cut [0, 2, 3] [1, 0] .nor [(0, .sl 5 a1), (2, .op 0 1 0 0), (3, .z), (9, .v (.bool v9))] [.box 78 [.z, .z, .z, .z, .v (.int .u32 0), .v (.int .u32 0), .os 1 0] false, .n 5], .dec false, .callv (.v (.int .i64 r13)), .dec true]) (hrun := by kernel_rfl) (hps := pc (h2) <| pc (k_ipv4_Take_J1 h10) <| pc (h12) <| pc (k_ipv4_pair h14) <| pc (h15) <| pn)
      · obtain ⟨r16, h17, h⟩ := bind_out h
        rcases ite_out h with ⟨h18, h⟩ | ⟨h18, h⟩
        · injection h with h; subst h; exact runFn_sound mixedOrders Try.func31 rfl (keep := some [2]) (π := [.dec false, .cut [0, 2, 3] [1, 0] .nor [(0, .sl 5 a1), (2, .op 0 1 0 0), (3, .z), (9, .v (.bool v9))] [.box 78 [.z, .z, .z, .z, .v (.int .u32 0), .v (.int .u32 0), .os 1 0] false, .n 5], .dec false, .callv (.v (.int .i64 r13)), .dec false, .callv (.v (.int .i64 r16)), .dec true]) (hrun := by kernel_rfl) (hps := pc (h2) <| pc (k_ipv4_Take_J1 h10) <| pc (h12) <| pc (k_ipv4_pair h14) <| pc (h15) <| pc (k_ipv4_pair h17) <| pc (h18) <| pn)
        · rcases ite_out h with ⟨h19, h⟩ | ⟨h19, h⟩
          · obtain ⟨r20, h21, h⟩ := bind_out h
            rcases ite_out h with ⟨h22, h⟩ | ⟨h22, h⟩
            · injection h with h; subst h; exact runFn_sound mixedOrders Try.func31 rfl (keep := some [2]) (π := [.dec false, .cut [0, 2, 3] [1, 0] .nor [(0, .sl 5 a1), (2, .op 0 1 0 0), (3, .z), (9, .v (.bool v9))] [.box 78 [.z, .z, .z, .z, .v (.int .u32 0), .v (.int .u32 0), .os 1 0] false, .n 5], .dec false, .callv (.v (.int .i64 r13)), .dec false, .callv (.v (.int .i64 r16)), .dec false, .callv (.v (.bool r20)), .dec true]) (hrun := by kernel_rfl) (hps := pc (h2) <| pc (k_ipv4_Take_J1 h10) <| pc (h12) <| pc (k_ipv4_pair h14) <| pc (h15) <| pc (k_ipv4_pair h17) <| pc (h18) <| pc (sl_ob h19) <| pc (k_sum_Right h21) <| pc (h22) <| pn)
            · obtain ⟨x23, h24, h⟩ := bind_out h
              obtain ⟨r25, h26, h⟩ := bind_out h
              obtain ⟨x27, h28, h⟩ := bind_out h
              obtain ⟨x29, h30, h⟩ := bind_out h
              obtain ⟨r31, h32, h⟩ := bind_out h
              obtain ⟨r33, h34, h⟩ := bind_out h
              obtain ⟨r35, h36, h⟩ := bind_out h
              rcases ite_out h with ⟨h37, h⟩ | ⟨h37, h⟩
              · obtain ⟨l40, h39, h⟩ := bind_out h
                injection h with h; subst h; exact runFn_sound mixedOrders Try.func31 rfl (keep := some [2]) (π := [.dec false, .cut [0, 2, 3] [1, 0] .nor [(0, .sl 5 a1), (2, .op 0 1 0 0), (3, .z), (9, .v (.bool v9))] [.box 78 [.z, .z, .z, .z, .v (.int .u32 0), .v (.int .u32 0), .os 1 0] false, .n 5], .dec false, .callv (.v (.int .i64 r13)), .dec false, .callv (.v (.int .i64 r16)), .dec false, .callv (.v (.bool r20)), .dec false, .sum [22] [] .nor [] [.box 78 [.z, .z, .z, .z, .v (.int .u32 0), .v (.int .u32 0), .os 1 0] false, .n 5, .arr 5 l40 (List.length l40) false], .row (c5 x23), .callv (.v (.int .i64 r25)), .row (c5 x27), .row (c5 x29), .callv (.v (.int .u32 r31)), .callv (.v (.int .u32 r33)), .callv (.v (.int .i64 r35)), .callo (.os 0 (List.length l40)) [.arr 5 l40 (List.length l40) false]]) (hrun := by kernel_rfl) (hps := pc (h2) <| pc (k_ipv4_Take_J1 h10) <| pc (h12) <| pc (k_ipv4_pair h14) <| pc (h15) <| pc (k_ipv4_pair h17) <| pc (h18) <| pc (sl_ob h19) <| pc (k_sum_Right h21) <| pc (h22) <| pc ((rfl : (.sl 5 a1 : AV DD) = .sl 5 a1)) <| pc (ob5 h24) <| pc (ob5 h24) <| pc ((rfl : (.rp (c5 x23) 0 : AV DD) = .rp (c5 x23) 0)) <| pc ((rfl : (.v (.int .u8 x23) : AV DD) = .v (.int .u8 x23))) <| pc ((rfl : (.v (.int .i64 (wr_i64 x23)) : AV DD) = .v (.int .i64 (wr_i64 x23)))) <| pc (k_ipv4_pair h26) <| pc ((rfl : (.sl 5 a1 : AV DD) = .sl 5 a1)) <| pc (ob5 h28) <| pc (ob5 h28) <| pc ((rfl : (.rp (c5 x27) 0 : AV DD) = .rp (c5 x27) 0)) <| pc ((rfl : (.v (.int .u8 x27) : AV DD) = .v (.int .u8 x27))) <| pc ((rfl : (.v (.int .i64 (wr_i64 x27)) : AV DD) = .v (.int .i64 (wr_i64 x27)))) <| pc ((rfl : (.sl 5 a1 : AV DD) = .sl 5 a1)) <| pc (ob5 h30) <| pc (ob5 h30) <| pc ((rfl : (.rp (c5 x29) 0 : AV DD) = .rp (c5 x29) 0)) <| pc ((rfl : (.v (.int .u8 x29) : AV DD) = .v (.int .u8 x29))) <| pc ((rfl : (.v (.int .i64 (wr_i64 x29)) : AV DD) = .v (.int .i64 (wr_i64 x29)))) <| pc (k_ipv4_four h32) <| pc (k_ipv4_four h34) <| pc (k_ipv4_pair h36) <| pc (sl_ob h37) <| pc ((rfl : ([.box 78 [.z, .z, .z, .z, .v (.int .u32 0), .v (.int .u32 0), .os 1 0] false, .n 5, .arr 5 l40 (List.length l40) false] : Heap DD) = [.box 78 [.z, .z, .z, .z, .v (.int .u32 0), .v (.int .u32 0), .os 1 0] false, .n 5, .arr 5 l40 (List.length l40) false])) <| pc (k_slices_Clone_byte h39) <| pc (im5 l40) <| pn)
              · cases h
          · cases h

theorem k_vxlan_reader_packet_own {a1 : Int} {a2 : Int} {a3 : Int} {a4 : Int} {a5 : Int} {a6 : Int} {a7 : List Int} {a8 : Int} {a9 : Int} {a10 : List Int} {r : ((List Int) × Int × Int × Int × Int × Int × Int × Int) ⊕ (Int)} (h : vxlan_reader_packet_own a1 a2 a3 a4 a5 a6 a7 a8 a9 a10 = some r) :
    CallsOK Try.prog UU 57 [.op 0 1 0 0, .sl 5 a10] [.box 114 [.v (.int .i64 a1), .v (.int .i64 a2), .v (.int .i64 a3), .v (.int .i64 a4), .v (.int .u32 a5), .v (.int .u32 a6), .os 1 (List.length a7), .v (.int .i64 a8), .v (.int .i64 a9)] false, .arr 5 a7 (List.length a7) false] ((fun r => match r with | Sum.inl (l42, v43, v44, v45, v46, v47, v48, v49) => .tup [] | Sum.inr v50 => .tup []) r) ((fun r => match r with | Sum.inl (l42, v43, v44, v45, v46, v47, v48, v49) => [.box 114 [.v (.int .i64 v43), .v (.int .i64 v44), .v (.int .i64 v45), .v (.int .i64 v46), .v (.int .u32 v47), .v (.int .u32 v48), .os 2 (List.length l42), .v (.int .i64 a8), .v (.int .i64 v49)] false, .arr 5 a7 (List.length a7) false, .arr 5 l42 (List.length l42) false] | Sum.inr v50 => [.box 114 [.v (.int .i64 a1), .v (.int .i64 a2), .v (.int .i64 a3), .v (.int .i64 a4), .v (.int .u32 a5), .v (.int .u32 a6), .os 1 (List.length a7), .v (.int .i64 a8), .v (.int .i64 v50)] false, .arr 5 a7 (List.length a7) false]) r) := by
  unfold vxlan_reader_packet_own at h
  obtain ⟨r11, h12, h⟩ := bind_out h
  obtain ⟨l13, n14, v15, v16, v17, v18⟩ := r11
  obtain ⟨v21, h20, h⟩ := bind_out h
  obtain ⟨v24, h23, h⟩ := bind_out h
  rcases ite_out h with ⟨h25, h⟩ | ⟨h25, h⟩
  · obtain ⟨r26, h27, h⟩ := bind_out h
    obtain ⟨l28, v29, v30, v31, v32, v33, v34, v35⟩ := r26
    obtain ⟨v38, h37, h⟩ := bind_out h
    obtain ⟨v41, h40, h⟩ := bind_out h
    injection h with h; subst h; exact runFn_sound mixedOrders Try.func57 rfl (keep := some [0, 1, 5]) (π := [.callo (.tup [.agg [.v (.int .u64 v15), .v (.int .u64 v16), .v (.int .i64 v17), .os 0 n14], .v (.int .i64 v18)]) [.arr 5 l13 n14 false], .callm [0, 1] (.tup []) [.box 114 [.v (.int .i64 a1), .v (.int .i64 a2), .v (.int .i64 a3), .v (.int .i64 a4), .v (.int .u32 a5), .v (.int .u32 a6), .os 1 (List.length a7), .v (.int .i64 a8), .v (.int .i64 v21)] false, .arr 5 a7 (List.length a7) false], .callm [0, 1] (.tup []) [.box 114 [.v (.int .i64 a1), .v (.int .i64 a2), .v (.int .i64 a3), .v (.int .i64 a4), .v (.int .u32 a5), .v (.int .u32 a6), .os 1 (List.length a7), .v (.int .i64 a8), .v (.int .i64 v24)] false, .arr 5 a7 (List.length a7) false], .dec true, .callo (.tup [.agg [.v (.int .i64 v29), .v (.int .i64 v30), .v (.int .i64 v31), .v (.int .i64 v32), .v (.int .u32 v33), .v (.int .u32 v34), .os 0 (List.length l28)], .v (.int .i64 v35)]) [.arr 5 l28 (List.length l28) false], .callm [0, 5] (.tup []) [.box 114 [.v (.int .i64 v29), .v (.int .i64 v30), .v (.int .i64 v31), .v (.int .i64 v32), .v (.int .u32 v33), .v (.int .u32 v34), .os 1 (List.length l28), .v (.int .i64 a8), .v (.int .i64 v38)] false, .arr 5 l28 (List.length l28) false], .callm [0, 5] (.tup []) [.box 114 [.v (.int .i64 v29), .v (.int .i64 v30), .v (.int .i64 v31), .v (.int .i64 v32), .v (.int .u32 v33), .v (.int .u32 v34), .os 1 (List.length l28), .v (.int .i64 a8), .v (.int .i64 v41)] false, .arr 5 l28 (List.length l28) false]]) (hrun := by kernel_rfl) (hps := pc (k_ether_Take h12) <| pc (im5 l13) <| pc (k_vxlan_reader_fail_own h20) <| pc (k_vxlan_reader_fail_own h23) <| pc (h25) <| pc (k_ipv4_Take h27) <| pc (im5 l28) <| pc ((rfl : (n14 : Nat) = n14)) <| pc (k_vxlan_reader_fail_own h37) <| pc (k_vxlan_reader_fail_own h40) <| pn)
  · injection h with h; subst h; exact runFn_sound mixedOrders Try.func57 rfl (keep := some [0, 1]) (π := [.callo (.tup [.agg [.v (.int .u64 v15), .v (.int .u64 v16), .v (.int .i64 v17), .os 0 n14], .v (.int .i64 v18)]) [.arr 5 l13 n14 false], .callm [0, 1] (.tup []) [.box 114 [.v (.int .i64 a1), .v (.int .i64 a2), .v (.int .i64 a3), .v (.int .i64 a4), .v (.int .u32 a5), .v (.int .u32 a6), .os 1 (List.length a7), .v (.int .i64 a8), .v (.int .i64 v21)] false, .arr 5 a7 (List.length a7) false], .callm [0, 1] (.tup []) [.box 114 [.v (.int .i64 a1), .v (.int .i64 a2), .v (.int .i64 a3), .v (.int .i64 a4), .v (.int .u32 a5), .v (.int .u32 a6), .os 1 (List.length a7), .v (.int .i64 a8), .v (.int .i64 v24)] false, .arr 5 a7 (List.length a7) false], .dec false]) (hrun := by kernel_rfl) (hps := pc (k_ether_Take h12) <| pc (im5 l13) <| pc (k_vxlan_reader_fail_own h20) <| pc (k_vxlan_reader_fail_own h23) <| pc (h25) <| pn)

theorem k_udp_Take_L1 {a1 : List Int} : LoopOK Try.prog UU 0 55 (subC (codeOf Try.f117) [1, 1, 1, 0, 1, 0, 0]) (fun s : Int × Int × Int × Int × Int => match s with | (v3, v4, v5, v6, v7) => udp_Take_L1 a1 v3 v4 v5 v6 v7)
    (fun s : Int × Int × Int × Int × Int => (match s with | (v3, v4, v5, v6, v7) => [(0, .sl 5 a1), (2, .z), (3, .z), (4, .os 0 0), (5, .z), (6, .op 1 1 0 0), (11, .v (.int .i64 v4))] : Fr DD)) (fun s : Int × Int × Int × Int × Int => (match s with | (v3, v4, v5, v6, v7) => [.n 5, .box 177 [.v (.int .i64 v3), .v (.int .i64 v5), .v (.int .i64 v6), .v (.int .i64 v7)] false] : Heap DD)) (fun r => match r with | (v41, v42, v43, v44) => .exit 0) (fun r => match r with | (v41, v42, v43, v44) => [(0, .sl 5 a1), (2, .z), (3, .z), (4, .os 0 0), (5, .z), (6, .op 1 1 0 0)]) (fun r => match r with | (v41, v42, v43, v44) => [.n 5, .box 177 [.v (.int .i64 v41), .v (.int .i64 v42), .v (.int .i64 v43), .v (.int .i64 v44)] false]) := by
  refine loop_sound3 (fun s q h => ?_) (fun r => ?_)
  · obtain ⟨v3, v4, v5, v6, v7⟩ := s; replace h : udp_Take_L1 a1 v3 v4 v5 v6 v7 = some q := h
    unfold udp_Take_L1 at h
    rcases ite_out h with ⟨h8, h⟩ | ⟨h8, h⟩
    · obtain ⟨x9, h10, h⟩ := bind_out h
      obtain ⟨x11, h12, h⟩ := bind_out h
      rcases ite_out h with ⟨h13, h⟩ | ⟨h13, h⟩
      · injection h with h; subst h; exact runLp_sound mixedOrders (live := [0, 2, 3, 4, 5, 6, 11]) (ids := [0, 1]) (π := [.dec true, .row (c5 x9), .row (c5 x11), .frz [0]]) (hx := by kernel_rfl) (hps := pc (h8) <| pc (ob5 h10) <| pc ((show (0 : Int) ≤ 8 from by decide)) <| pc (ob5 h12) <| pc (eq_of_beq h13) <| pn)
      · rcases ite_out h with ⟨h14, h⟩ | ⟨h14, h⟩
        · injection h with h; subst h; exact runLp_sound mixedOrders (live := [0, 2, 3, 4, 5, 6, 11]) (ids := [0, 1]) (π := [.dec true, .row (c5 x9), .row (c5 x11), .frz [1]]) (hx := by kernel_rfl) (hps := pc (h8) <| pc (ob5 h10) <| pc ((show (0 : Int) ≤ 8 from by decide)) <| pc (ob5 h12) <| pc (eq_of_beq h14) <| pn)
        · rcases ite_out h with ⟨h15, h⟩ | ⟨h15, h⟩
          · injection h with h; subst h; exact runLp_sound mixedOrders (live := [0, 2, 3, 4, 5, 6, 11]) (ids := [0, 1]) (π := [.dec true, .row (c5 x9), .row (c5 x11), .frz [2]]) (hx := by kernel_rfl) (hps := pc (h8) <| pc (ob5 h10) <| pc ((show (0 : Int) ≤ 8 from by decide)) <| pc (ob5 h12) <| pc (eq_of_beq h15) <| pn)
          · rcases ite_out h with ⟨h16, h⟩ | ⟨h16, h⟩
            · injection h with h; subst h; exact runLp_sound mixedOrders (live := [0, 2, 3, 4, 5, 6, 11]) (ids := [0, 1]) (π := [.dec true, .row (c5 x9), .row (c5 x11), .frz [3]]) (hx := by kernel_rfl) (hps := pc (h8) <| pc (ob5 h10) <| pc ((show (0 : Int) ≤ 8 from by decide)) <| pc (ob5 h12) <| pc (eq_of_beq h16) <| pn)
            · cases h
    · injection h with h; subst h; exact runLp_sound mixedOrders (live := [0, 2, 3, 4, 5, 6]) (ids := [0, 1]) (π := [.dec false]) (hx := by kernel_rfl) (hps := pc (h8) <| pn)
  · exact Ex.noConfusion

theorem k_udp_Take {a1 : List Int} {r : ((List Int) × Int × Int × Int)} (h : udp_Take a1 = some r) :
    CallsOK Try.prog UU 117 [.sl 5 a1] [] ((fun r => match r with | (l54, v55, v56, v57) => .tup [.v (.int .i64 v55), .v (.int .i64 v56), .os 0 (List.length l54), .v (.int .i64 v57)]) r) ((fun r => match r with | (l54, v55, v56, v57) => [.arr 5 l54 (List.length l54) false]) r) := by
  unfold udp_Take at h
  rcases ite_out h with ⟨h2, h⟩ | ⟨h2, h⟩
  · injection h with h; subst h; exact runFn_sound mixedOrders Try.func117 rfl (keep := some [1]) (π := [.dec true]) (hrun := by kernel_rfl) (hps := pc (h2) <| pn)
  · obtain ⟨r46, h45, h⟩ := bind_out h
    obtain ⟨v41, v42, v43, v44⟩ := r46
    rcases ite_out h with ⟨h47, h⟩ | ⟨h47, h⟩
    · injection h with h; subst h; exact runFn_sound mixedOrders Try.func117 rfl (keep := some [2]) (π := [.dec false, .sum [0, 2, 3, 4, 5, 6, 11] [0, 1] (.exit 0) [(0, .sl 5 a1), (2, .z), (3, .z), (4, .os 0 0), (5, .z), (6, .op 1 1 0 0)] [.n 5, .box 177 [.v (.int .i64 v41), .v (.int .i64 v42), .v (.int .i64 v43), .v (.int .i64 v44)] false], .frz [2], .dec true]) (hrun := by kernel_rfl) (hps := pc (h2) <| pc (k_udp_Take_L1 _ _ h45) <| pc ((rfl : (2 : Int) = ((2 : Nat) : Int))) <| pc (h47) <| pn)
    · rcases ite_out h with ⟨h48, h⟩ | ⟨h48, h⟩
      · injection h with h; subst h; exact runFn_sound mixedOrders Try.func117 rfl (keep := some [2]) (π := [.dec false, .sum [0, 2, 3, 4, 5, 6, 11] [0, 1] (.exit 0) [(0, .sl 5 a1), (2, .z), (3, .z), (4, .os 0 0), (5, .z), (6, .op 1 1 0 0)] [.n 5, .box 177 [.v (.int .i64 v41), .v (.int .i64 v42), .v (.int .i64 v43), .v (.int .i64 v44)] false], .frz [2], .dec false, .frz [2], .dec true]) (hrun := by kernel_rfl) (hps := pc (h2) <| pc (k_udp_Take_L1 _ _ h45) <| pc ((rfl : (2 : Int) = ((2 : Nat) : Int))) <| pc (h47) <| pc ((rfl : (2 : Int) = ((2 : Nat) : Int))) <| pc (h48) <| pn)
      · rcases ite_out h with ⟨h49, h⟩ | ⟨h49, h⟩
        · injection h with h; subst h; exact runFn_sound mixedOrders Try.func117 rfl (keep := some [2]) (π := [.dec false, .sum [0, 2, 3, 4, 5, 6, 11] [0, 1] (.exit 0) [(0, .sl 5 a1), (2, .z), (3, .z), (4, .os 0 0), (5, .z), (6, .op 1 1 0 0)] [.n 5, .box 177 [.v (.int .i64 v41), .v (.int .i64 v42), .v (.int .i64 v43), .v (.int .i64 v44)] false], .frz [2], .dec false, .frz [2], .dec false, .frz [3], .dec true]) (hrun := by kernel_rfl) (hps := pc (h2) <| pc (k_udp_Take_L1 _ _ h45) <| pc ((rfl : (2 : Int) = ((2 : Nat) : Int))) <| pc (h47) <| pc ((rfl : (2 : Int) = ((2 : Nat) : Int))) <| pc (h48) <| pc ((rfl : (3 : Int) = ((3 : Nat) : Int))) <| pc (h49) <| pn)
        · rcases ite_out h with ⟨h50, h⟩ | ⟨h50, h⟩
          · obtain ⟨l53, h52, h⟩ := bind_out h
            injection h with h; subst h; exact runFn_sound mixedOrders Try.func117 rfl (keep := some [2]) (π := [.dec false, .sum [0, 2, 3, 4, 5, 6, 11] [0, 1] (.exit 0) [(0, .sl 5 a1), (2, .z), (3, .z), (4, .os 0 0), (5, .z), (6, .op 1 1 0 0)] [.n 5, .box 177 [.v (.int .i64 v41), .v (.int .i64 v42), .v (.int .i64 v43), .v (.int .i64 v44)] false], .frz [2], .dec false, .frz [2], .dec false, .frz [3], .dec false, .sum [8] [] .nor [] [.n 5, .box 177 [.v (.int .i64 v41), .v (.int .i64 v42), .v (.int .i64 v43), .v (.int .i64 v44)] false, .arr 5 l53 (List.length l53) false], .frz [0], .frz [1], .frz [2], .callo (.os 0 (List.length l53)) [.arr 5 l53 (List.length l53) false]]) (hrun := by kernel_rfl) (hps := pc (h2) <| pc (k_udp_Take_L1 _ _ h45) <| pc ((rfl : (2 : Int) = ((2 : Nat) : Int))) <| pc (h47) <| pc ((rfl : (2 : Int) = ((2 : Nat) : Int))) <| pc (h48) <| pc ((rfl : (3 : Int) = ((3 : Nat) : Int))) <| pc (h49) <| pc ((rfl : (0 : Int) = ((0 : Nat) : Int))) <| pc ((rfl : (0 : Int) = ((0 : Nat) : Int))) <| pc ((rfl : (.op 1 1 0 0 : AV DD) = .op 1 1 0 0)) <| pc ((rfl : (.v (.int .i64 v41) : AV DD) = .v (.int .i64 v41))) <| pc ((rfl : (1 : Int) = ((1 : Nat) : Int))) <| pc ((rfl : (1 : Int) = ((1 : Nat) : Int))) <| pc ((rfl : (.op 1 1 0 1 : AV DD) = .op 1 1 0 1)) <| pc ((rfl : (.v (.int .i64 v42) : AV DD) = .v (.int .i64 v42))) <| pc ((rfl : (2 : Int) = ((2 : Nat) : Int))) <| pc (sl_ob h50) <| pc ((rfl : ([.n 5, .box 177 [.v (.int .i64 v41), .v (.int .i64 v42), .v (.int .i64 v43), .v (.int .i64 v44)] false, .arr 5 l53 (List.length l53) false] : Heap DD) = [.n 5, .box 177 [.v (.int .i64 v41), .v (.int .i64 v42), .v (.int .i64 v43), .v (.int .i64 v44)] false, .arr 5 l53 (List.length l53) false])) <| pc (k_slices_Clone_byte h52) <| pc (im5 l53) <| pn)
          · cases h

theorem k_vxlan_Head {a1 : Int} {r : ((List Int) × Int)} (h : vxlan_Head a1 = some r) :
    CallsOK Try.prog UU 13 [.v (.int .i64 a1)] [] ((fun r => match r with | (l4, v5) => .tup [.os 0 (List.length l4), .v (.int .i64 v5)]) r) ((fun r => match r with | (l4, v5) => [.arr 5 l4 (List.length l4) false]) r) := by
  unfold vxlan_Head at h
  rcases ite_out h with ⟨h2, h⟩ | ⟨h2, h⟩
  · injection h with h; subst h; exact runFn_sound mixedOrders Try.func13 rfl (keep := some [1]) (π := [.dec true]) (hrun := by kernel_rfl) (hps := pc (h2) <| pn)
  · rcases ite_out h with ⟨h3, h⟩ | ⟨h3, h⟩
    · injection h with h; subst h; exact runFn_sound mixedOrders Try.func13 rfl (keep := some [1]) (π := [.dec false, .dec true]) (hrun := by kernel_rfl) (hps := pc (h2) <| pc (h3) <| pn)
    · injection h with h; subst h; exact runFn_sound mixedOrders Try.func13 rfl (keep := some [1]) (π := [.dec false, .dec false, .obj [] (.arr 5 [(8 : Int), (0 : Int), (0 : Int), (0 : Int), (wr_u8 (Int.fdiv a1 (2 ^ 16)) : Int), (wr_u8 (Int.fdiv a1 (2 ^ 8)) : Int), (wr_u8 a1 : Int), (0 : Int)] (List.length [(8 : Int), (0 : Int), (0 : Int), (0 : Int), (wr_u8 (Int.fdiv a1 (2 ^ 16)) : Int), (wr_u8 (Int.fdiv a1 (2 ^ 8)) : Int), (wr_u8 a1 : Int), (0 : Int)]) false)]) (hrun := by kernel_rfl) (hps := pc (h2) <| pc (h3) <| pc ((show (0 : Int) ≤ 16 from by decide)) <| pc ((show (0 : Int) ≤ 8 from by decide)) <| pc (bs_ob 5 [(8 : Int), (0 : Int), (0 : Int), (0 : Int), (wr_u8 (Int.fdiv a1 (2 ^ 16)) : Int), (wr_u8 (Int.fdiv a1 (2 ^ 8)) : Int), (wr_u8 a1 : Int), (0 : Int)]) <| pn)

theorem k_vxlan_Vni {a1 : List Int} {r : ((List Int) × Int × Int)} (h : vxlan_Vni a1 = some r) :
    CallsOK Try.prog UU 15 [.sl 5 a1] [] ((fun r => match r with | (l18, v19, v20) => .tup [.v (.int .i64 v19), .os 0 (List.length l18), .v (.int .i64 v20)]) r) ((fun r => match r with | (l18, v19, v20) => [.arr 5 l18 (List.length l18) false]) r) := by
  unfold vxlan_Vni at h
  rcases ite_out h with ⟨h2, h⟩ | ⟨h2, h⟩
  · injection h with h; subst h; exact runFn_sound mixedOrders Try.func15 rfl (keep := some [1]) (π := [.dec true]) (hrun := by kernel_rfl) (hps := pc (h2) <| pn)
  · obtain ⟨x3, h4, h⟩ := bind_out h
    obtain ⟨x5, h6, h⟩ := bind_out h
    obtain ⟨x7, h8, h⟩ := bind_out h
    obtain ⟨r9, h10, h⟩ := bind_out h
    obtain ⟨l11, v12⟩ := r9
    rcases ite_out h with ⟨h13, h⟩ | ⟨h13, h⟩
    · injection h with h; subst h; exact runFn_sound mixedOrders Try.func15 rfl (keep := some [2]) (π := [.dec false, .row (c5 x3), .row (c5 x5), .row (c5 x7), .callo (.tup [.os 0 (List.length l11), .v (.int .i64 v12)]) [.arr 5 l11 (List.length l11) false], .dec true]) (hrun := by kernel_rfl) (hps := pc (h2) <| pc (ob5 h4) <| pc ((show (0 : Int) ≤ 16 from by decide)) <| pc (ob5 h6) <| pc ((show (0 : Int) ≤ 8 from by decide)) <| pc (ob5 h8) <| pc (k_vxlan_Head h10) <| pc (im5 l11) <| pc (h13) <| pn)
    · rcases ite_out h with ⟨h14, h⟩ | ⟨h14, h⟩
      · rcases ite_out h with ⟨h15, h⟩ | ⟨h15, h⟩
        · injection h with h; subst h; exact runFn_sound mixedOrders Try.func15 rfl (keep := some [2]) (π := [.dec false, .row (c5 x3), .row (c5 x5), .row (c5 x7), .callo (.tup [.os 0 (List.length l11), .v (.int .i64 v12)]) [.arr 5 l11 (List.length l11) false], .dec false, .callv (.v (.string (bstr l11))), .callv (.v (.string (bstr (List.drop (Int.toNat 0) (List.take (Int.toNat 8) a1))))), .dec true]) (hrun := by kernel_rfl) (hps := pc (h2) <| pc (ob5 h4) <| pc ((show (0 : Int) ≤ 16 from by decide)) <| pc (ob5 h6) <| pc ((show (0 : Int) ≤ 8 from by decide)) <| pc (ob5 h8) <| pc (k_vxlan_Head h10) <| pc (im5 l11) <| pc (h13) <| pc (cvb5 l11) <| pc ((rfl : ((List.length l11) : Nat) = (List.length l11))) <| pc (sl_ob h14) <| pc (cvb5 (List.drop (Int.toNat 0) (List.take (Int.toNat 8) a1))) <| pc (h15) <| pn)
        · rcases ite_out h with ⟨h16, h⟩ | ⟨h16, h⟩
          · rcases ite_out h with ⟨h17, h⟩ | ⟨h17, h⟩
            · injection h with h; subst h; exact runFn_sound mixedOrders Try.func15 rfl (keep := some [2]) (π := [.dec false, .row (c5 x3), .row (c5 x5), .row (c5 x7), .callo (.tup [.os 0 (List.length l11), .v (.int .i64 v12)]) [.arr 5 l11 (List.length l11) false], .dec false, .callv (.v (.string (bstr l11))), .callv (.v (.string (bstr (List.drop (Int.toNat 0) (List.take (Int.toNat 8) a1))))), .dec false, .obj [] (.arr 5 (List.drop (Int.toNat 8) (List.take (Int.toNat ((List.length a1) : Int)) a1)) (List.length (List.drop (Int.toNat 8) (List.take (Int.toNat ((List.length a1) : Int)) a1))) false)]) (hrun := by kernel_rfl) (hps := pc (h2) <| pc (ob5 h4) <| pc ((show (0 : Int) ≤ 16 from by decide)) <| pc (ob5 h6) <| pc ((show (0 : Int) ≤ 8 from by decide)) <| pc (ob5 h8) <| pc (k_vxlan_Head h10) <| pc (im5 l11) <| pc (h13) <| pc (cvb5 l11) <| pc ((rfl : ((List.length l11) : Nat) = (List.length l11))) <| pc (sl_ob h14) <| pc (cvb5 (List.drop (Int.toNat 0) (List.take (Int.toNat 8) a1))) <| pc (h15) <| pc (sl_ob h16) <| pc (apn_ob 5 h17) <| pn)
            · cases h
          · cases h
      · cases h

theorem k_vxlan_reader_frame_own_J1 {a1 : Int} {a2 : Int} {a3 : Int} {a4 : Int} {a5 : Int} {a6 : Int} {a7 : List Int} {a8 : Int} {l13 : List Int} {v16 : Int} {v22 : Int} {r : ((List Int) × Int × Int × Int)} (h : vxlan_reader_frame_own_J1 a1 a2 a3 a4 a5 a6 a7 a8 l13 v16 v22 = some r) :
    ExecOK Try.prog UU 2 70 (subC (codeOf Try.f58) [1, 1, 1, 1, 1, 0]) [(0, .op 0 1 0 0), (2, .op 2 1 0 0), (5, .os 4 (List.length l13)), (6, .v (.int .i64 v16))] [.box 114 [.v (.int .i64 a1), .v (.int .i64 a2), .v (.int .i64 a3), .v (.int .i64 a4), .v (.int .u32 a5), .v (.int .u32 a6), .os 1 (List.length a7), .v (.int .i64 a8), .v (.int .i64 v22)] false, .arr 5 a7 (List.length a7) false, .box 37 [.v (.int .u64 0), .v (.int .u64 0), .z, .os 3 0] false, .n 5, .arr 5 l13 (List.length l13) false] ((fun r => match r with | (l45, v46, v47, v48) => .nor) r) ((fun r => match r with | (l45, v46, v47, v48) => [(0, .op 0 1 0 0), (2, .op 2 1 0 0), (5, .os 4 (List.length l45)), (6, .v (.int .i64 v48))]) r) ((fun r => match r with | (l45, v46, v47, v48) => [.box 114 [.v (.int .i64 a1), .v (.int .i64 a2), .v (.int .i64 a3), .v (.int .i64 a4), .v (.int .u32 a5), .v (.int .u32 a6), .os 1 (List.length a7), .v (.int .i64 v46), .v (.int .i64 v47)] false, .arr 5 a7 (List.length a7) false, .box 37 [.v (.int .u64 0), .v (.int .u64 0), .z, .os 3 0] false, .n 5, .arr 5 l45 (List.length l45) false]) r) := by
  unfold vxlan_reader_frame_own_J1 at h
  rcases ite_out h with ⟨h23, h⟩ | ⟨h23, h⟩
  · obtain ⟨r24, h25, h⟩ := bind_out h
    obtain ⟨l26, v27, v28⟩ := r24
    obtain ⟨v31, h30, h⟩ := bind_out h
    injection h with h; subst h; exact runLp_sound mixedOrders (live := [0, 2, 5, 6]) (ids := [0, 1, 2, 3, 5]) (π := [.dec true, .callo (.tup [.v (.int .i64 v27), .os 0 (List.length l26), .v (.int .i64 v28)]) [.arr 5 l26 (List.length l26) false], .callm [0, 1] (.tup []) [.box 114 [.v (.int .i64 a1), .v (.int .i64 a2), .v (.int .i64 a3), .v (.int .i64 a4), .v (.int .u32 a5), .v (.int .u32 a6), .os 1 (List.length a7), .v (.int .i64 v27), .v (.int .i64 v31)] false, .arr 5 a7 (List.length a7) false]]) (hx := by kernel_rfl) (hps := pc (h23) <| pc (k_vxlan_Vni h25) <| pc (im5 l26) <| pc ((rfl : ((List.length l13) : Nat) = (List.length l13))) <| pc (k_vxlan_reader_fail_own h30) <| pn)
  · injection h with h; subst h; exact runLp_sound mixedOrders (live := [0, 2, 5, 6]) (ids := [0, 1, 2, 3, 4]) (π := [.dec false]) (hx := by kernel_rfl) (hps := pc (h23) <| pn)

theorem k_vxlan_reader_frame_own {a1 : Int} {a2 : Int} {a3 : Int} {a4 : Int} {a5 : Int} {a6 : Int} {a7 : List Int} {a8 : Int} {a9 : Int} {r : ((List Int) × Int × Int × Nat × Int × Int × Int)} (h : vxlan_reader_frame_own a1 a2 a3 a4 a5 a6 a7 a8 a9 = some r) :
    CallsOK Try.prog UU 58 [.op 0 1 0 0] [.box 114 [.v (.int .i64 a1), .v (.int .i64 a2), .v (.int .i64 a3), .v (.int .i64 a4), .v (.int .u32 a5), .v (.int .u32 a6), .os 1 (List.length a7), .v (.int .i64 a8), .v (.int .i64 a9)] false, .arr 5 a7 (List.length a7) false] ((fun r => match r with | (l68, v69, v70, n71, v72, v73, v74) => .agg [.v (.int .u64 v72), .v (.int .u64 v73), .v (.int .i64 v74), .os 2 n71]) r) ((fun r => match r with | (l68, v69, v70, n71, v72, v73, v74) => [.box 114 [.v (.int .i64 a1), .v (.int .i64 a2), .v (.int .i64 a3), .v (.int .i64 a4), .v (.int .u32 a5), .v (.int .u32 a6), .os 1 (List.length a7), .v (.int .i64 v69), .v (.int .i64 v70)] false, .arr 5 a7 (List.length a7) false, .arr 5 l68 n71 false]) r) := by
  unfold vxlan_reader_frame_own at h
  rcases ite_out h with ⟨h10, h⟩ | ⟨h10, h⟩
  · injection h with h; subst h; exact runFn_sound mixedOrders Try.func58 rfl (keep := some [0, 1, 4]) (π := [.dec true]) (hrun := by kernel_rfl) (hps := pc (h10) <| pn)
  · obtain ⟨r11, h12, h⟩ := bind_out h
    obtain ⟨l13, v14, v15, v16⟩ := r11
    obtain ⟨v19, h18, h⟩ := bind_out h
    obtain ⟨v22, h21, h⟩ := bind_out h
    obtain ⟨r50, h49, h⟩ := bind_out h
    obtain ⟨l45, v46, v47, v48⟩ := r50
    rcases ite_out h with ⟨h51, h⟩ | ⟨h51, h⟩
    · injection h with h; subst h; exact runFn_sound mixedOrders Try.func58 rfl (keep := some [0, 1, 5]) (π := [.dec false, .callo (.tup [.v (.int .i64 v14), .v (.int .i64 v15), .os 0 (List.length l13), .v (.int .i64 v16)]) [.arr 5 l13 (List.length l13) false], .callm [0, 1] (.tup []) [.box 114 [.v (.int .i64 a1), .v (.int .i64 a2), .v (.int .i64 a3), .v (.int .i64 a4), .v (.int .u32 a5), .v (.int .u32 a6), .os 1 (List.length a7), .v (.int .i64 a8), .v (.int .i64 v19)] false, .arr 5 a7 (List.length a7) false], .callm [0, 1] (.tup []) [.box 114 [.v (.int .i64 a1), .v (.int .i64 a2), .v (.int .i64 a3), .v (.int .i64 a4), .v (.int .u32 a5), .v (.int .u32 a6), .os 1 (List.length a7), .v (.int .i64 a8), .v (.int .i64 v22)] false, .arr 5 a7 (List.length a7) false], .cut [0, 2, 5, 6] [0, 1, 3, 2, 4] .nor [(0, .op 0 1 0 0), (2, .op 2 1 0 0), (5, .os 4 (List.length l45)), (6, .v (.int .i64 v48))] [.box 114 [.v (.int .i64 a1), .v (.int .i64 a2), .v (.int .i64 a3), .v (.int .i64 a4), .v (.int .u32 a5), .v (.int .u32 a6), .os 1 (List.length a7), .v (.int .i64 v46), .v (.int .i64 v47)] false, .arr 5 a7 (List.length a7) false, .box 37 [.v (.int .u64 0), .v (.int .u64 0), .z, .os 3 0] false, .n 5, .arr 5 l45 (List.length l45) false], .dec true]) (hrun := by kernel_rfl) (hps := pc (h10) <| pc (k_udp_Take h12) <| pc (im5 l13) <| pc ((rfl : ((List.length a7) : Nat) = (List.length a7))) <| pc (k_vxlan_reader_fail_own h18) <| pc (k_vxlan_reader_fail_own h21) <| pc (k_vxlan_reader_frame_own_J1 h49) <| pc (h51) <| pn)
    · obtain ⟨r52, h53, h⟩ := bind_out h
      obtain ⟨l54, n55, v56, v57, v58, v59⟩ := r52
      obtain ⟨v62, h61, h⟩ := bind_out h
      obtain ⟨r63, h64, h⟩ := bind_out h
      obtain ⟨v67, h66, h⟩ := bind_out h
      injection h with h; subst h; exact runFn_sound mixedOrders Try.func58 rfl (keep := some [0, 1, 5]) (π := [.dec false, .callo (.tup [.v (.int .i64 v14), .v (.int .i64 v15), .os 0 (List.length l13), .v (.int .i64 v16)]) [.arr 5 l13 (List.length l13) false], .callm [0, 1] (.tup []) [.box 114 [.v (.int .i64 a1), .v (.int .i64 a2), .v (.int .i64 a3), .v (.int .i64 a4), .v (.int .u32 a5), .v (.int .u32 a6), .os 1 (List.length a7), .v (.int .i64 a8), .v (.int .i64 v19)] false, .arr 5 a7 (List.length a7) false], .callm [0, 1] (.tup []) [.box 114 [.v (.int .i64 a1), .v (.int .i64 a2), .v (.int .i64 a3), .v (.int .i64 a4), .v (.int .u32 a5), .v (.int .u32 a6), .os 1 (List.length a7), .v (.int .i64 a8), .v (.int .i64 v22)] false, .arr 5 a7 (List.length a7) false], .cut [0, 2, 5, 6] [0, 1, 3, 2, 4] .nor [(0, .op 0 1 0 0), (2, .op 2 1 0 0), (5, .os 4 (List.length l45)), (6, .v (.int .i64 v48))] [.box 114 [.v (.int .i64 a1), .v (.int .i64 a2), .v (.int .i64 a3), .v (.int .i64 a4), .v (.int .u32 a5), .v (.int .u32 a6), .os 1 (List.length a7), .v (.int .i64 v46), .v (.int .i64 v47)] false, .arr 5 a7 (List.length a7) false, .box 37 [.v (.int .u64 0), .v (.int .u64 0), .z, .os 3 0] false, .n 5, .arr 5 l45 (List.length l45) false], .dec false, .callo (.tup [.agg [.v (.int .u64 v56), .v (.int .u64 v57), .v (.int .i64 v58), .os 0 n55], .v (.int .i64 v59)]) [.arr 5 l54 n55 false], .callm [0, 1] (.tup []) [.box 114 [.v (.int .i64 a1), .v (.int .i64 a2), .v (.int .i64 a3), .v (.int .i64 a4), .v (.int .u32 a5), .v (.int .u32 a6), .os 1 (List.length a7), .v (.int .i64 v46), .v (.int .i64 v62)] false, .arr 5 a7 (List.length a7) false], .callv (.v (.bool r63)), .callm [0, 1] (.tup []) [.box 114 [.v (.int .i64 a1), .v (.int .i64 a2), .v (.int .i64 a3), .v (.int .i64 a4), .v (.int .u32 a5), .v (.int .u32 a6), .os 1 (List.length a7), .v (.int .i64 v46), .v (.int .i64 v67)] false, .arr 5 a7 (List.length a7) false]]) (hrun := by kernel_rfl) (hps := pc (h10) <| pc (k_udp_Take h12) <| pc (im5 l13) <| pc ((rfl : ((List.length a7) : Nat) = (List.length a7))) <| pc (k_vxlan_reader_fail_own h18) <| pc (k_vxlan_reader_fail_own h21) <| pc (k_vxlan_reader_frame_own_J1 h49) <| pc (h51) <| pc (k_ether_Take h53) <| pc (im5 l54) <| pc ((rfl : ((List.length l45) : Nat) = (List.length l45))) <| pc (k_vxlan_reader_fail_own h61) <| pc (k_tag_Is h64) <| pc ((rfl : (n55 : Nat) = n55)) <| pc (k_vxlan_reader_fail_own h66) <| pn)

theorem k_vxlan_Unwrap_J1 {a1 : List Int} {r : ((List Int) × Int × Int × Int × Int × Int × Int × Int)} (h : vxlan_Unwrap_J1 a1 = some r) :
    ExecOK Try.prog UU 0 43 (subC (codeOf Try.f19) [1, 1, 0]) [(0, .sl 5 a1), (2, .v (.int .u32 0)), (3, .v (.int .u32 0)), (4, .z), (5, .op 0 1 0 0), (6, .z), (7, .op 2 1 0 0)] [.box 37 [.v (.int .u64 0), .v (.int .u64 0), .z, .os 1 0] false, .n 5, .box 114 [.z, .z, .z, .z, .v (.int .u32 0), .v (.int .u32 0), .os 3 0, .z, .z] false, .n 5] ((fun r => match r with | (l61, v62, v63, v64, v65, v66, v67, v68) => .nor) r) ((fun r => match r with | (l61, v62, v63, v64, v65, v66, v67, v68) => [(2, .v (.int .u32 0)), (3, .v (.int .u32 0)), (4, .z), (5, .op 0 1 0 0), (6, .z), (7, .op 2 1 0 0)]) r) ((fun r => match r with | (l61, v62, v63, v64, v65, v66, v67, v68) => [.box 37 [.v (.int .u64 0), .v (.int .u64 0), .z, .os 1 0] false, .n 5, .box 114 [.v (.int .i64 v62), .v (.int .i64 v63), .v (.int .i64 v64), .v (.int .i64 v65), .v (.int .u32 v66), .v (.int .u32 v67), .os 3 (List.length l61), .z, .v (.int .i64 v68)] false, .arr 5 l61 (List.length l61) false]) r) := by
  unfold vxlan_Unwrap_J1 at h
  obtain ⟨r2, h3, h⟩ := bind_out h
  rcases r2 with ⟨l4, v5, v6, v7, v8, v9, v10, v11⟩ | v12
  · injection h with h; subst h; exact runLp_sound mixedOrders (live := [2, 3, 4, 5, 6, 7]) (ids := [0, 1, 2, 4]) (π := [.callm [2, 3] (.tup []) [.box 114 [.v (.int .i64 v5), .v (.int .i64 v6), .v (.int .i64 v7), .v (.int .i64 v8), .v (.int .u32 v9), .v (.int .u32 v10), .os 2 (List.length l4), .z, .v (.int .i64 v11)] false, .n 5, .arr 5 l4 (List.length l4) false]]) (hx := by kernel_rfl) (hps := pc (k_vxlan_reader_packet_own h3) <| pn)
  · injection h with h; subst h; exact runLp_sound mixedOrders (live := [2, 3, 4, 5, 6, 7]) (ids := [0, 1, 2, 3]) (π := [.callm [2, 3] (.tup []) [.box 114 [.z, .z, .z, .z, .v (.int .u32 0), .v (.int .u32 0), .os 1 0, .z, .v (.int .i64 v12)] false, .n 5]]) (hx := by kernel_rfl) (hps := pc (k_vxlan_reader_packet_own h3) <| pn)

theorem k_vxlan_Unwrap {a1 : List Int} {r : ((List Int) × Nat × Int × Int × Int × Int × Int × Int × Int)} (h : vxlan_Unwrap a1 = some r) :
    CallsOK Try.prog UU 19 [.sl 5 a1] [] ((fun r => match r with | (l81, n82, v83, v84, v85, v86, v87, v88, v89) => .tup [.v (.int .u32 v83), .v (.int .u32 v84), .v (.int .i64 v85), .agg [.v (.int .u64 v86), .v (.int .u64 v87), .v (.int .i64 v88), .os 0 n82], .v (.int .i64 v89)]) r) ((fun r => match r with | (l81, n82, v83, v84, v85, v86, v87, v88, v89) => [.arr 5 l81 n82 false]) r) := by
  unfold vxlan_Unwrap at h
  obtain ⟨r70, h69, h⟩ := bind_out h
  obtain ⟨l61, v62, v63, v64, v65, v66, v67, v68⟩ := r70
  obtain ⟨r71, h72, h⟩ := bind_out h
  obtain ⟨l73, v74, v75, n76, v77, v78, v79⟩ := r71
  rcases ite_out h with ⟨h80, h⟩ | ⟨h80, h⟩
  · injection h with h; subst h; exact runFn_sound mixedOrders Try.func19 rfl (keep := some [5]) (π := [.skp, .skp, .cut [0, 2, 3, 4, 5, 6, 7] [1, 0, 3, 2] .nor [(2, .v (.int .u32 0)), (3, .v (.int .u32 0)), (4, .z), (5, .op 0 1 0 0), (6, .z), (7, .op 2 1 0 0)] [.box 37 [.v (.int .u64 0), .v (.int .u64 0), .z, .os 1 0] false, .n 5, .box 114 [.v (.int .i64 v62), .v (.int .i64 v63), .v (.int .i64 v64), .v (.int .i64 v65), .v (.int .u32 v66), .v (.int .u32 v67), .os 3 (List.length l61), .z, .v (.int .i64 v68)] false, .arr 5 l61 (List.length l61) false], .callm [2, 3] (.agg [.v (.int .u64 v77), .v (.int .u64 v78), .v (.int .i64 v79), .os 2 n76]) [.box 114 [.v (.int .i64 v62), .v (.int .i64 v63), .v (.int .i64 v64), .v (.int .i64 v65), .v (.int .u32 v66), .v (.int .u32 v67), .os 1 (List.length l61), .v (.int .i64 v74), .v (.int .i64 v75)] false, .arr 5 l61 (List.length l61) false, .arr 5 l73 n76 false], .dec true, .sum [8] [] .nor [] [.box 37 [.v (.int .u64 0), .v (.int .u64 0), .z, .os 5 0] false, .n 5, .box 114 [.v (.int .i64 v62), .v (.int .i64 v63), .v (.int .i64 v64), .v (.int .i64 v65), .v (.int .u32 v66), .v (.int .u32 v67), .os 3 (List.length l61), .v (.int .i64 v74), .v (.int .i64 v75)] false, .arr 5 l61 (List.length l61) false, .arr 5 l73 n76 false, .n 5]]) (hrun := by kernel_rfl) (hps := pc (k_vxlan_Unwrap_J1 h69) <| pc (k_vxlan_reader_frame_own h72) <| pc (h80) <| pc ((rfl : (.op 2 1 0 0 : AV DD) = .op 2 1 0 0)) <| pc ((rfl : (.op 2 1 0 0 : AV DD) = .op 2 1 0 0)) <| pc ((rfl : (.op 2 1 0 8 : AV DD) = .op 2 1 0 8)) <| pc ((rfl : (.v (.int .i64 v75) : AV DD) = .v (.int .i64 v75))) <| pc ((rfl : ([.box 37 [.v (.int .u64 0), .v (.int .u64 0), .z, .os 5 0] false, .n 5, .box 114 [.v (.int .i64 v62), .v (.int .i64 v63), .v (.int .i64 v64), .v (.int .i64 v65), .v (.int .u32 v66), .v (.int .u32 v67), .os 3 (List.length l61), .v (.int .i64 v74), .v (.int .i64 v75)] false, .arr 5 l61 (List.length l61) false, .arr 5 l73 n76 false, .n 5] : Heap DD) = [.box 37 [.v (.int .u64 0), .v (.int .u64 0), .z, .os 5 0] false, .n 5, .box 114 [.v (.int .i64 v62), .v (.int .i64 v63), .v (.int .i64 v64), .v (.int .i64 v65), .v (.int .u32 v66), .v (.int .u32 v67), .os 3 (List.length l61), .v (.int .i64 v74), .v (.int .i64 v75)] false, .arr 5 l61 (List.length l61) false, .arr 5 l73 n76 false, .n 5])) <| pn)
  · injection h with h; subst h; exact runFn_sound mixedOrders Try.func19 rfl (keep := some [4]) (π := [.skp, .skp, .cut [0, 2, 3, 4, 5, 6, 7] [1, 0, 3, 2] .nor [(2, .v (.int .u32 0)), (3, .v (.int .u32 0)), (4, .z), (5, .op 0 1 0 0), (6, .z), (7, .op 2 1 0 0)] [.box 37 [.v (.int .u64 0), .v (.int .u64 0), .z, .os 1 0] false, .n 5, .box 114 [.v (.int .i64 v62), .v (.int .i64 v63), .v (.int .i64 v64), .v (.int .i64 v65), .v (.int .u32 v66), .v (.int .u32 v67), .os 3 (List.length l61), .z, .v (.int .i64 v68)] false, .arr 5 l61 (List.length l61) false], .callm [2, 3] (.agg [.v (.int .u64 v77), .v (.int .u64 v78), .v (.int .i64 v79), .os 2 n76]) [.box 114 [.v (.int .i64 v62), .v (.int .i64 v63), .v (.int .i64 v64), .v (.int .i64 v65), .v (.int .u32 v66), .v (.int .u32 v67), .os 1 (List.length l61), .v (.int .i64 v74), .v (.int .i64 v75)] false, .arr 5 l61 (List.length l61) false, .arr 5 l73 n76 false], .dec false]) (hrun := by kernel_rfl) (hps := pc (k_vxlan_Unwrap_J1 h69) <| pc (k_vxlan_reader_frame_own h72) <| pc (h80) <| pn)

theorem k_leave_whole_ends_1 {a1 : Api_Device} {a2 : Int} {r : Bool} (h : leave_whole_ends_1 a1 a2 = some r) :
    CallsOK Try.prog UU 144 [.agg (c138 a1), .rp (c34 a2) 0] [] (.v (.bool r)) [] := by
  unfold leave_whole_ends_1 at h
  injection h with h; subst h; exact runFn_sound mixedOrders Try.func144 rfl (keep := none) (π := []) (hrun := by kernel_rfl) (hps := pn)

theorem k_slices_IndexFunc_Device_whole_ends_1_L1 {a1 : List Api_Device} {a2 : Int} : LoopOK Try.prog UU 0 19 (subC (codeOf Try.f143) [1, 0, 1, 0, 0]) (ρ := Int ⊕ Unit) (slices_IndexFunc_Device_whole_ends_1_L1 a1 a2)
    (fun v3 : Int => ([(0, .sl 138 a1), (1, .fn (.func 144) [] [.rp (c34 a2) 0]), (4, .z), (7, .v (.int .i64 (a1.length : Int))), (8, .v (.int .i64 v3))] : Fr DD)) (fun v3 : Int => ([] : Heap DD)) (fun r => match r with | Sum.inl v11 => .ret | Sum.inr _ => .exit 0) (fun r => match r with | Sum.inl v11 => [(4, .v (.int .i64 v11))] | Sum.inr _ => [(4, .z)]) (fun r => match r with | Sum.inl v11 => [] | Sum.inr _ => []) := by
  refine loop_sound3 (fun s q h => ?_) (fun r => ?_)
  · replace h : slices_IndexFunc_Device_whole_ends_1_L1 a1 a2 s = some q := h; revert h; revert s; intro v3 h
    unfold slices_IndexFunc_Device_whole_ends_1_L1 at h
    rcases ite_out h with ⟨h4, h⟩ | ⟨h4, h⟩
    · obtain ⟨x5, h6, h⟩ := bind_out h
      obtain ⟨r7, h8, h⟩ := bind_out h
      rcases ite_out h with ⟨h9, h⟩ | ⟨h9, h⟩
      · injection h with h; subst h; exact runLp_sound mixedOrders (live := [4]) (ids := []) (π := [.dec true, .row (c138 x5), .callv (.v (.bool r7)), .dec true]) (hx := by kernel_rfl) (hps := pc (h4) <| pc (ob138 h6) <| pc (k_leave_whole_ends_1 h8) <| pc (h9) <| pn)
      · injection h with h; subst h; exact runLp_sound mixedOrders (live := [0, 1, 4, 7, 8]) (ids := []) (π := [.dec true, .row (c138 x5), .callv (.v (.bool r7)), .dec false]) (hx := by kernel_rfl) (hps := pc (h4) <| pc (ob138 h6) <| pc (k_leave_whole_ends_1 h8) <| pc (h9) <| pn)
    · injection h with h; subst h; exact runLp_sound mixedOrders (live := [4]) (ids := []) (π := [.dec false]) (hx := by kernel_rfl) (hps := pc (h4) <| pn)
  · rcases r with _ | _ <;> exact Ex.noConfusion

theorem k_slices_IndexFunc_Device_whole_ends_1 {a1 : List Api_Device} {a2 : Int} {r : Int} (h : slices_IndexFunc_Device_whole_ends_1 a1 a2 = some r) :
    CallsOK Try.prog UU 143 [.sl 138 a1, .fn (.func 144) [] [.rp (c34 a2) 0]] [] (.v (.int .i64 r)) [] := by
  unfold slices_IndexFunc_Device_whole_ends_1 at h
  obtain ⟨r13, h12, h⟩ := bind_out h
  rcases r13 with v11 | _
  · injection h with h; subst h; exact runFn_sound mixedOrders Try.func143 rfl (keep := none) (π := [.sum [0, 1, 4, 7, 8] [] .ret [(4, .v (.int .i64 v11))] []]) (hrun := by kernel_rfl) (hps := pc (k_slices_IndexFunc_Device_whole_ends_1_L1 _ _ h12) <| pn)
  · injection h with h; subst h; exact runFn_sound mixedOrders Try.func143 rfl (keep := none) (π := [.sum [0, 1, 4, 7, 8] [] (.exit 0) [(4, .z)] []]) (hrun := by kernel_rfl) (hps := pc (k_slices_IndexFunc_Device_whole_ends_1_L1 _ _ h12) <| pn)

theorem k_leave_whole_ends_2 {a1 : Api_Domain} {a2 : Int} {a3 : Int} {r : Bool} (h : leave_whole_ends_2 a1 a2 a3 = some r) :
    CallsOK Try.prog UU 146 [.agg (c85 a1), .rp (c3 a2) 0, .rp (c3 a3) 0] [] (.v (.bool r)) [] := by
  unfold leave_whole_ends_2 at h
  rcases ite_out h with ⟨h4, h⟩ | ⟨h4, h⟩
  · injection h with h; subst h; exact runFn_sound mixedOrders Try.func146 rfl (keep := none) (π := [.dec true]) (hrun := by kernel_rfl) (hps := pc (h4) <| pn)
  · injection h with h; subst h; exact runFn_sound mixedOrders Try.func146 rfl (keep := none) (π := [.dec false]) (hrun := by kernel_rfl) (hps := pc (h4) <| pn)

theorem k_slices_IndexFunc_Domain_whole_ends_2_L1 {a1 : List Api_Domain} {a2 : Int} {a3 : Int} : LoopOK Try.prog UU 0 19 (subC (codeOf Try.f145) [1, 0, 1, 0, 0]) (ρ := Int ⊕ Unit) (slices_IndexFunc_Domain_whole_ends_2_L1 a1 a2 a3)
    (fun v4 : Int => ([(0, .sl 85 a1), (1, .fn (.func 146) [] [.rp (c3 a2) 0, .rp (c3 a3) 0]), (4, .z), (7, .v (.int .i64 (a1.length : Int))), (8, .v (.int .i64 v4))] : Fr DD)) (fun v4 : Int => ([] : Heap DD)) (fun r => match r with | Sum.inl v12 => .ret | Sum.inr _ => .exit 0) (fun r => match r with | Sum.inl v12 => [(4, .v (.int .i64 v12))] | Sum.inr _ => [(4, .z)]) (fun r => match r with | Sum.inl v12 => [] | Sum.inr _ => []) := by
  refine loop_sound3 (fun s q h => ?_) (fun r => ?_)
  · replace h : slices_IndexFunc_Domain_whole_ends_2_L1 a1 a2 a3 s = some q := h; revert h; revert s; intro v4 h
    unfold slices_IndexFunc_Domain_whole_ends_2_L1 at h
    rcases ite_out h with ⟨h5, h⟩ | ⟨h5, h⟩
    · obtain ⟨x6, h7, h⟩ := bind_out h
      obtain ⟨r8, h9, h⟩ := bind_out h
      rcases ite_out h with ⟨h10, h⟩ | ⟨h10, h⟩
      · injection h with h; subst h; exact runLp_sound mixedOrders (live := [4]) (ids := []) (π := [.dec true, .row (c85 x6), .callv (.v (.bool r8)), .dec true]) (hx := by kernel_rfl) (hps := pc (h5) <| pc (ob85 h7) <| pc (k_leave_whole_ends_2 h9) <| pc (h10) <| pn)
      · injection h with h; subst h; exact runLp_sound mixedOrders (live := [0, 1, 4, 7, 8]) (ids := []) (π := [.dec true, .row (c85 x6), .callv (.v (.bool r8)), .dec false]) (hx := by kernel_rfl) (hps := pc (h5) <| pc (ob85 h7) <| pc (k_leave_whole_ends_2 h9) <| pc (h10) <| pn)
    · injection h with h; subst h; exact runLp_sound mixedOrders (live := [4]) (ids := []) (π := [.dec false]) (hx := by kernel_rfl) (hps := pc (h5) <| pn)
  · rcases r with _ | _ <;> exact Ex.noConfusion

theorem k_slices_IndexFunc_Domain_whole_ends_2 {a1 : List Api_Domain} {a2 : Int} {a3 : Int} {r : Int} (h : slices_IndexFunc_Domain_whole_ends_2 a1 a2 a3 = some r) :
    CallsOK Try.prog UU 145 [.sl 85 a1, .fn (.func 146) [] [.rp (c3 a2) 0, .rp (c3 a3) 0]] [] (.v (.int .i64 r)) [] := by
  unfold slices_IndexFunc_Domain_whole_ends_2 at h
  obtain ⟨r14, h13, h⟩ := bind_out h
  rcases r14 with v12 | _
  · injection h with h; subst h; exact runFn_sound mixedOrders Try.func145 rfl (keep := none) (π := [.sum [0, 1, 4, 7, 8] [] .ret [(4, .v (.int .i64 v12))] []]) (hrun := by kernel_rfl) (hps := pc (k_slices_IndexFunc_Domain_whole_ends_2_L1 _ _ h13) <| pn)
  · injection h with h; subst h; exact runFn_sound mixedOrders Try.func145 rfl (keep := none) (π := [.sum [0, 1, 4, 7, 8] [] (.exit 0) [(4, .z)] []]) (hrun := by kernel_rfl) (hps := pc (k_slices_IndexFunc_Domain_whole_ends_2_L1 _ _ h13) <| pn)

theorem k_leave_whole_vtep {a1 : Leave_whole} {a2 : Int} {r : Int} (h : leave_whole_vtep a1 a2 = some r) :
    CallsOK Try.prog UU 107 [.agg (c141 a1), .v (.int .i64 a2)] [] (.v (.int .u32 r)) [] := by
  unfold leave_whole_vtep at h
  obtain ⟨x3, h4, h⟩ := bind_out h
  obtain ⟨x5, h6, h⟩ := bind_out h
  injection h with h; subst h; exact runFn_sound mixedOrders Try.func107 rfl (keep := none) (π := [.row (c85 x3), .row (c138 x5)]) (hrun := by kernel_rfl) (hps := pc (ob85 h4) <| pc (ob138 h6) <| pn)

theorem k_leave_whole_ends_3 {a1 : Int} {a2 : Leave_whole} {a3 : Int} {r : Bool} (h : leave_whole_ends_3 a1 a2 a3 = some r) :
    CallsOK Try.prog UU 147 [.v (.int .i64 a1), .rp (c141 a2) 0, .rp (c34 a3) 0] [] (.v (.bool r)) [] := by
  unfold leave_whole_ends_3 at h
  obtain ⟨r4, h5, h⟩ := bind_out h
  injection h with h; subst h; exact runFn_sound mixedOrders Try.func147 rfl (keep := none) (π := [.callv (.v (.int .u32 r4))]) (hrun := by kernel_rfl) (hps := pc (k_leave_whole_vtep h5) <| pn)

theorem k_slices_IndexFunc_int_whole_ends_3_L1 {a1 : List Int} {a2 : Leave_whole} {a3 : Int} : LoopOK Try.prog UU 0 19 (subC (codeOf Try.f127) [1, 0, 1, 0, 0]) (ρ := Int ⊕ Unit) (slices_IndexFunc_int_whole_ends_3_L1 a1 a2 a3)
    (fun v4 : Int => ([(0, .sl 3 a1), (1, .fn (.func 147) [] [.rp (c141 a2) 0, .rp (c34 a3) 0]), (4, .z), (7, .v (.int .i64 (a1.length : Int))), (8, .v (.int .i64 v4))] : Fr DD)) (fun v4 : Int => ([] : Heap DD)) (fun r => match r with | Sum.inl v12 => .ret | Sum.inr _ => .exit 0) (fun r => match r with | Sum.inl v12 => [(4, .v (.int .i64 v12))] | Sum.inr _ => [(4, .z)]) (fun r => match r with | Sum.inl v12 => [] | Sum.inr _ => []) := by
  refine loop_sound3 (fun s q h => ?_) (fun r => ?_)
  · replace h : slices_IndexFunc_int_whole_ends_3_L1 a1 a2 a3 s = some q := h; revert h; revert s; intro v4 h
    unfold slices_IndexFunc_int_whole_ends_3_L1 at h
    rcases ite_out h with ⟨h5, h⟩ | ⟨h5, h⟩
    · obtain ⟨x6, h7, h⟩ := bind_out h
      obtain ⟨r8, h9, h⟩ := bind_out h
      rcases ite_out h with ⟨h10, h⟩ | ⟨h10, h⟩
      · injection h with h; subst h; exact runLp_sound mixedOrders (live := [4]) (ids := []) (π := [.dec true, .row (c3 x6), .callv (.v (.bool r8)), .dec true]) (hx := by kernel_rfl) (hps := pc (h5) <| pc (ob3 h7) <| pc (k_leave_whole_ends_3 h9) <| pc (h10) <| pn)
      · injection h with h; subst h; exact runLp_sound mixedOrders (live := [0, 1, 4, 7, 8]) (ids := []) (π := [.dec true, .row (c3 x6), .callv (.v (.bool r8)), .dec false]) (hx := by kernel_rfl) (hps := pc (h5) <| pc (ob3 h7) <| pc (k_leave_whole_ends_3 h9) <| pc (h10) <| pn)
    · injection h with h; subst h; exact runLp_sound mixedOrders (live := [4]) (ids := []) (π := [.dec false]) (hx := by kernel_rfl) (hps := pc (h5) <| pn)
  · rcases r with _ | _ <;> exact Ex.noConfusion

theorem k_slices_IndexFunc_int_whole_ends_3 {a1 : List Int} {a2 : Leave_whole} {a3 : Int} {r : Int} (h : slices_IndexFunc_int_whole_ends_3 a1 a2 a3 = some r) :
    CallsOK Try.prog UU 127 [.sl 3 a1, .fn (.func 147) [] [.rp (c141 a2) 0, .rp (c34 a3) 0]] [] (.v (.int .i64 r)) [] := by
  unfold slices_IndexFunc_int_whole_ends_3 at h
  obtain ⟨r14, h13, h⟩ := bind_out h
  rcases r14 with v12 | _
  · injection h with h; subst h; exact runFn_sound mixedOrders Try.func127 rfl (keep := none) (π := [.sum [0, 1, 4, 7, 8] [] .ret [(4, .v (.int .i64 v12))] []]) (hrun := by kernel_rfl) (hps := pc (k_slices_IndexFunc_int_whole_ends_3_L1 _ _ h13) <| pn)
  · injection h with h; subst h; exact runFn_sound mixedOrders Try.func127 rfl (keep := none) (π := [.sum [0, 1, 4, 7, 8] [] (.exit 0) [(4, .z)] []]) (hrun := by kernel_rfl) (hps := pc (k_slices_IndexFunc_int_whole_ends_3_L1 _ _ h13) <| pn)

theorem k_leave_whole_ends {a1 : Leave_whole} {a2 : Int} {a3 : Int} {a4 : Int} {r : Int × Int} (h : leave_whole_ends a1 a2 a3 a4 = some r) :
    CallsOK Try.prog UU 88 [.agg (c141 a1), .v (.int .u32 a2), .v (.int .u32 a3), .v (.int .i64 a4)] [] (.tup [.v (.int .i64 r.1), .v (.int .i64 r.2)]) [] := by
  unfold leave_whole_ends at h
  obtain ⟨r5, h6, h⟩ := bind_out h
  obtain ⟨r7, h8, h⟩ := bind_out h
  rcases ite_out h with ⟨h9, h⟩ | ⟨h9, h⟩
  · injection h with h; subst h; exact runFn_sound mixedOrders Try.func88 rfl (keep := none) (π := [.callv (.v (.int .i64 r5)), .callv (.v (.int .i64 r7)), .dec true]) (hrun := by kernel_rfl) (hps := pc (k_slices_IndexFunc_Device_whole_ends_1 h6) <| pc (k_slices_IndexFunc_Domain_whole_ends_2 h8) <| pc (h9) <| pn)
  · rcases ite_out h with ⟨h10, h⟩ | ⟨h10, h⟩
    · injection h with h; subst h; exact runFn_sound mixedOrders Try.func88 rfl (keep := none) (π := [.callv (.v (.int .i64 r5)), .callv (.v (.int .i64 r7)), .dec false, .dec true]) (hrun := by kernel_rfl) (hps := pc (k_slices_IndexFunc_Device_whole_ends_1 h6) <| pc (k_slices_IndexFunc_Domain_whole_ends_2 h8) <| pc (h9) <| pc (h10) <| pn)
    · obtain ⟨x11, h12, h⟩ := bind_out h
      obtain ⟨r13, h14, h⟩ := bind_out h
      rcases ite_out h with ⟨h15, h⟩ | ⟨h15, h⟩
      · injection h with h; subst h; exact runFn_sound mixedOrders Try.func88 rfl (keep := none) (π := [.callv (.v (.int .i64 r5)), .callv (.v (.int .i64 r7)), .dec false, .dec false, .row (c85 x11), .callv (.v (.int .i64 r13)), .dec true]) (hrun := by kernel_rfl) (hps := pc (k_slices_IndexFunc_Device_whole_ends_1 h6) <| pc (k_slices_IndexFunc_Domain_whole_ends_2 h8) <| pc (h9) <| pc (h10) <| pc (ob85 h12) <| pc (k_slices_IndexFunc_int_whole_ends_3 h14) <| pc (h15) <| pn)
      · obtain ⟨x16, h17, h⟩ := bind_out h
        injection h with h; subst h; exact runFn_sound mixedOrders Try.func88 rfl (keep := none) (π := [.callv (.v (.int .i64 r5)), .callv (.v (.int .i64 r7)), .dec false, .dec false, .row (c85 x11), .callv (.v (.int .i64 r13)), .dec false, .row (c3 x16)]) (hrun := by kernel_rfl) (hps := pc (k_slices_IndexFunc_Device_whole_ends_1 h6) <| pc (k_slices_IndexFunc_Domain_whole_ends_2 h8) <| pc (h9) <| pc (h10) <| pc (ob85 h12) <| pc (k_slices_IndexFunc_int_whole_ends_3 h14) <| pc (h15) <| pc (ob3 h17) <| pn)

theorem k_mac_Group {a1 : Int} {r : Bool} (h : mac_Group a1 = some r) :
    CallsOK Try.prog UU 40 [.v (.int .u64 a1)] [] (.v (.bool r)) [] := by
  unfold mac_Group at h
  injection h with h; subst h; exact runFn_sound mixedOrders Try.func40 rfl (keep := none) (π := []) (hrun := by kernel_rfl) (hps := pn)

theorem k_leave_Come {a1 : Api_Net} {a2 : List Int} {r : ((List Int) × Nat × Int × Int × Int × Int × Int × Int)} (h : leave_Come a1 a2 = some r) :
    CallsOK Try.prog UU 43 [.agg (c61 a1), .sl 5 a2] [] ((fun r => match r with | (l24, n25, v26, v27, v28, v29, v30, v31) => .tup [.v (.int .i64 v26), .v (.int .i64 v27), .agg [.v (.int .u64 v28), .v (.int .u64 v29), .v (.int .i64 v30), .os 0 n25], .v (.int .i64 v31)]) r) ((fun r => match r with | (l24, n25, v26, v27, v28, v29, v30, v31) => [.arr 5 l24 n25 false]) r) := by
  unfold leave_Come at h
  obtain ⟨r3, h4, h⟩ := bind_out h
  rcases ite_out h with ⟨h5, h⟩ | ⟨h5, h⟩
  · injection h with h; subst h; exact runFn_sound mixedOrders Try.func43 rfl (keep := some [3]) (π := [.callv (.v (.bool r3)), .dec true]) (hrun := by kernel_rfl) (hps := pc (k_names_Right h4) <| pc (h5) <| pn)
  · obtain ⟨r6, h7, h⟩ := bind_out h
    obtain ⟨l8, n9, v10, v11, v12, v13, v14, v15, v16⟩ := r6
    rcases ite_out h with ⟨h17, h⟩ | ⟨h17, h⟩
    · injection h with h; subst h; exact runFn_sound mixedOrders Try.func43 rfl (keep := some [4]) (π := [.callv (.v (.bool r3)), .dec false, .callo (.tup [.v (.int .u32 v10), .v (.int .u32 v11), .v (.int .i64 v12), .agg [.v (.int .u64 v13), .v (.int .u64 v14), .v (.int .i64 v15), .os 0 n9], .v (.int .i64 v16)]) [.arr 5 l8 n9 false], .dec true]) (hrun := by kernel_rfl) (hps := pc (k_names_Right h4) <| pc (h5) <| pc (k_vxlan_Unwrap h7) <| pc (im5 l8) <| pc (h17) <| pn)
    · obtain ⟨r18, h19, h⟩ := bind_out h
      rcases ite_out h with ⟨h20, h⟩ | ⟨h20, h⟩
      · injection h with h; subst h; exact runFn_sound mixedOrders Try.func43 rfl (keep := some [4]) (π := [.callv (.v (.bool r3)), .dec false, .callo (.tup [.v (.int .u32 v10), .v (.int .u32 v11), .v (.int .i64 v12), .agg [.v (.int .u64 v13), .v (.int .u64 v14), .v (.int .i64 v15), .os 0 n9], .v (.int .i64 v16)]) [.arr 5 l8 n9 false], .dec false, .callv (.tup [.v (.int .i64 r18.1), .v (.int .i64 r18.2)]), .dec true]) (hrun := by kernel_rfl) (hps := pc (k_names_Right h4) <| pc (h5) <| pc (k_vxlan_Unwrap h7) <| pc (im5 l8) <| pc (h17) <| pc (k_leave_whole_ends h19) <| pc (h20) <| pn)
      · obtain ⟨r21, h22, h⟩ := bind_out h
        rcases ite_out h with ⟨h23, h⟩ | ⟨h23, h⟩
        · injection h with h; subst h; exact runFn_sound mixedOrders Try.func43 rfl (keep := some [4]) (π := [.callv (.v (.bool r3)), .dec false, .callo (.tup [.v (.int .u32 v10), .v (.int .u32 v11), .v (.int .i64 v12), .agg [.v (.int .u64 v13), .v (.int .u64 v14), .v (.int .i64 v15), .os 0 n9], .v (.int .i64 v16)]) [.arr 5 l8 n9 false], .dec false, .callv (.tup [.v (.int .i64 r18.1), .v (.int .i64 r18.2)]), .dec false, .callv (.v (.bool r21)), .dec true]) (hrun := by kernel_rfl) (hps := pc (k_names_Right h4) <| pc (h5) <| pc (k_vxlan_Unwrap h7) <| pc (im5 l8) <| pc (h17) <| pc (k_leave_whole_ends h19) <| pc (h20) <| pc (k_mac_Group h22) <| pc (h23) <| pn)
        · injection h with h; subst h; exact runFn_sound mixedOrders Try.func43 rfl (keep := some [3]) (π := [.callv (.v (.bool r3)), .dec false, .callo (.tup [.v (.int .u32 v10), .v (.int .u32 v11), .v (.int .i64 v12), .agg [.v (.int .u64 v13), .v (.int .u64 v14), .v (.int .i64 v15), .os 0 n9], .v (.int .i64 v16)]) [.arr 5 l8 n9 false], .dec false, .callv (.tup [.v (.int .i64 r18.1), .v (.int .i64 r18.2)]), .dec false, .callv (.v (.bool r21)), .dec false]) (hrun := by kernel_rfl) (hps := pc (k_names_Right h4) <| pc (h5) <| pc (k_vxlan_Unwrap h7) <| pc (im5 l8) <| pc (h17) <| pc (k_leave_whole_ends h19) <| pc (h20) <| pc (k_mac_Group h22) <| pc (h23) <| pn)

end Go.Eng
