/- Part of the proof of LeavePorts: printed mirrors of the functions, or their contracts. No conditions. -/
import Derived.Test.YtakijieekhbhfaaMAK2
set_option linter.unusedVariables false
set_option maxRecDepth 100000
namespace Go.Eng
open Go Go.Proofs
theorem k_palingref05_Add {a1 : Api_Frame} {a2 : Int} {a3 : Int} {r : ((List Int) × Int × Int × Int × Int)} (h : palingref05_Add a1 a2 a3 = some r) :
    CallsOK Try.prog UU 82 [.agg (c37 a1), .v (.int .i64 a2), .v (.int .i64 a3)] [] ((fun r => match r with | (l13, v14, v15, v16, v17) => .tup [.agg [.v (.int .u64 v14), .v (.int .u64 v15), .v (.int .i64 v16), .os 0 (List.length l13)], .v (.int .i64 v17)]) r) ((fun r => match r with | (l13, v14, v15, v16, v17) => [.arr 5 l13 (List.length l13) false]) r) := by
  unfold palingref05_Add at h
  rcases ite_out h with ⟨h4, h⟩ | ⟨h4, h⟩
  · injection h with h; subst h; exact runFn_sound mixedOrders Try.func82 rfl (keep := some [3]) (π := [.dec true]) (hrun := by kernel_rfl) (hps := pc (h4) <| pn)
  · rcases ite_out h with ⟨h5, h⟩ | ⟨h5, h⟩
    · injection h with h; subst h; exact runFn_sound mixedOrders Try.func82 rfl (keep := some [3]) (π := [.dec false, .dec true]) (hrun := by kernel_rfl) (hps := pc (h4) <| pc (h5) <| pn)
    · rcases ite_out h with ⟨h6, h⟩ | ⟨h6, h⟩
      · injection h with h; subst h; exact runFn_sound mixedOrders Try.func82 rfl (keep := some [3]) (π := [.dec false, .dec false, .dec true]) (hrun := by kernel_rfl) (hps := pc (h4) <| pc (h5) <| pc (h6) <| pn)
      · rcases ite_out h with ⟨h7, h⟩ | ⟨h7, h⟩
        · injection h with h; subst h; exact runFn_sound mixedOrders Try.func82 rfl (keep := some [3]) (π := [.dec false, .dec false, .dec false, .dec true]) (hrun := by kernel_rfl) (hps := pc (h4) <| pc (h5) <| pc (h6) <| pc (h7) <| pn)
        · rcases ite_out h with ⟨h8, h⟩ | ⟨h8, h⟩
          · injection h with h; subst h; exact runFn_sound mixedOrders Try.func82 rfl (keep := some [3]) (π := [.dec false, .dec false, .dec false, .dec false, .dec true]) (hrun := by kernel_rfl) (hps := pc (h4) <| pc (h5) <| pc (h6) <| pc (h7) <| pc (h8) <| pn)
          · rcases ite_out h with ⟨h9, h⟩ | ⟨h9, h⟩
            · injection h with h; subst h; exact runFn_sound mixedOrders Try.func82 rfl (keep := some [3]) (π := [.dec false, .dec false, .dec false, .dec false, .dec false, .dec true]) (hrun := by kernel_rfl) (hps := pc (h4) <| pc (h5) <| pc (h6) <| pc (h7) <| pc (h8) <| pc (h9) <| pn)
            · rcases ite_out h with ⟨h10, h⟩ | ⟨h10, h⟩
              · injection h with h; subst h; exact runFn_sound mixedOrders Try.func82 rfl (keep := some [3]) (π := [.dec false, .dec false, .dec false, .dec false, .dec false, .dec false, .dec true]) (hrun := by kernel_rfl) (hps := pc (h4) <| pc (h5) <| pc (h6) <| pc (h7) <| pc (h8) <| pc (h9) <| pc (h10) <| pn)
              · rcases ite_out h with ⟨h11, h⟩ | ⟨h11, h⟩
                · injection h with h; subst h; exact runFn_sound mixedOrders Try.func82 rfl (keep := some [3]) (π := [.dec false, .dec false, .dec false, .dec false, .dec false, .dec false, .dec false, .dec true]) (hrun := by kernel_rfl) (hps := pc (h4) <| pc (h5) <| pc (h6) <| pc (h7) <| pc (h8) <| pc (h9) <| pc (h10) <| pc (h11) <| pn)
                · rcases ite_out h with ⟨h12, h⟩ | ⟨h12, h⟩
                  · injection h with h; subst h; exact runFn_sound mixedOrders Try.func82 rfl (keep := some [3]) (π := [.dec false, .dec false, .dec false, .dec false, .dec false, .dec false, .dec false, .dec false, .obj [] (.arr 5 [(wr_u8 (wr_i64 (Int.tdiv (wr_i64 ((wr_i64 (a3 * 4096)) + a2)) 256)) : Int), (wr_u8 (Int.tmod (wr_i64 ((wr_i64 (a3 * 4096)) + a2)) 256) : Int), (wr_u8 (wr_i64 (Int.tdiv a1.type_ 256)) : Int), (wr_u8 (Int.tmod a1.type_ 256) : Int)] (List.length [(wr_u8 (wr_i64 (Int.tdiv (wr_i64 ((wr_i64 (a3 * 4096)) + a2)) 256)) : Int), (wr_u8 (Int.tmod (wr_i64 ((wr_i64 (a3 * 4096)) + a2)) 256) : Int), (wr_u8 (wr_i64 (Int.tdiv a1.type_ 256)) : Int), (wr_u8 (Int.tmod a1.type_ 256) : Int)]) false), .sum [7] [] .nor [] [.box 37 (c37 a1) false, .n 5, .box 37 [.v (.int .u64 0), .v (.int .u64 0), .z, .os 1 0] false, .arr 5 ([(wr_u8 (wr_i64 (Int.tdiv (wr_i64 ((wr_i64 (a3 * 4096)) + a2)) 256)) : Int), (wr_u8 (Int.tmod (wr_i64 ((wr_i64 (a3 * 4096)) + a2)) 256) : Int), (wr_u8 (wr_i64 (Int.tdiv a1.type_ 256)) : Int), (wr_u8 (Int.tmod a1.type_ 256) : Int)] ++ a1.body) (List.length ([(wr_u8 (wr_i64 (Int.tdiv (wr_i64 ((wr_i64 (a3 * 4096)) + a2)) 256)) : Int), (wr_u8 (Int.tmod (wr_i64 ((wr_i64 (a3 * 4096)) + a2)) 256) : Int), (wr_u8 (wr_i64 (Int.tdiv a1.type_ 256)) : Int), (wr_u8 (Int.tmod a1.type_ 256) : Int)] ++ a1.body)) false], .obj [] (.arr 5 ([(wr_u8 (wr_i64 (Int.tdiv (wr_i64 ((wr_i64 (a3 * 4096)) + a2)) 256)) : Int), (wr_u8 (Int.tmod (wr_i64 ((wr_i64 (a3 * 4096)) + a2)) 256) : Int), (wr_u8 (wr_i64 (Int.tdiv a1.type_ 256)) : Int), (wr_u8 (Int.tmod a1.type_ 256) : Int)] ++ a1.body) (List.length ([(wr_u8 (wr_i64 (Int.tdiv (wr_i64 ((wr_i64 (a3 * 4096)) + a2)) 256)) : Int), (wr_u8 (Int.tmod (wr_i64 ((wr_i64 (a3 * 4096)) + a2)) 256) : Int), (wr_u8 (wr_i64 (Int.tdiv a1.type_ 256)) : Int), (wr_u8 (Int.tmod a1.type_ 256) : Int)] ++ a1.body)) false)]) (hrun := by kernel_rfl) (hps := pc (h4) <| pc (h5) <| pc (h6) <| pc (h7) <| pc (h8) <| pc (h9) <| pc (h10) <| pc (h11) <| pc ((show (256 : Int) ≠ 0 from by decide)) <| pc ((show (256 : Int) ≠ 0 from by decide)) <| pc ((show (256 : Int) ≠ 0 from by decide)) <| pc ((show (256 : Int) ≠ 0 from by decide)) <| pc (bs_ob 5 [(wr_u8 (wr_i64 (Int.tdiv (wr_i64 ((wr_i64 (a3 * 4096)) + a2)) 256)) : Int), (wr_u8 (Int.tmod (wr_i64 ((wr_i64 (a3 * 4096)) + a2)) 256) : Int), (wr_u8 (wr_i64 (Int.tdiv a1.type_ 256)) : Int), (wr_u8 (Int.tmod a1.type_ 256) : Int)]) <| pc ((rfl : (.op 0 1 0 0 : AV DD) = .op 0 1 0 0)) <| pc ((rfl : (.v (.int .u64 a1.dst) : AV DD) = .v (.int .u64 a1.dst))) <| pc ((rfl : (.op 0 1 0 1 : AV DD) = .op 0 1 0 1)) <| pc ((rfl : (.v (.int .u64 a1.src) : AV DD) = .v (.int .u64 a1.src))) <| pc ((rfl : ([.box 37 (c37 a1) false, .n 5, .box 37 [.v (.int .u64 0), .v (.int .u64 0), .z, .os 1 0] false, .arr 5 ([(wr_u8 (wr_i64 (Int.tdiv (wr_i64 ((wr_i64 (a3 * 4096)) + a2)) 256)) : Int), (wr_u8 (Int.tmod (wr_i64 ((wr_i64 (a3 * 4096)) + a2)) 256) : Int), (wr_u8 (wr_i64 (Int.tdiv a1.type_ 256)) : Int), (wr_u8 (Int.tmod a1.type_ 256) : Int)] ++ a1.body) (List.length ([(wr_u8 (wr_i64 (Int.tdiv (wr_i64 ((wr_i64 (a3 * 4096)) + a2)) 256)) : Int), (wr_u8 (Int.tmod (wr_i64 ((wr_i64 (a3 * 4096)) + a2)) 256) : Int), (wr_u8 (wr_i64 (Int.tdiv a1.type_ 256)) : Int), (wr_u8 (Int.tmod a1.type_ 256) : Int)] ++ a1.body)) false] : Heap DD) = [.box 37 (c37 a1) false, .n 5, .box 37 [.v (.int .u64 0), .v (.int .u64 0), .z, .os 1 0] false, .arr 5 ([(wr_u8 (wr_i64 (Int.tdiv (wr_i64 ((wr_i64 (a3 * 4096)) + a2)) 256)) : Int), (wr_u8 (Int.tmod (wr_i64 ((wr_i64 (a3 * 4096)) + a2)) 256) : Int), (wr_u8 (wr_i64 (Int.tdiv a1.type_ 256)) : Int), (wr_u8 (Int.tmod a1.type_ 256) : Int)] ++ a1.body) (List.length ([(wr_u8 (wr_i64 (Int.tdiv (wr_i64 ((wr_i64 (a3 * 4096)) + a2)) 256)) : Int), (wr_u8 (Int.tmod (wr_i64 ((wr_i64 (a3 * 4096)) + a2)) 256) : Int), (wr_u8 (wr_i64 (Int.tdiv a1.type_ 256)) : Int), (wr_u8 (Int.tmod a1.type_ 256) : Int)] ++ a1.body)) false])) <| pc (app_ob 5 (n := (List.length [(wr_u8 (wr_i64 (Int.tdiv (wr_i64 ((wr_i64 (a3 * 4096)) + a2)) 256)) : Int), (wr_u8 (Int.tmod (wr_i64 ((wr_i64 (a3 * 4096)) + a2)) 256) : Int), (wr_u8 (wr_i64 (Int.tdiv a1.type_ 256)) : Int), (wr_u8 (Int.tmod a1.type_ 256) : Int)])) (l := [(wr_u8 (wr_i64 (Int.tdiv (wr_i64 ((wr_i64 (a3 * 4096)) + a2)) 256)) : Int), (wr_u8 (Int.tmod (wr_i64 ((wr_i64 (a3 * 4096)) + a2)) 256) : Int), (wr_u8 (wr_i64 (Int.tdiv a1.type_ 256)) : Int), (wr_u8 (Int.tmod a1.type_ 256) : Int)]) (xs := a1.body) h12) <| pn)
                  · cases h

theorem k_palingref28_At {a1 : Api_Net} {a2 : Int} {a3 : Int} {a4 : Api_Frame} {r : ((List Int) × Int)} (h : palingref28_At a1 a2 a3 a4 = some r) :
    CallsOK Try.prog UU 37 [.agg (c61 a1), .v (.int .i64 a2), .v (.int .i64 a3), .agg (c37 a4)] [] ((fun r => match r with | (l42, v43) => .tup [.os 0 (List.length l42), .v (.int .i64 v43)]) r) ((fun r => match r with | (l42, v43) => [.arr 5 l42 (List.length l42) false]) r) := by
  unfold palingref28_At at h
  obtain ⟨r5, h6, h⟩ := bind_out h
  rcases ite_out h with ⟨h7, h⟩ | ⟨h7, h⟩
  · injection h with h; subst h; exact runFn_sound mixedOrders Try.func37 rfl (keep := some [3]) (π := [.callv (.v (.bool r5)), .dec true]) (hrun := by kernel_rfl) (hps := pc (k_palingref15_Right h6) <| pc (h7) <| pn)
  · obtain ⟨r8, h9, h⟩ := bind_out h
    rcases ite_out h with ⟨h10, h⟩ | ⟨h10, h⟩
    · injection h with h; subst h; exact runFn_sound mixedOrders Try.func37 rfl (keep := some [3]) (π := [.callv (.v (.bool r5)), .dec false, .callv (.v (.bool r8)), .dec true]) (hrun := by kernel_rfl) (hps := pc (k_palingref15_Right h6) <| pc (h7) <| pc (k_palingref15_Place h9) <| pc (h10) <| pn)
    · obtain ⟨r11, h12, h⟩ := bind_out h
      rcases ite_out h with ⟨h13, h⟩ | ⟨h13, h⟩
      · injection h with h; subst h; exact runFn_sound mixedOrders Try.func37 rfl (keep := some [3]) (π := [.callv (.v (.bool r5)), .dec false, .callv (.v (.bool r8)), .dec false, .callv (.v (.bool r11)), .dec true]) (hrun := by kernel_rfl) (hps := pc (k_palingref15_Right h6) <| pc (h7) <| pc (k_palingref15_Place h9) <| pc (h10) <| pc (k_palingref15_Place h12) <| pc (h13) <| pn)
      · obtain ⟨l16, h15, h⟩ := bind_out h
        obtain ⟨r17, h18, h⟩ := bind_out h
        rcases ite_out h with ⟨h19, h⟩ | ⟨h19, h⟩
        · injection h with h; subst h; exact runFn_sound mixedOrders Try.func37 rfl (keep := some [4]) (π := [.callv (.v (.bool r5)), .dec false, .callv (.v (.bool r8)), .dec false, .callv (.v (.bool r11)), .dec false, .callo (.os 0 (List.length l16)) [.arr 3 l16 (List.length l16) false], .callv (.v (.bool r17)), .dec true]) (hrun := by kernel_rfl) (hps := pc (k_palingref15_Right h6) <| pc (h7) <| pc (k_palingref15_Place h9) <| pc (h10) <| pc (k_palingref15_Place h12) <| pc (h13) <| pc (k_palingref15_Members h15) <| pc (im3 l16) <| pc (k_palingref15_In h18) <| pc ((rfl : ((List.length l16) : Nat) = (List.length l16))) <| pc (h19) <| pn)
        · rcases ite_out h with ⟨h20, h⟩ | ⟨h20, h⟩
          · injection h with h; subst h; exact runFn_sound mixedOrders Try.func37 rfl (keep := some [4]) (π := [.callv (.v (.bool r5)), .dec false, .callv (.v (.bool r8)), .dec false, .callv (.v (.bool r11)), .dec false, .callo (.os 0 (List.length l16)) [.arr 3 l16 (List.length l16) false], .callv (.v (.bool r17)), .dec false, .dec true]) (hrun := by kernel_rfl) (hps := pc (k_palingref15_Right h6) <| pc (h7) <| pc (k_palingref15_Place h9) <| pc (h10) <| pc (k_palingref15_Place h12) <| pc (h13) <| pc (k_palingref15_Members h15) <| pc (im3 l16) <| pc (k_palingref15_In h18) <| pc ((rfl : ((List.length l16) : Nat) = (List.length l16))) <| pc (h19) <| pc (h20) <| pn)
          · obtain ⟨x21, h22, h⟩ := bind_out h
            obtain ⟨x23, h24, h⟩ := bind_out h
            rcases ite_out h with ⟨h25, h⟩ | ⟨h25, h⟩
            · obtain ⟨r26, h27, h⟩ := bind_out h
              obtain ⟨l28, v29⟩ := r26
              injection h with h; subst h; exact runFn_sound mixedOrders Try.func37 rfl (keep := some [4]) (π := [.callv (.v (.bool r5)), .dec false, .callv (.v (.bool r8)), .dec false, .callv (.v (.bool r11)), .dec false, .callo (.os 0 (List.length l16)) [.arr 3 l16 (List.length l16) false], .callv (.v (.bool r17)), .dec false, .dec false, .row (c85 x21), .row (c96 x23), .dec true, .callo (.tup [.os 0 (List.length l28), .v (.int .i64 v29)]) [.arr 5 l28 (List.length l28) false]]) (hrun := by kernel_rfl) (hps := pc (k_palingref15_Right h6) <| pc (h7) <| pc (k_palingref15_Place h9) <| pc (h10) <| pc (k_palingref15_Place h12) <| pc (h13) <| pc (k_palingref15_Members h15) <| pc (im3 l16) <| pc (k_palingref15_In h18) <| pc ((rfl : ((List.length l16) : Nat) = (List.length l16))) <| pc (h19) <| pc (h20) <| pc (ob85 h22) <| pc (ob96 h24) <| pc (h25) <| pc (k_palingref04_Put h27) <| pc (im5 l28) <| pn)
            · obtain ⟨r30, h31, h⟩ := bind_out h
              obtain ⟨l32, v33, v34, v35, v36⟩ := r30
              rcases ite_out h with ⟨h37, h⟩ | ⟨h37, h⟩
              · injection h with h; subst h; exact runFn_sound mixedOrders Try.func37 rfl (keep := some [7]) (π := [.callv (.v (.bool r5)), .dec false, .callv (.v (.bool r8)), .dec false, .callv (.v (.bool r11)), .dec false, .callo (.os 0 (List.length l16)) [.arr 3 l16 (List.length l16) false], .callv (.v (.bool r17)), .dec false, .dec false, .row (c85 x21), .row (c96 x23), .dec false, .callo (.tup [.agg [.v (.int .u64 v33), .v (.int .u64 v34), .v (.int .i64 v35), .os 0 (List.length l32)], .v (.int .i64 v36)]) [.arr 5 l32 (List.length l32) false], .dec true]) (hrun := by kernel_rfl) (hps := pc (k_palingref15_Right h6) <| pc (h7) <| pc (k_palingref15_Place h9) <| pc (h10) <| pc (k_palingref15_Place h12) <| pc (h13) <| pc (k_palingref15_Members h15) <| pc (im3 l16) <| pc (k_palingref15_In h18) <| pc ((rfl : ((List.length l16) : Nat) = (List.length l16))) <| pc (h19) <| pc (h20) <| pc (ob85 h22) <| pc (ob96 h24) <| pc (h25) <| pc (k_palingref05_Add h31) <| pc (im5 l32) <| pc (h37) <| pn)
              · obtain ⟨r38, h39, h⟩ := bind_out h
                obtain ⟨l40, v41⟩ := r38
                injection h with h; subst h; exact runFn_sound mixedOrders Try.func37 rfl (keep := some [7]) (π := [.callv (.v (.bool r5)), .dec false, .callv (.v (.bool r8)), .dec false, .callv (.v (.bool r11)), .dec false, .callo (.os 0 (List.length l16)) [.arr 3 l16 (List.length l16) false], .callv (.v (.bool r17)), .dec false, .dec false, .row (c85 x21), .row (c96 x23), .dec false, .callo (.tup [.agg [.v (.int .u64 v33), .v (.int .u64 v34), .v (.int .i64 v35), .os 0 (List.length l32)], .v (.int .i64 v36)]) [.arr 5 l32 (List.length l32) false], .dec false, .callo (.tup [.os 0 (List.length l40), .v (.int .i64 v41)]) [.arr 5 l40 (List.length l40) false]]) (hrun := by kernel_rfl) (hps := pc (k_palingref15_Right h6) <| pc (h7) <| pc (k_palingref15_Place h9) <| pc (h10) <| pc (k_palingref15_Place h12) <| pc (h13) <| pc (k_palingref15_Members h15) <| pc (im3 l16) <| pc (k_palingref15_In h18) <| pc ((rfl : ((List.length l16) : Nat) = (List.length l16))) <| pc (h19) <| pc (h20) <| pc (ob85 h22) <| pc (ob96 h24) <| pc (h25) <| pc (k_palingref05_Add h31) <| pc (im5 l32) <| pc (h37) <| pc (k_palingref04_Put h39) <| pc (im5 l40) <| pc ((rfl : ((List.length l32) : Nat) = (List.length l32))) <| pn)

theorem k_links_Other {a1 : Api_Net} {a2 : Int} {r : Int} (h : links_Other a1 a2 = some r) :
    CallsOK Try.prog UU 42 [.agg (c61 a1), .v (.int .i64 a2)] [] (.v (.int .i64 r)) [] := by
  unfold links_Other at h
  rcases ite_out h with ⟨h3, h⟩ | ⟨h3, h⟩
  · injection h with h; subst h; exact runFn_sound mixedOrders Try.func42 rfl (keep := none) (π := [.dec true]) (hrun := by kernel_rfl) (hps := pc (h3) <| pn)
  · rcases ite_out h with ⟨h4, h⟩ | ⟨h4, h⟩
    · injection h with h; subst h; exact runFn_sound mixedOrders Try.func42 rfl (keep := none) (π := [.dec false, .dec true]) (hrun := by kernel_rfl) (hps := pc (h3) <| pc (h4) <| pn)
    · obtain ⟨x5, h6, h⟩ := bind_out h
      rcases ite_out h with ⟨h7, h⟩ | ⟨h7, h⟩
      · injection h with h; subst h; exact runFn_sound mixedOrders Try.func42 rfl (keep := none) (π := [.dec false, .dec false, .row (c96 x5), .dec true]) (hrun := by kernel_rfl) (hps := pc (h3) <| pc (h4) <| pc (ob96 h6) <| pc (h7) <| pn)
      · obtain ⟨r8, h9, h⟩ := bind_out h
        rcases ite_out h with ⟨h10, h⟩ | ⟨h10, h⟩
        · injection h with h; subst h; exact runFn_sound mixedOrders Try.func42 rfl (keep := none) (π := [.dec false, .dec false, .row (c96 x5), .dec false, .callv (.v (.bool r8)), .dec true]) (hrun := by kernel_rfl) (hps := pc (h3) <| pc (h4) <| pc (ob96 h6) <| pc (h7) <| pc (k_names_Right h9) <| pc (h10) <| pn)
        · obtain ⟨x11, h12, h⟩ := bind_out h
          obtain ⟨x13, h14, h⟩ := bind_out h
          rcases ite_out h with ⟨h15, h⟩ | ⟨h15, h⟩
          · injection h with h; subst h; exact runFn_sound mixedOrders Try.func42 rfl (keep := none) (π := [.dec false, .dec false, .row (c96 x5), .dec false, .callv (.v (.bool r8)), .dec false, .row (c96 x11), .row (c153 x13), .dec true]) (hrun := by kernel_rfl) (hps := pc (h3) <| pc (h4) <| pc (ob96 h6) <| pc (h7) <| pc (k_names_Right h9) <| pc (h10) <| pc (ob96 h12) <| pc (ob153 h14) <| pc (h15) <| pn)
          · injection h with h; subst h; exact runFn_sound mixedOrders Try.func42 rfl (keep := none) (π := [.dec false, .dec false, .row (c96 x5), .dec false, .callv (.v (.bool r8)), .dec false, .row (c96 x11), .row (c153 x13), .dec false]) (hrun := by kernel_rfl) (hps := pc (h3) <| pc (h4) <| pc (ob96 h6) <| pc (h7) <| pc (k_names_Right h9) <| pc (h10) <| pc (ob96 h12) <| pc (ob153 h14) <| pc (h15) <| pn)

theorem k_mac_Take_L1 {a1 : List Int} {a2 : Int} : LoopOK Try.prog UU 0 32 (subC (codeOf Try.f62) [1, 1, 1, 0, 1, 0, 0]) (fun s : Int × Int => match s with | (v5, v6) => mac_Take_L1 a1 a2 v5 v6)
    (fun s : Int × Int => (match s with | (v5, v6) => [(0, .sl 5 a1), (1, .v (.int .i64 a2)), (4, .v (.int .u64 0)), (5, .v (.bool false)), (6, .v (.int .u64 v5)), (17, .v (.int .i64 v6))] : Fr DD)) (fun s : Int × Int => (match s with | (v5, v6) => [] : Heap DD)) (fun r => match r with | v11 => .exit 0) (fun r => match r with | v11 => [(4, .v (.int .u64 0)), (5, .v (.bool false)), (6, .v (.int .u64 v11))]) (fun r => match r with | v11 => []) := by
  refine loop_sound3 (fun s q h => ?_) (fun r => ?_)
  · obtain ⟨v5, v6⟩ := s; replace h : mac_Take_L1 a1 a2 v5 v6 = some q := h
    unfold mac_Take_L1 at h
    rcases ite_out h with ⟨h7, h⟩ | ⟨h7, h⟩
    · obtain ⟨x8, h9, h⟩ := bind_out h
      injection h with h; subst h; exact runLp_sound mixedOrders (live := [0, 1, 4, 5, 6, 17]) (ids := []) (π := [.dec true, .row (c5 x8)]) (hx := by kernel_rfl) (hps := pc (h7) <| pc ((show (0 : Int) ≤ 8 from by decide)) <| pc (ob5 h9) <| pn)
    · injection h with h; subst h; exact runLp_sound mixedOrders (live := [4, 5, 6]) (ids := []) (π := [.dec false]) (hx := by kernel_rfl) (hps := pc (h7) <| pn)
  · exact Ex.noConfusion

theorem k_mac_Take {a1 : List Int} {a2 : Int} {r : Int × Bool} (h : mac_Take a1 a2 = some r) :
    CallsOK Try.prog UU 62 [.sl 5 a1, .v (.int .i64 a2)] [] (.tup [.v (.int .u64 r.1), .v (.bool r.2)]) [] := by
  unfold mac_Take at h
  rcases ite_out h with ⟨h3, h⟩ | ⟨h3, h⟩
  · injection h with h; subst h; exact runFn_sound mixedOrders Try.func62 rfl (keep := none) (π := [.dec true]) (hrun := by kernel_rfl) (hps := pc (h3) <| pn)
  · rcases ite_out h with ⟨h4, h⟩ | ⟨h4, h⟩
    · injection h with h; subst h; exact runFn_sound mixedOrders Try.func62 rfl (keep := none) (π := [.dec false, .dec true]) (hrun := by kernel_rfl) (hps := pc (h3) <| pc (h4) <| pn)
    · obtain ⟨v11, h12, h⟩ := bind_out h
      injection h with h; subst h; exact runFn_sound mixedOrders Try.func62 rfl (keep := none) (π := [.dec false, .dec false, .sum [0, 1, 4, 5, 6, 17] [] (.exit 0) [(4, .v (.int .u64 0)), (5, .v (.bool false)), (6, .v (.int .u64 v11))] []]) (hrun := by kernel_rfl) (hps := pc (h3) <| pc (h4) <| pc (k_mac_Take_L1 _ _ h12) <| pn)

theorem k_ether_Take {a1 : List Int} {r : ((List Int) × Nat × Int × Int × Int × Int)} (h : ether_Take a1 = some r) :
    CallsOK Try.prog UU 22 [.sl 5 a1] [] ((fun r => match r with | (l14, n15, v16, v17, v18, v19) => .tup [.agg [.v (.int .u64 v16), .v (.int .u64 v17), .v (.int .i64 v18), .os 0 n15], .v (.int .i64 v19)]) r) ((fun r => match r with | (l14, n15, v16, v17, v18, v19) => [.arr 5 l14 n15 false]) r) := by
  unfold ether_Take at h
  rcases ite_out h with ⟨h2, h⟩ | ⟨h2, h⟩
  · injection h with h; subst h; exact runFn_sound mixedOrders Try.func22 rfl (keep := some [2]) (π := [.dec true]) (hrun := by kernel_rfl) (hps := pc (h2) <| pn)
  · rcases ite_out h with ⟨h3, h⟩ | ⟨h3, h⟩
    · injection h with h; subst h; exact runFn_sound mixedOrders Try.func22 rfl (keep := some [2]) (π := [.dec false, .dec true]) (hrun := by kernel_rfl) (hps := pc (h2) <| pc (h3) <| pn)
    · obtain ⟨r4, h5, h⟩ := bind_out h
      obtain ⟨r6, h7, h⟩ := bind_out h
      rcases ite_out h with ⟨h8, h⟩ | ⟨h8, h⟩
      · rcases ite_out h with ⟨h9, h⟩ | ⟨h9, h⟩
        · obtain ⟨x10, h11, h⟩ := bind_out h
          obtain ⟨x12, h13, h⟩ := bind_out h
          injection h with h; subst h; exact runFn_sound mixedOrders Try.func22 rfl (keep := some [2]) (π := [.dec false, .dec false, .callv (.tup [.v (.int .u64 r4.1), .v (.bool r4.2)]), .callv (.tup [.v (.int .u64 r6.1), .v (.bool r6.2)]), .obj [] (.arr 5 (List.replicate (Int.toNat (wr_i64 ((a1.length : Int) - 14))) (0 : Int)) (Int.toNat (wr_i64 ((a1.length : Int) - 14))) false), .obj [] (.arr 5 (List.take 0 (List.replicate (Int.toNat (wr_i64 ((a1.length : Int) - 14))) (0 : Int)) ++ (List.take (min (List.length (List.drop (Int.toNat 14) (List.take (Int.toNat ((List.length a1) : Int)) a1))) ((List.length (List.replicate (Int.toNat (wr_i64 ((a1.length : Int) - 14))) (0 : Int))) - 0)) (List.drop (Int.toNat 14) (List.take (Int.toNat ((List.length a1) : Int)) a1)) ++ List.drop (0 + (min (List.length (List.drop (Int.toNat 14) (List.take (Int.toNat ((List.length a1) : Int)) a1))) ((List.length (List.replicate (Int.toNat (wr_i64 ((a1.length : Int) - 14))) (0 : Int))) - 0))) (List.replicate (Int.toNat (wr_i64 ((a1.length : Int) - 14))) (0 : Int)))) (Int.toNat (wr_i64 ((a1.length : Int) - 14))) false), .row (c5 x10), .row (c5 x12)]) (hrun := by kernel_rfl) (hps := pc (h2) <| pc (h3) <| pc (k_mac_Take h5) <| pc (k_mac_Take h7) <| pc (mk_ob 5 (0 : Int) h8) <| pc ((rfl : ((Int.toNat (wr_i64 ((a1.length : Int) - 14))) : Nat) = (Int.toNat (wr_i64 ((a1.length : Int) - 14))))) <| pc (sl_ob h9) <| pc (cp_ob (e := 5) (n := (Int.toNat (wr_i64 ((a1.length : Int) - 14)))) (l := List.replicate (Int.toNat (wr_i64 ((a1.length : Int) - 14))) (0 : Int)) (l2 := List.drop (Int.toNat 14) (List.take (Int.toNat ((List.length a1) : Int)) a1)) (a := 0) (b := (List.length (List.replicate (Int.toNat (wr_i64 ((a1.length : Int) - 14))) (0 : Int))))) <| pc (ob5 h11) <| pc ((show (0 : Int) ≤ 8 from by decide)) <| pc (ob5 h13) <| pn)
        · cases h
      · cases h

theorem k_slices_Clone_byte {a1 : List Int} {r : List Int} (h : slices_Clone_byte a1 = some r) :
    CallsOK Try.prog UU 73 [.sl 5 a1] [] (.os 0 (List.length r)) [.arr 5 r (List.length r) false] := by
  unfold slices_Clone_byte at h
  rcases ite_out h with ⟨h1, h⟩ | ⟨h1, h⟩
  · injection h with h; subst h
    refine sn_split ?_ (fun e => ?_)
    · exact runFn_sound mixedOrders Try.func73 rfl (keep := some [1]) (π := [.obj [] (.n 5), .obj [] (.arr 5 a1 (List.length a1) false)]) (hrun := by kernel_rfl) (hps := pc (bs_ob 5 []) <| pc (app_ob 5 (n := 0) (l := []) (xs := a1) h1) <| pn)
    · subst e; exact runFn_sound mixedOrders Try.func73 rfl (keep := some [1]) (π := []) (hrun := by kernel_rfl) (hps := pn)
  · cases h

theorem k_tag_Strip {a1 : Api_Frame} {r : ((List Int) × Int × Int × Int × Int × Int × Int)} (h : tag_Strip a1 = some r) :
    CallsOK Try.prog UU 135 [.agg (c37 a1)] [] ((fun r => match r with | (l20, v21, v22, v23, v24, v25, v26) => .tup [.agg [.v (.int .u64 v21), .v (.int .u64 v22), .v (.int .i64 v23), .os 0 (List.length l20)], .v (.int .i64 v24), .v (.int .i64 v25), .v (.int .i64 v26)]) r) ((fun r => match r with | (l20, v21, v22, v23, v24, v25, v26) => [.arr 5 l20 (List.length l20) false]) r) := by
  unfold tag_Strip at h
  obtain ⟨r2, h3, h⟩ := bind_out h
  rcases ite_out h with ⟨h4, h⟩ | ⟨h4, h⟩
  · injection h with h; subst h; exact runFn_sound mixedOrders Try.func135 rfl (keep := some [1]) (π := [.callv (.v (.bool r2)), .dec true]) (hrun := by kernel_rfl) (hps := pc (k_tag_Is h3) <| pc (h4) <| pn)
  · rcases ite_out h with ⟨h5, h⟩ | ⟨h5, h⟩
    · injection h with h; subst h; exact runFn_sound mixedOrders Try.func135 rfl (keep := some [1]) (π := [.callv (.v (.bool r2)), .dec false, .dec true]) (hrun := by kernel_rfl) (hps := pc (k_tag_Is h3) <| pc (h4) <| pc (h5) <| pn)
    · obtain ⟨x6, h7, h⟩ := bind_out h
      obtain ⟨x8, h9, h⟩ := bind_out h
      obtain ⟨x10, h11, h⟩ := bind_out h
      obtain ⟨x12, h13, h⟩ := bind_out h
      rcases ite_out h with ⟨h14, h⟩ | ⟨h14, h⟩
      · injection h with h; subst h; exact runFn_sound mixedOrders Try.func135 rfl (keep := some [1]) (π := [.callv (.v (.bool r2)), .dec false, .dec false, .row (c5 x6), .row (c5 x8), .row (c5 x10), .row (c5 x12), .dec true]) (hrun := by kernel_rfl) (hps := pc (k_tag_Is h3) <| pc (h4) <| pc (h5) <| pc (ob5 h7) <| pc ((show (0 : Int) ≤ 8 from by decide)) <| pc (ob5 h9) <| pc (ob5 h11) <| pc ((show (0 : Int) ≤ 8 from by decide)) <| pc (ob5 h13) <| pc ((show (0 : Int) ≤ 12 from by decide)) <| pc (h14) <| pn)
      · rcases ite_out h with ⟨h15, h⟩ | ⟨h15, h⟩
        · injection h with h; subst h; exact runFn_sound mixedOrders Try.func135 rfl (keep := some [1]) (π := [.callv (.v (.bool r2)), .dec false, .dec false, .row (c5 x6), .row (c5 x8), .row (c5 x10), .row (c5 x12), .dec false, .dec true]) (hrun := by kernel_rfl) (hps := pc (k_tag_Is h3) <| pc (h4) <| pc (h5) <| pc (ob5 h7) <| pc ((show (0 : Int) ≤ 8 from by decide)) <| pc (ob5 h9) <| pc (ob5 h11) <| pc ((show (0 : Int) ≤ 8 from by decide)) <| pc (ob5 h13) <| pc ((show (0 : Int) ≤ 12 from by decide)) <| pc (h14) <| pc (h15) <| pn)
        · rcases ite_out h with ⟨h16, h⟩ | ⟨h16, h⟩
          · obtain ⟨l19, h18, h⟩ := bind_out h
            injection h with h; subst h; exact runFn_sound mixedOrders Try.func135 rfl (keep := some [3]) (π := [.callv (.v (.bool r2)), .dec false, .dec false, .row (c5 x6), .row (c5 x8), .row (c5 x10), .row (c5 x12), .dec false, .dec false, .sum [8] [] .nor [] [.box 37 (c37 a1) false, .n 5, .box 37 [.v (.int .u64 0), .v (.int .u64 0), .z, .os 1 0] false, .arr 5 l19 (List.length l19) false], .sum [12] [] .nor [] [.box 37 (c37 a1) false, .n 5, .box 37 [.v (.int .u64 a1.dst), .v (.int .u64 a1.src), .v (.int .i64 (bits_or .i64 (wr_i64 ((wr_i64 x10) * 2 ^ 8)) (wr_i64 x12))), .os 3 (List.length l19)] false, .arr 5 l19 (List.length l19) false], .callo (.os 0 (List.length l19)) [.arr 5 l19 (List.length l19) false]]) (hrun := by kernel_rfl) (hps := pc (k_tag_Is h3) <| pc (h4) <| pc (h5) <| pc (ob5 h7) <| pc ((show (0 : Int) ≤ 8 from by decide)) <| pc (ob5 h9) <| pc (ob5 h11) <| pc ((show (0 : Int) ≤ 8 from by decide)) <| pc (ob5 h13) <| pc ((show (0 : Int) ≤ 12 from by decide)) <| pc (h14) <| pc (h15) <| pc ((rfl : (.op 0 1 0 0 : AV DD) = .op 0 1 0 0)) <| pc ((rfl : (.v (.int .u64 a1.dst) : AV DD) = .v (.int .u64 a1.dst))) <| pc ((rfl : (.op 0 1 0 1 : AV DD) = .op 0 1 0 1)) <| pc ((rfl : (.v (.int .u64 a1.src) : AV DD) = .v (.int .u64 a1.src))) <| pc ((rfl : (.v (.int .i64 (bits_or .i64 (wr_i64 ((wr_i64 x10) * 2 ^ 8)) (wr_i64 x12))) : AV DD) = .v (.int .i64 (bits_or .i64 (wr_i64 ((wr_i64 x10) * 2 ^ 8)) (wr_i64 x12))))) <| pc (sl_ob h16) <| pc ((rfl : ([.box 37 (c37 a1) false, .n 5, .box 37 [.v (.int .u64 0), .v (.int .u64 0), .z, .os 1 0] false, .arr 5 l19 (List.length l19) false] : Heap DD) = [.box 37 (c37 a1) false, .n 5, .box 37 [.v (.int .u64 0), .v (.int .u64 0), .z, .os 1 0] false, .arr 5 l19 (List.length l19) false])) <| pc (k_slices_Clone_byte h18) <| pc (im5 l19) <| pc ((rfl : (.v (.int .i64 (bits_and .i64 (bits_or .i64 (wr_i64 ((wr_i64 x6) * 2 ^ 8)) (wr_i64 x8)) 4095)) : AV DD) = .v (.int .i64 (bits_and .i64 (bits_or .i64 (wr_i64 ((wr_i64 x6) * 2 ^ 8)) (wr_i64 x8)) 4095)))) <| pc ((rfl : (.v (.int .i64 (bits_and .i64 (bits_or .i64 (wr_i64 ((wr_i64 x6) * 2 ^ 8)) (wr_i64 x8)) 4095)) : AV DD) = .v (.int .i64 (bits_and .i64 (bits_or .i64 (wr_i64 ((wr_i64 x6) * 2 ^ 8)) (wr_i64 x8)) 4095)))) <| pc ((rfl : (.v (.int .i64 (Int.fdiv (bits_or .i64 (wr_i64 ((wr_i64 x6) * 2 ^ 8)) (wr_i64 x8)) (2 ^ 12))) : AV DD) = .v (.int .i64 (Int.fdiv (bits_or .i64 (wr_i64 ((wr_i64 x6) * 2 ^ 8)) (wr_i64 x8)) (2 ^ 12))))) <| pc ((rfl : (.v (.int .i64 (Int.fdiv (bits_or .i64 (wr_i64 ((wr_i64 x6) * 2 ^ 8)) (wr_i64 x8)) (2 ^ 12))) : AV DD) = .v (.int .i64 (Int.fdiv (bits_or .i64 (wr_i64 ((wr_i64 x6) * 2 ^ 8)) (wr_i64 x8)) (2 ^ 12))))) <| pc ((rfl : ([.box 37 (c37 a1) false, .n 5, .box 37 [.v (.int .u64 a1.dst), .v (.int .u64 a1.src), .v (.int .i64 (bits_or .i64 (wr_i64 ((wr_i64 x10) * 2 ^ 8)) (wr_i64 x12))), .os 3 (List.length l19)] false, .arr 5 l19 (List.length l19) false] : Heap DD) = [.box 37 (c37 a1) false, .n 5, .box 37 [.v (.int .u64 a1.dst), .v (.int .u64 a1.src), .v (.int .i64 (bits_or .i64 (wr_i64 ((wr_i64 x10) * 2 ^ 8)) (wr_i64 x12))), .os 3 (List.length l19)] false, .arr 5 l19 (List.length l19) false])) <| pn)
          · cases h

theorem k_mac_Group {a1 : Int} {r : Bool} (h : mac_Group a1 = some r) :
    CallsOK Try.prog UU 40 [.v (.int .u64 a1)] [] (.v (.bool r)) [] := by
  unfold mac_Group at h
  injection h with h; subst h; exact runFn_sound mixedOrders Try.func40 rfl (keep := none) (π := []) (hrun := by kernel_rfl) (hps := pn)

theorem k_enter_Vlan {a1 : Api_Port} {a2 : Bool} {a3 : Int} {r : Int × Bool} (h : enter_Vlan a1 a2 a3 = some r) :
    CallsOK Try.prog UU 136 [.agg (c96 a1), .v (.bool a2), .v (.int .i64 a3)] [] (.tup [.v (.int .i64 r.1), .v (.bool r.2)]) [] := by
  unfold enter_Vlan at h
  rcases ite_out h with ⟨h4, h⟩ | ⟨h4, h⟩
  · injection h with h; subst h; exact runFn_sound mixedOrders Try.func136 rfl (keep := none) (π := [.dec true]) (hrun := by kernel_rfl) (hps := pc (h4) <| pn)
  · rcases ite_out h with ⟨h5, h⟩ | ⟨h5, h⟩
    · injection h with h; subst h; exact runFn_sound mixedOrders Try.func136 rfl (keep := none) (π := [.dec false, .dec true]) (hrun := by kernel_rfl) (hps := pc (h4) <| pc (h5) <| pn)
    · obtain ⟨r6, h7, h⟩ := bind_out h
      rcases ite_out h with ⟨h8, h⟩ | ⟨h8, h⟩
      · injection h with h; subst h; exact runFn_sound mixedOrders Try.func136 rfl (keep := none) (π := [.dec false, .dec false, .callv (.v (.bool r6)), .dec true]) (hrun := by kernel_rfl) (hps := pc (h4) <| pc (h5) <| pc (k_slices_Contains_int h7) <| pc (h8) <| pn)
      · injection h with h; subst h; exact runFn_sound mixedOrders Try.func136 rfl (keep := none) (π := [.dec false, .dec false, .callv (.v (.bool r6)), .dec false]) (hrun := by kernel_rfl) (hps := pc (h4) <| pc (h5) <| pc (k_slices_Contains_int h7) <| pc (h8) <| pn)

theorem k_names_Domain_1 {a1 : Api_Domain} {a2 : Int} {a3 : Int} {r : Bool} (h : names_Domain_1 a1 a2 a3 = some r) :
    CallsOK Try.prog UU 142 [.agg (c85 a1), .rp (c3 a2) 0, .rp (c3 a3) 0] [] (.v (.bool r)) [] := by
  unfold names_Domain_1 at h
  rcases ite_out h with ⟨h4, h⟩ | ⟨h4, h⟩
  · injection h with h; subst h; exact runFn_sound mixedOrders Try.func142 rfl (keep := none) (π := [.dec true]) (hrun := by kernel_rfl) (hps := pc (h4) <| pn)
  · injection h with h; subst h; exact runFn_sound mixedOrders Try.func142 rfl (keep := none) (π := [.dec false]) (hrun := by kernel_rfl) (hps := pc (h4) <| pn)

theorem k_slices_IndexFunc_Domain_Domain_1_L1 {a1 : List Api_Domain} {a2 : Int} {a3 : Int} : LoopOK Try.prog UU 0 19 (subC (codeOf Try.f145) [1, 0, 1, 0, 0]) (ρ := Int ⊕ Unit) (slices_IndexFunc_Domain_Domain_1_L1 a1 a2 a3)
    (fun v4 : Int => ([(0, .sl 85 a1), (1, .fn (.func 142) [] [.rp (c3 a2) 0, .rp (c3 a3) 0]), (4, .z), (7, .v (.int .i64 (a1.length : Int))), (8, .v (.int .i64 v4))] : Fr DD)) (fun v4 : Int => ([] : Heap DD)) (fun r => match r with | Sum.inl v12 => .ret | Sum.inr _ => .exit 0) (fun r => match r with | Sum.inl v12 => [(4, .v (.int .i64 v12))] | Sum.inr _ => [(4, .z)]) (fun r => match r with | Sum.inl v12 => [] | Sum.inr _ => []) := by
  refine loop_sound3 (fun s q h => ?_) (fun r => ?_)
  · replace h : slices_IndexFunc_Domain_Domain_1_L1 a1 a2 a3 s = some q := h; revert h; revert s; intro v4 h
    unfold slices_IndexFunc_Domain_Domain_1_L1 at h
    rcases ite_out h with ⟨h5, h⟩ | ⟨h5, h⟩
    · obtain ⟨x6, h7, h⟩ := bind_out h
      obtain ⟨r8, h9, h⟩ := bind_out h
      rcases ite_out h with ⟨h10, h⟩ | ⟨h10, h⟩
      · injection h with h; subst h; exact runLp_sound mixedOrders (live := [4]) (ids := []) (π := [.dec true, .row (c85 x6), .callv (.v (.bool r8)), .dec true]) (hx := by kernel_rfl) (hps := pc (h5) <| pc (ob85 h7) <| pc (k_names_Domain_1 h9) <| pc (h10) <| pn)
      · injection h with h; subst h; exact runLp_sound mixedOrders (live := [0, 1, 4, 7, 8]) (ids := []) (π := [.dec true, .row (c85 x6), .callv (.v (.bool r8)), .dec false]) (hx := by kernel_rfl) (hps := pc (h5) <| pc (ob85 h7) <| pc (k_names_Domain_1 h9) <| pc (h10) <| pn)
    · injection h with h; subst h; exact runLp_sound mixedOrders (live := [4]) (ids := []) (π := [.dec false]) (hx := by kernel_rfl) (hps := pc (h5) <| pn)
  · rcases r with _ | _ <;> exact Ex.noConfusion

theorem k_slices_IndexFunc_Domain_Domain_1 {a1 : List Api_Domain} {a2 : Int} {a3 : Int} {r : Int} (h : slices_IndexFunc_Domain_Domain_1 a1 a2 a3 = some r) :
    CallsOK Try.prog UU 145 [.sl 85 a1, .fn (.func 142) [] [.rp (c3 a2) 0, .rp (c3 a3) 0]] [] (.v (.int .i64 r)) [] := by
  unfold slices_IndexFunc_Domain_Domain_1 at h
  obtain ⟨r14, h13, h⟩ := bind_out h
  rcases r14 with v12 | _
  · injection h with h; subst h; exact runFn_sound mixedOrders Try.func145 rfl (keep := none) (π := [.sum [0, 1, 4, 7, 8] [] .ret [(4, .v (.int .i64 v12))] []]) (hrun := by kernel_rfl) (hps := pc (k_slices_IndexFunc_Domain_Domain_1_L1 _ _ h13) <| pn)
  · injection h with h; subst h; exact runFn_sound mixedOrders Try.func145 rfl (keep := none) (π := [.sum [0, 1, 4, 7, 8] [] (.exit 0) [(4, .z)] []]) (hrun := by kernel_rfl) (hps := pc (k_slices_IndexFunc_Domain_Domain_1_L1 _ _ h13) <| pn)

theorem k_names_find_Domain_Domain_1 {a1 : Api_Net} {a2 : List Api_Domain} {a3 : Int} {a4 : Int} {r : Int} (h : names_find_Domain_Domain_1 a1 a2 a3 a4 = some r) :
    CallsOK Try.prog UU 141 [.agg (c61 a1), .sl 85 a2, .fn (.func 142) [] [.rp (c3 a3) 0, .rp (c3 a4) 0]] [] (.v (.int .i64 r)) [] := by
  unfold names_find_Domain_Domain_1 at h
  obtain ⟨r5, h6, h⟩ := bind_out h
  rcases ite_out h with ⟨h7, h⟩ | ⟨h7, h⟩
  · injection h with h; subst h; exact runFn_sound mixedOrders Try.func141 rfl (keep := none) (π := [.callv (.v (.bool r5)), .dec true]) (hrun := by kernel_rfl) (hps := pc (k_names_Right h6) <| pc (h7) <| pn)
  · obtain ⟨r8, h9, h⟩ := bind_out h
    injection h with h; subst h; exact runFn_sound mixedOrders Try.func141 rfl (keep := none) (π := [.callv (.v (.bool r5)), .dec false, .callv (.v (.int .i64 r8))]) (hrun := by kernel_rfl) (hps := pc (k_names_Right h6) <| pc (h7) <| pc (k_slices_IndexFunc_Domain_Domain_1 h9) <| pn)

theorem k_names_Domain {a1 : Api_Net} {a2 : Int} {a3 : Int} {r : Int} (h : names_Domain a1 a2 a3 = some r) :
    CallsOK Try.prog UU 87 [.agg (c61 a1), .v (.int .i64 a2), .v (.int .i64 a3)] [] (.v (.int .i64 r)) [] := by
  unfold names_Domain at h
  obtain ⟨r4, h5, h⟩ := bind_out h
  injection h with h; subst h; exact runFn_sound mixedOrders Try.func87 rfl (keep := none) (π := [.callv (.v (.int .i64 r4))]) (hrun := by kernel_rfl) (hps := pc (k_names_find_Domain_Domain_1 h5) <| pn)

theorem k_enter_At_J1 {a1 : Api_Net} {a2 : Int} {l11 : List Int} {n12 : Nat} {v13 : Int} {v14 : Int} {v15 : Int} {v16 : Int} {r17 : Bool} {r : ((List Int) × Int × Int × Int × Nat × Int × Int)} (h : enter_At_J1 a1 a2 l11 n12 v13 v14 v15 v16 r17 = some r) :
    ExecOK Try.prog UU 0 83 (subC (codeOf Try.f83) [1, 1, 1, 1, 0]) [(1, .v (.int .i64 a2)), (3, .op 0 1 0 0), (6, .z), (7, .op 1 1 0 0), (8, .v (.int .i64 v16)), (9, .v (.bool r17)), (10, .z)] [.box 61 (c61 a1) false, .box 37 [.v (.int .u64 v13), .v (.int .u64 v14), .v (.int .i64 v15), .os 2 n12] false, .arr 5 l11 n12 false] ((fun r => match r with | (l67, v68, v69, v70, n71, v72, v73) => .nor) r) ((fun r => match r with | (l67, v68, v69, v70, n71, v72, v73) => [(1, .v (.int .i64 a2)), (3, .op 0 1 0 0), (6, .z), (7, .op 1 1 0 0), (8, .v (.int .i64 v72)), (9, .v (.bool r17)), (10, .v (.int .i64 v73))]) r) ((fun r => match r with | (l67, v68, v69, v70, n71, v72, v73) => [.box 61 (c61 a1) false, .box 37 [.v (.int .u64 v68), .v (.int .u64 v69), .v (.int .i64 v70), .os 2 n71] false, .arr 5 l67 n71 false]) r) := by
  unfold enter_At_J1 at h
  rcases ite_out h with ⟨h19, h⟩ | ⟨h19, h⟩
  · rcases ite_out h with ⟨h20, h⟩ | ⟨h20, h⟩
    · obtain ⟨r21, h22, h⟩ := bind_out h
      obtain ⟨l23, v24, v25, v26, v27, v28, v29⟩ := r21
      injection h with h; subst h; exact runLp_sound mixedOrders (live := [1, 3, 6, 7, 8, 9, 10]) (ids := [0, 1, 3]) (π := [.dec true, .dec true, .callo (.tup [.agg [.v (.int .u64 v24), .v (.int .u64 v25), .v (.int .i64 v26), .os 0 (List.length l23)], .v (.int .i64 v27), .v (.int .i64 v28), .v (.int .i64 v29)]) [.arr 5 l23 (List.length l23) false]]) (hx := by kernel_rfl) (hps := pc (h19) <| pc (h20) <| pc (k_tag_Strip h22) <| pc (im5 l23) <| pc ((rfl : (n12 : Nat) = n12)) <| pn)
    · injection h with h; subst h; exact runLp_sound mixedOrders (live := [1, 3, 6, 7, 8, 9, 10]) (ids := [0, 1, 2]) (π := [.dec true, .dec false]) (hx := by kernel_rfl) (hps := pc (h19) <| pc (h20) <| pn)
  · injection h with h; subst h; exact runLp_sound mixedOrders (live := [1, 3, 6, 7, 8, 9, 10]) (ids := [0, 1, 2]) (π := [.dec false]) (hx := by kernel_rfl) (hps := pc (h19) <| pn)

theorem k_enter_At_J2 {a1 : Api_Net} {a2 : Int} {r17 : Bool} {l67 : List Int} {v68 : Int} {v69 : Int} {v70 : Int} {n71 : Nat} {v72 : Int} {v73 : Int} {r : Int} (h : enter_At_J2 a1 a2 r17 l67 v68 v69 v70 n71 v72 v73 = some r) :
    ExecOK Try.prog UU 0 83 (subC (codeOf Try.f83) [1, 1, 1, 1, 1, 0]) [(1, .v (.int .i64 a2)), (3, .op 0 1 0 0), (6, .z), (7, .op 1 1 0 0), (8, .v (.int .i64 v72)), (9, .v (.bool r17)), (10, .v (.int .i64 v73))] [.box 61 (c61 a1) false, .box 37 [.v (.int .u64 v68), .v (.int .u64 v69), .v (.int .i64 v70), .os 2 n71] false, .arr 5 l67 n71 false] ((fun r => match r with | v81 => .nor) r) ((fun r => match r with | v81 => [(1, .v (.int .i64 a2)), (3, .op 0 1 0 0), (6, .z), (7, .op 1 1 0 0), (8, .v (.int .i64 v81)), (9, .v (.bool r17)), (10, .v (.int .i64 v73))]) r) ((fun r => match r with | v81 => [.box 61 (c61 a1) false, .box 37 [.v (.int .u64 v68), .v (.int .u64 v69), .v (.int .i64 v70), .os 2 n71] false, .arr 5 l67 n71 false]) r) := by
  unfold enter_At_J2 at h
  rcases ite_out h with ⟨h76, h⟩ | ⟨h76, h⟩
  · obtain ⟨r77, h78, h⟩ := bind_out h
    rcases ite_out h with ⟨h79, h⟩ | ⟨h79, h⟩
    · injection h with h; subst h; exact runLp_sound mixedOrders (live := [1, 3, 6, 7, 8, 9, 10]) (ids := [0, 1, 2]) (π := [.dec true, .callv (.v (.bool r77)), .dec true]) (hx := by kernel_rfl) (hps := pc (h76) <| pc (k_mac_Group h78) <| pc (h79) <| pn)
    · injection h with h; subst h; exact runLp_sound mixedOrders (live := [1, 3, 6, 7, 8, 9, 10]) (ids := [0, 1, 2]) (π := [.dec true, .callv (.v (.bool r77)), .dec false]) (hx := by kernel_rfl) (hps := pc (h76) <| pc (k_mac_Group h78) <| pc (h79) <| pn)
  · injection h with h; subst h; exact runLp_sound mixedOrders (live := [1, 3, 6, 7, 8, 9, 10]) (ids := [0, 1, 2]) (π := [.dec false]) (hx := by kernel_rfl) (hps := pc (h76) <| pn)

theorem k_enter_At_J3 {a1 : Api_Net} {l67 : List Int} {v68 : Int} {v69 : Int} {v70 : Int} {n71 : Nat} {v81 : Int} {x84 : Api_Port} {r86 : Int × Bool} {r : Int} (h : enter_At_J3 a1 l67 v68 v69 v70 n71 v81 x84 r86 = some r) :
    ExecOK Try.prog UU 0 83 (subC (codeOf Try.f83) [1, 1, 1, 1, 1, 1, 1, 1, 0]) [(3, .op 0 1 0 0), (6, .z), (7, .op 1 1 0 0), (8, .v (.int .i64 v81)), (11, .op 3 1 0 0), (12, .v (.int .i64 r86.1)), (13, .v (.bool r86.2))] [.box 61 (c61 a1) false, .box 37 [.v (.int .u64 v68), .v (.int .u64 v69), .v (.int .i64 v70), .os 2 n71] false, .arr 5 l67 n71 false, .box 96 (c96 x84) false] ((fun r => match r with | v91 => .nor) r) ((fun r => match r with | v91 => [(3, .op 0 1 0 0), (6, .z), (7, .op 1 1 0 0), (8, .v (.int .i64 v91)), (11, .op 3 1 0 0), (12, .v (.int .i64 r86.1))]) r) ((fun r => match r with | v91 => [.box 61 (c61 a1) false, .box 37 [.v (.int .u64 v68), .v (.int .u64 v69), .v (.int .i64 v70), .os 2 n71] false, .arr 5 l67 n71 false, .box 96 (c96 x84) false]) r) := by
  unfold enter_At_J3 at h
  rcases ite_out h with ⟨h88, h⟩ | ⟨h88, h⟩
  · rcases ite_out h with ⟨h89, h⟩ | ⟨h89, h⟩
    · injection h with h; subst h; exact runLp_sound mixedOrders (live := [3, 6, 7, 8, 11, 12]) (ids := [0, 1, 2, 3]) (π := [.dec true, .dec true]) (hx := by kernel_rfl) (hps := pc (h88) <| pc (h89) <| pn)
    · injection h with h; subst h; exact runLp_sound mixedOrders (live := [3, 6, 7, 8, 11, 12]) (ids := [0, 1, 2, 3]) (π := [.dec true, .dec false]) (hx := by kernel_rfl) (hps := pc (h88) <| pc (h89) <| pn)
  · injection h with h; subst h; exact runLp_sound mixedOrders (live := [3, 6, 7, 8, 11, 12]) (ids := [0, 1, 2, 3]) (π := [.dec false]) (hx := by kernel_rfl) (hps := pc (h88) <| pn)

theorem k_enter_At {a1 : Api_Net} {a2 : Int} {a3 : List Int} {r : ((List Int) × Nat × Int × Int × Int × Int × Int)} (h : enter_At a1 a2 a3 = some r) :
    CallsOK Try.prog UU 83 [.agg (c61 a1), .v (.int .i64 a2), .sl 5 a3] [] ((fun r => match r with | (l97, n98, v99, v100, v101, v102, v103) => .tup [.v (.int .i64 v99), .agg [.v (.int .u64 v100), .v (.int .u64 v101), .v (.int .i64 v102), .os 0 n98], .v (.int .i64 v103)]) r) ((fun r => match r with | (l97, n98, v99, v100, v101, v102, v103) => [.arr 5 l97 n98 false]) r) := by
  unfold enter_At at h
  rcases ite_out h with ⟨h4, h⟩ | ⟨h4, h⟩
  · injection h with h; subst h; exact runFn_sound mixedOrders Try.func83 rfl (keep := some [3]) (π := [.dec true]) (hrun := by kernel_rfl) (hps := pc (h4) <| pn)
  · rcases ite_out h with ⟨h5, h⟩ | ⟨h5, h⟩
    · injection h with h; subst h; exact runFn_sound mixedOrders Try.func83 rfl (keep := some [3]) (π := [.dec false, .dec true]) (hrun := by kernel_rfl) (hps := pc (h4) <| pc (h5) <| pn)
    · obtain ⟨r6, h7, h⟩ := bind_out h
      rcases ite_out h with ⟨h8, h⟩ | ⟨h8, h⟩
      · injection h with h; subst h; exact runFn_sound mixedOrders Try.func83 rfl (keep := some [3]) (π := [.dec false, .dec false, .callv (.v (.bool r6)), .dec true]) (hrun := by kernel_rfl) (hps := pc (h4) <| pc (h5) <| pc (k_names_Right h7) <| pc (h8) <| pn)
      · obtain ⟨r9, h10, h⟩ := bind_out h
        obtain ⟨l11, n12, v13, v14, v15, v16⟩ := r9
        obtain ⟨r17, h18, h⟩ := bind_out h
        obtain ⟨r75, h74, h⟩ := bind_out h
        obtain ⟨l67, v68, v69, v70, n71, v72, v73⟩ := r75
        obtain ⟨v81, h82, h⟩ := bind_out h
        obtain ⟨x84, h85, h⟩ := bind_out h
        obtain ⟨r86, h87, h⟩ := bind_out h
        obtain ⟨v91, h92, h⟩ := bind_out h
        rcases ite_out h with ⟨h94, h⟩ | ⟨h94, h⟩
        · injection h with h; subst h; exact runFn_sound mixedOrders Try.func83 rfl (keep := some [4]) (π := [.dec false, .dec false, .callv (.v (.bool r6)), .dec false, .callo (.tup [.agg [.v (.int .u64 v13), .v (.int .u64 v14), .v (.int .i64 v15), .os 0 n12], .v (.int .i64 v16)]) [.arr 5 l11 n12 false], .callv (.v (.bool r17)), .cut [1, 3, 6, 7, 8, 9, 10] [0, 2, 3] .nor [(1, .v (.int .i64 a2)), (3, .op 0 1 0 0), (6, .z), (7, .op 1 1 0 0), (8, .v (.int .i64 v72)), (9, .v (.bool r17)), (10, .v (.int .i64 v73))] [.box 61 (c61 a1) false, .box 37 [.v (.int .u64 v68), .v (.int .u64 v69), .v (.int .i64 v70), .os 2 n71] false, .arr 5 l67 n71 false], .cut [1, 3, 6, 7, 8, 9, 10] [0, 1, 2] .nor [(1, .v (.int .i64 a2)), (3, .op 0 1 0 0), (6, .z), (7, .op 1 1 0 0), (8, .v (.int .i64 v81)), (9, .v (.bool r17)), (10, .v (.int .i64 v73))] [.box 61 (c61 a1) false, .box 37 [.v (.int .u64 v68), .v (.int .u64 v69), .v (.int .i64 v70), .os 2 n71] false, .arr 5 l67 n71 false], .row (c96 x84), .callv (.tup [.v (.int .i64 r86.1), .v (.bool r86.2)]), .cut [3, 6, 7, 8, 11, 12, 13] [0, 1, 2, 4] .nor [(3, .op 0 1 0 0), (6, .z), (7, .op 1 1 0 0), (8, .v (.int .i64 v91)), (11, .op 3 1 0 0), (12, .v (.int .i64 r86.1))] [.box 61 (c61 a1) false, .box 37 [.v (.int .u64 v68), .v (.int .u64 v69), .v (.int .i64 v70), .os 2 n71] false, .arr 5 l67 n71 false, .box 96 (c96 x84) false], .dec true]) (hrun := by kernel_rfl) (hps := pc (h4) <| pc (h5) <| pc (k_names_Right h7) <| pc (h8) <| pc (k_ether_Take h10) <| pc (im5 l11) <| pc (k_tag_Is h18) <| pc ((rfl : (n12 : Nat) = n12)) <| pc (k_enter_At_J1 h74) <| pc (k_enter_At_J2 h82) <| pc (ob96 h85) <| pc (k_enter_Vlan h87) <| pc (k_enter_At_J3 h92) <| pc (h94) <| pn)
        · obtain ⟨r95, h96, h⟩ := bind_out h
          injection h with h; subst h; exact runFn_sound mixedOrders Try.func83 rfl (keep := some [2]) (π := [.dec false, .dec false, .callv (.v (.bool r6)), .dec false, .callo (.tup [.agg [.v (.int .u64 v13), .v (.int .u64 v14), .v (.int .i64 v15), .os 0 n12], .v (.int .i64 v16)]) [.arr 5 l11 n12 false], .callv (.v (.bool r17)), .cut [1, 3, 6, 7, 8, 9, 10] [0, 2, 3] .nor [(1, .v (.int .i64 a2)), (3, .op 0 1 0 0), (6, .z), (7, .op 1 1 0 0), (8, .v (.int .i64 v72)), (9, .v (.bool r17)), (10, .v (.int .i64 v73))] [.box 61 (c61 a1) false, .box 37 [.v (.int .u64 v68), .v (.int .u64 v69), .v (.int .i64 v70), .os 2 n71] false, .arr 5 l67 n71 false], .cut [1, 3, 6, 7, 8, 9, 10] [0, 1, 2] .nor [(1, .v (.int .i64 a2)), (3, .op 0 1 0 0), (6, .z), (7, .op 1 1 0 0), (8, .v (.int .i64 v81)), (9, .v (.bool r17)), (10, .v (.int .i64 v73))] [.box 61 (c61 a1) false, .box 37 [.v (.int .u64 v68), .v (.int .u64 v69), .v (.int .i64 v70), .os 2 n71] false, .arr 5 l67 n71 false], .row (c96 x84), .callv (.tup [.v (.int .i64 r86.1), .v (.bool r86.2)]), .cut [3, 6, 7, 8, 11, 12, 13] [0, 1, 2, 4] .nor [(3, .op 0 1 0 0), (6, .z), (7, .op 1 1 0 0), (8, .v (.int .i64 v91)), (11, .op 3 1 0 0), (12, .v (.int .i64 r86.1))] [.box 61 (c61 a1) false, .box 37 [.v (.int .u64 v68), .v (.int .u64 v69), .v (.int .i64 v70), .os 2 n71] false, .arr 5 l67 n71 false, .box 96 (c96 x84) false], .dec false, .callv (.v (.int .i64 r95))]) (hrun := by kernel_rfl) (hps := pc (h4) <| pc (h5) <| pc (k_names_Right h7) <| pc (h8) <| pc (k_ether_Take h10) <| pc (im5 l11) <| pc (k_tag_Is h18) <| pc ((rfl : (n12 : Nat) = n12)) <| pc (k_enter_At_J1 h74) <| pc (k_enter_At_J2 h82) <| pc (ob96 h85) <| pc (k_enter_Vlan h87) <| pc (k_enter_At_J3 h92) <| pc (h94) <| pc (k_names_Domain h96) <| pn)

theorem k_leave_Link {a1 : Api_Net} {a2 : Int} {a3 : List Int} {r : ((List Int) × Nat × Int × Int × Int × Int × Int × Int)} (h : leave_Link a1 a2 a3 = some r) :
    CallsOK Try.prog UU 38 [.agg (c61 a1), .v (.int .i64 a2), .sl 5 a3] [] ((fun r => match r with | (l16, n17, v18, v19, v20, v21, v22, v23) => .tup [.v (.int .i64 v18), .v (.int .i64 v19), .agg [.v (.int .u64 v20), .v (.int .u64 v21), .v (.int .i64 v22), .os 0 n17], .v (.int .i64 v23)]) r) ((fun r => match r with | (l16, n17, v18, v19, v20, v21, v22, v23) => [.arr 5 l16 n17 false]) r) := by
  unfold leave_Link at h
  obtain ⟨r4, h5, h⟩ := bind_out h
  rcases ite_out h with ⟨h6, h⟩ | ⟨h6, h⟩
  · injection h with h; subst h; exact runFn_sound mixedOrders Try.func38 rfl (keep := some [3]) (π := [.callv (.v (.int .i64 r4)), .dec true]) (hrun := by kernel_rfl) (hps := pc (k_links_Other h5) <| pc (h6) <| pn)
  · obtain ⟨r7, h8, h⟩ := bind_out h
    obtain ⟨l9, n10, v11, v12, v13, v14, v15⟩ := r7
    injection h with h; subst h; exact runFn_sound mixedOrders Try.func38 rfl (keep := some [3]) (π := [.callv (.v (.int .i64 r4)), .dec false, .callo (.tup [.v (.int .i64 v11), .agg [.v (.int .u64 v12), .v (.int .u64 v13), .v (.int .i64 v14), .os 0 n10], .v (.int .i64 v15)]) [.arr 5 l9 n10 false], .sum [6] [] .nor [] [.box 61 (c61 a1) false, .n 5, .box 37 [.v (.int .u64 v12), .v (.int .u64 v13), .v (.int .i64 v14), .os 3 n10] false, .arr 5 l9 n10 false]]) (hrun := by kernel_rfl) (hps := pc (k_links_Other h5) <| pc (h6) <| pc (k_enter_At h8) <| pc (im5 l9) <| pc ((rfl : (.v (.int .i64 v15) : AV DD) = .v (.int .i64 v15))) <| pc ((rfl : ([.box 61 (c61 a1) false, .n 5, .box 37 [.v (.int .u64 v12), .v (.int .u64 v13), .v (.int .i64 v14), .os 3 n10] false, .arr 5 l9 n10 false] : Heap DD) = [.box 61 (c61 a1) false, .n 5, .box 37 [.v (.int .u64 v12), .v (.int .u64 v13), .v (.int .i64 v14), .os 3 n10] false, .arr 5 l9 n10 false])) <| pn)

theorem k_palingref17_Other_L1 {a1 : Api_Net} {a2 : Int} : LoopOK Try.prog UU 0 41 (subC (codeOf Try.f84) [1, 0, 1, 0, 0]) (ρ := Int ⊕ Unit) (palingref17_Other_L1 a1 a2)
    (fun v3 : Int => ([(1, .v (.int .i64 a2)), (2, .op 0 1 0 0), (4, .z), (5, .v (.int .i64 v3))] : Fr DD)) (fun v3 : Int => ([.box 61 (c61 a1) false] : Heap DD)) (fun r => match r with | Sum.inl v16 => .ret | Sum.inr _ => .exit 0) (fun r => match r with | Sum.inl v16 => [(4, .v (.int .i64 v16))] | Sum.inr _ => [(4, .z)]) (fun r => match r with | Sum.inl v16 => [] | Sum.inr _ => []) := by
  refine loop_sound3 (fun s q h => ?_) (fun r => ?_)
  · replace h : palingref17_Other_L1 a1 a2 s = some q := h; revert h; revert s; intro v3 h
    unfold palingref17_Other_L1 at h
    rcases ite_out h with ⟨h4, h⟩ | ⟨h4, h⟩
    · obtain ⟨x5, h6, h⟩ := bind_out h
      rcases ite_out h with ⟨h7, h⟩ | ⟨h7, h⟩
      · obtain ⟨x8, h9, h⟩ := bind_out h
        injection h with h; subst h; exact runLp_sound mixedOrders (live := [4]) (ids := []) (π := [.dec true, .row (c153 x5), .dec true, .row (c153 x8)]) (hx := by kernel_rfl) (hps := pc (h4) <| pc (ob153 h6) <| pc (h7) <| pc (ob153 h9) <| pn)
      · obtain ⟨x10, h11, h⟩ := bind_out h
        rcases ite_out h with ⟨h12, h⟩ | ⟨h12, h⟩
        · obtain ⟨x13, h14, h⟩ := bind_out h
          injection h with h; subst h; exact runLp_sound mixedOrders (live := [4]) (ids := []) (π := [.dec true, .row (c153 x5), .dec false, .row (c153 x10), .dec true, .row (c153 x13)]) (hx := by kernel_rfl) (hps := pc (h4) <| pc (ob153 h6) <| pc (h7) <| pc (ob153 h11) <| pc (h12) <| pc (ob153 h14) <| pn)
        · injection h with h; subst h; exact runLp_sound mixedOrders (live := [1, 2, 4, 5]) (ids := [0]) (π := [.dec true, .row (c153 x5), .dec false, .row (c153 x10), .dec false]) (hx := by kernel_rfl) (hps := pc (h4) <| pc (ob153 h6) <| pc (h7) <| pc (ob153 h11) <| pc (h12) <| pn)
    · injection h with h; subst h; exact runLp_sound mixedOrders (live := [4]) (ids := []) (π := [.dec false]) (hx := by kernel_rfl) (hps := pc (h4) <| pn)
  · rcases r with _ | _ <;> exact Ex.noConfusion

theorem k_palingref17_Other {a1 : Api_Net} {a2 : Int} {r : Int} (h : palingref17_Other a1 a2 = some r) :
    CallsOK Try.prog UU 84 [.agg (c61 a1), .v (.int .i64 a2)] [] (.v (.int .i64 r)) [] := by
  unfold palingref17_Other at h
  obtain ⟨r18, h17, h⟩ := bind_out h
  rcases r18 with v16 | _
  · injection h with h; subst h; exact runFn_sound mixedOrders Try.func84 rfl (keep := none) (π := [.sum [1, 2, 4, 5] [0] .ret [(4, .v (.int .i64 v16))] []]) (hrun := by kernel_rfl) (hps := pc (k_palingref17_Other_L1 _ _ h17) <| pn)
  · injection h with h; subst h; exact runFn_sound mixedOrders Try.func84 rfl (keep := none) (π := [.sum [1, 2, 4, 5] [0] (.exit 0) [(4, .z)] []]) (hrun := by kernel_rfl) (hps := pc (k_palingref17_Other_L1 _ _ h17) <| pn)

theorem k_palingref01_number_L1 {a1 : List Int} : LoopOK Try.prog UU 0 20 (subC (codeOf Try.f160) [1, 1, 0, 1, 0, 0]) (fun s : Int × Int => match s with | (v2, v3) => palingref01_number_L1 a1 v2 v3)
    (fun s : Int × Int => (match s with | (v2, v3) => [(0, .sl 5 a1), (2, .v (.int .u64 0)), (3, .v (.int .u64 v2)), (4, .v (.int .i64 v3))] : Fr DD)) (fun s : Int × Int => (match s with | (v2, v3) => [] : Heap DD)) (fun r => match r with | v8 => .exit 0) (fun r => match r with | v8 => [(2, .v (.int .u64 0)), (3, .v (.int .u64 v8))]) (fun r => match r with | v8 => []) := by
  refine loop_sound3 (fun s q h => ?_) (fun r => ?_)
  · obtain ⟨v2, v3⟩ := s; replace h : palingref01_number_L1 a1 v2 v3 = some q := h
    unfold palingref01_number_L1 at h
    rcases ite_out h with ⟨h4, h⟩ | ⟨h4, h⟩
    · obtain ⟨x5, h6, h⟩ := bind_out h
      injection h with h; subst h; exact runLp_sound mixedOrders (live := [0, 2, 3, 4]) (ids := []) (π := [.dec true, .row (c5 x5)]) (hx := by kernel_rfl) (hps := pc (h4) <| pc (ob5 h6) <| pn)
    · injection h with h; subst h; exact runLp_sound mixedOrders (live := [2, 3]) (ids := []) (π := [.dec false]) (hx := by kernel_rfl) (hps := pc (h4) <| pn)
  · exact Ex.noConfusion

theorem k_palingref01_number {a1 : List Int} {r : Int} (h : palingref01_number a1 = some r) :
    CallsOK Try.prog UU 160 [.sl 5 a1] [] (.v (.int .u64 r)) [] := by
  unfold palingref01_number at h
  obtain ⟨v8, h9, h⟩ := bind_out h
  injection h with h; subst h; exact runFn_sound mixedOrders Try.func160 rfl (keep := none) (π := [.sum [0, 2, 3, 4] [] (.exit 0) [(2, .v (.int .u64 0)), (3, .v (.int .u64 v8))] []]) (hrun := by kernel_rfl) (hps := pc (k_palingref01_number_L1 _ _ h9) <| pn)

theorem k_palingref01_Take {a1 : List Int} {a2 : Int} {r : Int × Bool} (h : palingref01_Take a1 a2 = some r) :
    CallsOK Try.prog UU 118 [.sl 5 a1, .v (.int .i64 a2)] [] (.tup [.v (.int .u64 r.1), .v (.bool r.2)]) [] := by
  unfold palingref01_Take at h
  rcases ite_out h with ⟨h3, h⟩ | ⟨h3, h⟩
  · injection h with h; subst h; exact runFn_sound mixedOrders Try.func118 rfl (keep := none) (π := [.dec true]) (hrun := by kernel_rfl) (hps := pc (h3) <| pn)
  · rcases ite_out h with ⟨h4, h⟩ | ⟨h4, h⟩
    · injection h with h; subst h; exact runFn_sound mixedOrders Try.func118 rfl (keep := none) (π := [.dec false, .dec true]) (hrun := by kernel_rfl) (hps := pc (h3) <| pc (h4) <| pn)
    · rcases ite_out h with ⟨h5, h⟩ | ⟨h5, h⟩
      · injection h with h; subst h; exact runFn_sound mixedOrders Try.func118 rfl (keep := none) (π := [.dec false, .dec false, .dec true]) (hrun := by kernel_rfl) (hps := pc (h3) <| pc (h4) <| pc (h5) <| pn)
      · rcases ite_out h with ⟨h6, h⟩ | ⟨h6, h⟩
        · obtain ⟨r7, h8, h⟩ := bind_out h
          injection h with h; subst h; exact runFn_sound mixedOrders Try.func118 rfl (keep := none) (π := [.dec false, .dec false, .dec false, .callv (.v (.int .u64 r7))]) (hrun := by kernel_rfl) (hps := pc (h3) <| pc (h4) <| pc (h5) <| pc (sl_ob h6) <| pc (k_palingref01_number h8) <| pn)
        · cases h

theorem k_palingref04_Take {a1 : List Int} {r : ((List Int) × Int × Int × Int × Int)} (h : palingref04_Take a1 = some r) :
    CallsOK Try.prog UU 59 [.sl 5 a1] [] ((fun r => match r with | (l14, v15, v16, v17, v18) => .tup [.agg [.v (.int .u64 v15), .v (.int .u64 v16), .v (.int .i64 v17), .os 0 (List.length l14)], .v (.int .i64 v18)]) r) ((fun r => match r with | (l14, v15, v16, v17, v18) => [.arr 5 l14 (List.length l14) false]) r) := by
  unfold palingref04_Take at h
  rcases ite_out h with ⟨h2, h⟩ | ⟨h2, h⟩
  · injection h with h; subst h; exact runFn_sound mixedOrders Try.func59 rfl (keep := some [2]) (π := [.dec true]) (hrun := by kernel_rfl) (hps := pc (h2) <| pn)
  · rcases ite_out h with ⟨h3, h⟩ | ⟨h3, h⟩
    · injection h with h; subst h; exact runFn_sound mixedOrders Try.func59 rfl (keep := some [2]) (π := [.dec false, .dec true]) (hrun := by kernel_rfl) (hps := pc (h2) <| pc (h3) <| pn)
    · obtain ⟨r4, h5, h⟩ := bind_out h
      obtain ⟨r6, h7, h⟩ := bind_out h
      obtain ⟨x8, h9, h⟩ := bind_out h
      obtain ⟨x10, h11, h⟩ := bind_out h
      rcases ite_out h with ⟨h12, h⟩ | ⟨h12, h⟩
      · rcases ite_out h with ⟨h13, h⟩ | ⟨h13, h⟩
        · injection h with h; subst h; exact runFn_sound mixedOrders Try.func59 rfl (keep := some [2]) (π := [.dec false, .dec false, .callv (.tup [.v (.int .u64 r4.1), .v (.bool r4.2)]), .callv (.tup [.v (.int .u64 r6.1), .v (.bool r6.2)]), .sum [12] [] .nor [] [.n 5, .box 37 [.v (.int .u64 0), .v (.int .u64 0), .z, .os 0 0] false, .n 5], .sum [15] [] .nor [] [.n 5, .box 37 [.v (.int .u64 0), .v (.int .u64 0), .z, .os 0 0] false, .arr 5 (List.drop (Int.toNat 14) (List.take (Int.toNat ((List.length a1) : Int)) a1)) (List.length (List.drop (Int.toNat 14) (List.take (Int.toNat ((List.length a1) : Int)) a1))) false], .row (c5 x8), .row (c5 x10), .obj [] (.n 5), .obj [] (.arr 5 (List.drop (Int.toNat 14) (List.take (Int.toNat ((List.length a1) : Int)) a1)) (List.length (List.drop (Int.toNat 14) (List.take (Int.toNat ((List.length a1) : Int)) a1))) false)]) (hrun := by kernel_rfl) (hps := pc (h2) <| pc (h3) <| pc (k_palingref01_Take h5) <| pc (k_palingref01_Take h7) <| pc ((rfl : (.v (.int .u64 r4.1) : AV DD) = .v (.int .u64 r4.1))) <| pc ((rfl : (.v (.int .u64 r4.1) : AV DD) = .v (.int .u64 r4.1))) <| pc ((rfl : (.v (.int .u64 r6.1) : AV DD) = .v (.int .u64 r6.1))) <| pc ((rfl : (.v (.int .u64 r6.1) : AV DD) = .v (.int .u64 r6.1))) <| pc ((rfl : (.sl 5 a1 : AV DD) = .sl 5 a1)) <| pc ((rfl : (.sl 5 a1 : AV DD) = .sl 5 a1)) <| pc (ob5 h9) <| pc (ob5 h9) <| pc ((rfl : (.rp (c5 x8) 0 : AV DD) = .rp (c5 x8) 0)) <| pc (ob5 h9) <| pc ((rfl : (.rp (c5 x8) 0 : AV DD) = .rp (c5 x8) 0)) <| pc ((rfl : (.v (.int .u8 x8) : AV DD) = .v (.int .u8 x8))) <| pc ((rfl : (.v (.int .u8 x8) : AV DD) = .v (.int .u8 x8))) <| pc ((rfl : (.v (.int .i64 (wr_i64 x8)) : AV DD) = .v (.int .i64 (wr_i64 x8)))) <| pc ((rfl : (.v (.int .i64 (wr_i64 x8)) : AV DD) = .v (.int .i64 (wr_i64 x8)))) <| pc ((rfl : (.v (.int .i64 (wr_i64 ((wr_i64 x8) * 256))) : AV DD) = .v (.int .i64 (wr_i64 ((wr_i64 x8) * 256))))) <| pc ((rfl : (.v (.int .i64 (wr_i64 ((wr_i64 x8) * 256))) : AV DD) = .v (.int .i64 (wr_i64 ((wr_i64 x8) * 256))))) <| pc ((rfl : (.sl 5 a1 : AV DD) = .sl 5 a1)) <| pc ((rfl : (.sl 5 a1 : AV DD) = .sl 5 a1)) <| pc (ob5 h11) <| pc (ob5 h11) <| pc ((rfl : (.rp (c5 x10) 0 : AV DD) = .rp (c5 x10) 0)) <| pc (ob5 h11) <| pc ((rfl : (.rp (c5 x10) 0 : AV DD) = .rp (c5 x10) 0)) <| pc ((rfl : (.v (.int .u8 x10) : AV DD) = .v (.int .u8 x10))) <| pc ((rfl : (.v (.int .u8 x10) : AV DD) = .v (.int .u8 x10))) <| pc ((rfl : (.v (.int .i64 (wr_i64 x10)) : AV DD) = .v (.int .i64 (wr_i64 x10)))) <| pc ((rfl : (.v (.int .i64 (wr_i64 x10)) : AV DD) = .v (.int .i64 (wr_i64 x10)))) <| pc ((rfl : (.v (.int .i64 (wr_i64 ((wr_i64 ((wr_i64 x8) * 256)) + (wr_i64 x10)))) : AV DD) = .v (.int .i64 (wr_i64 ((wr_i64 ((wr_i64 x8) * 256)) + (wr_i64 x10)))))) <| pc ((rfl : (.v (.int .i64 (wr_i64 ((wr_i64 ((wr_i64 x8) * 256)) + (wr_i64 x10)))) : AV DD) = .v (.int .i64 (wr_i64 ((wr_i64 ((wr_i64 x8) * 256)) + (wr_i64 x10)))))) <| pc ((rfl : ([.n 5, .box 37 [.v (.int .u64 0), .v (.int .u64 0), .z, .os 0 0] false, .n 5] : Heap DD) = [.n 5, .box 37 [.v (.int .u64 0), .v (.int .u64 0), .z, .os 0 0] false, .n 5])) <| pc (bs_ob 5 []) <| pc ((rfl : (.sl 5 a1 : AV DD) = .sl 5 a1)) <| pc (sl_ob h12) <| pc (sl_ob h12) <| pc ((rfl : (.sl 5 (List.drop (Int.toNat 14) (List.take (Int.toNat ((List.length a1) : Int)) a1)) : AV DD) = .sl 5 (List.drop (Int.toNat 14) (List.take (Int.toNat ((List.length a1) : Int)) a1)))) <| pc ((rfl : ([.n 5, .box 37 [.v (.int .u64 0), .v (.int .u64 0), .z, .os 0 0] false, .arr 5 (List.drop (Int.toNat 14) (List.take (Int.toNat ((List.length a1) : Int)) a1)) (List.length (List.drop (Int.toNat 14) (List.take (Int.toNat ((List.length a1) : Int)) a1))) false] : Heap DD) = [.n 5, .box 37 [.v (.int .u64 0), .v (.int .u64 0), .z, .os 0 0] false, .arr 5 (List.drop (Int.toNat 14) (List.take (Int.toNat ((List.length a1) : Int)) a1)) (List.length (List.drop (Int.toNat 14) (List.take (Int.toNat ((List.length a1) : Int)) a1))) false])) <| pc (app_ob 5 (n := 0) (l := []) (xs := List.drop (Int.toNat 14) (List.take (Int.toNat ((List.length a1) : Int)) a1)) h13) <| pn)
        · cases h
      · cases h

theorem k_palingref05_Strip {a1 : Api_Frame} {r : ((List Int) × Int × Int × Int × Int × Int × Int)} (h : palingref05_Strip a1 = some r) :
    CallsOK Try.prog UU 137 [.agg (c37 a1)] [] ((fun r => match r with | (l16, v17, v18, v19, v20, v21, v22) => .tup [.agg [.v (.int .u64 v17), .v (.int .u64 v18), .v (.int .i64 v19), .os 0 (List.length l16)], .v (.int .i64 v20), .v (.int .i64 v21), .v (.int .i64 v22)]) r) ((fun r => match r with | (l16, v17, v18, v19, v20, v21, v22) => [.arr 5 l16 (List.length l16) false]) r) := by
  unfold palingref05_Strip at h
  rcases ite_out h with ⟨h2, h⟩ | ⟨h2, h⟩
  · injection h with h; subst h; exact runFn_sound mixedOrders Try.func137 rfl (keep := some [3]) (π := [.dec true]) (hrun := by kernel_rfl) (hps := pc (h2) <| pn)
  · rcases ite_out h with ⟨h3, h⟩ | ⟨h3, h⟩
    · injection h with h; subst h; exact runFn_sound mixedOrders Try.func137 rfl (keep := some [3]) (π := [.dec false, .dec true]) (hrun := by kernel_rfl) (hps := pc (h2) <| pc (h3) <| pn)
    · obtain ⟨x4, h5, h⟩ := bind_out h
      obtain ⟨x6, h7, h⟩ := bind_out h
      obtain ⟨x8, h9, h⟩ := bind_out h
      obtain ⟨x10, h11, h⟩ := bind_out h
      rcases ite_out h with ⟨h12, h⟩ | ⟨h12, h⟩
      · injection h with h; subst h; exact runFn_sound mixedOrders Try.func137 rfl (keep := some [3]) (π := [.dec false, .dec false, .row (c5 x4), .row (c5 x6), .row (c5 x8), .row (c5 x10), .dec true]) (hrun := by kernel_rfl) (hps := pc (h2) <| pc (h3) <| pc (ob5 h5) <| pc (ob5 h7) <| pc (ob5 h9) <| pc (ob5 h11) <| pc ((show (4096 : Int) ≠ 0 from by decide)) <| pc (h12) <| pn)
      · rcases ite_out h with ⟨h13, h⟩ | ⟨h13, h⟩
        · injection h with h; subst h; exact runFn_sound mixedOrders Try.func137 rfl (keep := some [3]) (π := [.dec false, .dec false, .row (c5 x4), .row (c5 x6), .row (c5 x8), .row (c5 x10), .dec false, .dec true]) (hrun := by kernel_rfl) (hps := pc (h2) <| pc (h3) <| pc (ob5 h5) <| pc (ob5 h7) <| pc (ob5 h9) <| pc (ob5 h11) <| pc ((show (4096 : Int) ≠ 0 from by decide)) <| pc (h12) <| pc (h13) <| pn)
        · rcases ite_out h with ⟨h14, h⟩ | ⟨h14, h⟩
          · rcases ite_out h with ⟨h15, h⟩ | ⟨h15, h⟩
            · injection h with h; subst h; exact runFn_sound mixedOrders Try.func137 rfl (keep := some [3]) (π := [.dec false, .dec false, .row (c5 x4), .row (c5 x6), .row (c5 x8), .row (c5 x10), .dec false, .dec false, .sum [5] [] .nor [] [.box 37 (c37 a1) false, .n 5, .box 37 [.v (.int .u64 0), .v (.int .u64 0), .z, .os 1 0] false, .n 5], .sum [9] [] .nor [] [.box 37 (c37 a1) false, .n 5, .box 37 [.v (.int .u64 0), .v (.int .u64 0), .z, .os 1 0] false, .arr 5 (List.drop (Int.toNat 4) (List.take (Int.toNat ((List.length a1.body) : Int)) a1.body)) (List.length (List.drop (Int.toNat 4) (List.take (Int.toNat ((List.length a1.body) : Int)) a1.body))) false], .sum [15] [] .nor [] [.box 37 (c37 a1) false, .n 5, .box 37 [.v (.int .u64 a1.dst), .v (.int .u64 a1.src), .v (.int .i64 (wr_i64 ((wr_i64 ((wr_i64 x8) * 256)) + (wr_i64 x10)))), .os 3 (List.length (List.drop (Int.toNat 4) (List.take (Int.toNat ((List.length a1.body) : Int)) a1.body)))] false, .arr 5 (List.drop (Int.toNat 4) (List.take (Int.toNat ((List.length a1.body) : Int)) a1.body)) (List.length (List.drop (Int.toNat 4) (List.take (Int.toNat ((List.length a1.body) : Int)) a1.body))) false], .obj [] (.n 5), .obj [] (.arr 5 (List.drop (Int.toNat 4) (List.take (Int.toNat ((List.length a1.body) : Int)) a1.body)) (List.length (List.drop (Int.toNat 4) (List.take (Int.toNat ((List.length a1.body) : Int)) a1.body))) false)]) (hrun := by kernel_rfl) (hps := pc (h2) <| pc (h3) <| pc (ob5 h5) <| pc (ob5 h7) <| pc (ob5 h9) <| pc (ob5 h11) <| pc ((show (4096 : Int) ≠ 0 from by decide)) <| pc (h12) <| pc (h13) <| pc ((rfl : (.op 0 1 0 0 : AV DD) = .op 0 1 0 0)) <| pc ((rfl : (.op 0 1 0 0 : AV DD) = .op 0 1 0 0)) <| pc ((rfl : (.v (.int .u64 a1.dst) : AV DD) = .v (.int .u64 a1.dst))) <| pc ((rfl : (.v (.int .u64 a1.dst) : AV DD) = .v (.int .u64 a1.dst))) <| pc ((rfl : (.op 0 1 0 1 : AV DD) = .op 0 1 0 1)) <| pc ((rfl : (.op 0 1 0 1 : AV DD) = .op 0 1 0 1)) <| pc ((rfl : (.v (.int .u64 a1.src) : AV DD) = .v (.int .u64 a1.src))) <| pc ((rfl : (.v (.int .u64 a1.src) : AV DD) = .v (.int .u64 a1.src))) <| pc ((rfl : (.v (.int .i64 (wr_i64 ((wr_i64 ((wr_i64 x8) * 256)) + (wr_i64 x10)))) : AV DD) = .v (.int .i64 (wr_i64 ((wr_i64 ((wr_i64 x8) * 256)) + (wr_i64 x10)))))) <| pc ((rfl : (.v (.int .i64 (wr_i64 ((wr_i64 ((wr_i64 x8) * 256)) + (wr_i64 x10)))) : AV DD) = .v (.int .i64 (wr_i64 ((wr_i64 ((wr_i64 x8) * 256)) + (wr_i64 x10)))))) <| pc ((rfl : ([.box 37 (c37 a1) false, .n 5, .box 37 [.v (.int .u64 0), .v (.int .u64 0), .z, .os 1 0] false, .n 5] : Heap DD) = [.box 37 (c37 a1) false, .n 5, .box 37 [.v (.int .u64 0), .v (.int .u64 0), .z, .os 1 0] false, .n 5])) <| pc (bs_ob 5 []) <| pc ((rfl : (.op 0 1 0 3 : AV DD) = .op 0 1 0 3)) <| pc ((rfl : (.sl 5 a1.body : AV DD) = .sl 5 a1.body)) <| pc (sl_ob h14) <| pc (sl_ob h14) <| pc ((rfl : (.sl 5 (List.drop (Int.toNat 4) (List.take (Int.toNat ((List.length a1.body) : Int)) a1.body)) : AV DD) = .sl 5 (List.drop (Int.toNat 4) (List.take (Int.toNat ((List.length a1.body) : Int)) a1.body)))) <| pc ((rfl : ([.box 37 (c37 a1) false, .n 5, .box 37 [.v (.int .u64 0), .v (.int .u64 0), .z, .os 1 0] false, .arr 5 (List.drop (Int.toNat 4) (List.take (Int.toNat ((List.length a1.body) : Int)) a1.body)) (List.length (List.drop (Int.toNat 4) (List.take (Int.toNat ((List.length a1.body) : Int)) a1.body))) false] : Heap DD) = [.box 37 (c37 a1) false, .n 5, .box 37 [.v (.int .u64 0), .v (.int .u64 0), .z, .os 1 0] false, .arr 5 (List.drop (Int.toNat 4) (List.take (Int.toNat ((List.length a1.body) : Int)) a1.body)) (List.length (List.drop (Int.toNat 4) (List.take (Int.toNat ((List.length a1.body) : Int)) a1.body))) false])) <| pc (app_ob 5 (n := 0) (l := []) (xs := List.drop (Int.toNat 4) (List.take (Int.toNat ((List.length a1.body) : Int)) a1.body)) h15) <| pc ((rfl : (.v (.int .i64 (wr_i64 ((wr_i64 ((wr_i64 x4) * 256)) + (wr_i64 x6)))) : AV DD) = .v (.int .i64 (wr_i64 ((wr_i64 ((wr_i64 x4) * 256)) + (wr_i64 x6)))))) <| pc ((rfl : (.v (.int .i64 (wr_i64 ((wr_i64 ((wr_i64 x4) * 256)) + (wr_i64 x6)))) : AV DD) = .v (.int .i64 (wr_i64 ((wr_i64 ((wr_i64 x4) * 256)) + (wr_i64 x6)))))) <| pc ((rfl : (.v (.int .i64 (wr_i64 ((wr_i64 ((wr_i64 x4) * 256)) + (wr_i64 x6)))) : AV DD) = .v (.int .i64 (wr_i64 ((wr_i64 ((wr_i64 x4) * 256)) + (wr_i64 x6)))))) <| pc ((show (4096 : Int) ≠ 0 from by decide)) <| pc ((show (4096 : Int) ≠ 0 from by decide)) <| pc ((rfl : (.v (.int .i64 (Int.tmod (wr_i64 ((wr_i64 ((wr_i64 x4) * 256)) + (wr_i64 x6))) 4096)) : AV DD) = .v (.int .i64 (Int.tmod (wr_i64 ((wr_i64 ((wr_i64 x4) * 256)) + (wr_i64 x6))) 4096)))) <| pc ((show (4096 : Int) ≠ 0 from by decide)) <| pc ((rfl : (.v (.int .i64 (Int.tmod (wr_i64 ((wr_i64 ((wr_i64 x4) * 256)) + (wr_i64 x6))) 4096)) : AV DD) = .v (.int .i64 (Int.tmod (wr_i64 ((wr_i64 ((wr_i64 x4) * 256)) + (wr_i64 x6))) 4096)))) <| pc ((show (4096 : Int) ≠ 0 from by decide)) <| pc ((rfl : (.v (.int .i64 (Int.tmod (wr_i64 ((wr_i64 ((wr_i64 x4) * 256)) + (wr_i64 x6))) 4096)) : AV DD) = .v (.int .i64 (Int.tmod (wr_i64 ((wr_i64 ((wr_i64 x4) * 256)) + (wr_i64 x6))) 4096)))) <| pc ((rfl : (.v (.int .i64 (wr_i64 ((wr_i64 ((wr_i64 x4) * 256)) + (wr_i64 x6)))) : AV DD) = .v (.int .i64 (wr_i64 ((wr_i64 ((wr_i64 x4) * 256)) + (wr_i64 x6)))))) <| pc ((rfl : (.v (.int .i64 (wr_i64 ((wr_i64 ((wr_i64 x4) * 256)) + (wr_i64 x6)))) : AV DD) = .v (.int .i64 (wr_i64 ((wr_i64 ((wr_i64 x4) * 256)) + (wr_i64 x6)))))) <| pc ((rfl : (.v (.int .i64 (wr_i64 ((wr_i64 ((wr_i64 x4) * 256)) + (wr_i64 x6)))) : AV DD) = .v (.int .i64 (wr_i64 ((wr_i64 ((wr_i64 x4) * 256)) + (wr_i64 x6)))))) <| pc ((show (4096 : Int) ≠ 0 from by decide)) <| pc ((show (4096 : Int) ≠ 0 from by decide)) <| pc ((rfl : (.v (.int .i64 (wr_i64 (Int.tdiv (wr_i64 ((wr_i64 ((wr_i64 x4) * 256)) + (wr_i64 x6))) 4096))) : AV DD) = .v (.int .i64 (wr_i64 (Int.tdiv (wr_i64 ((wr_i64 ((wr_i64 x4) * 256)) + (wr_i64 x6))) 4096))))) <| pc ((show (4096 : Int) ≠ 0 from by decide)) <| pc ((rfl : (.v (.int .i64 (wr_i64 (Int.tdiv (wr_i64 ((wr_i64 ((wr_i64 x4) * 256)) + (wr_i64 x6))) 4096))) : AV DD) = .v (.int .i64 (wr_i64 (Int.tdiv (wr_i64 ((wr_i64 ((wr_i64 x4) * 256)) + (wr_i64 x6))) 4096))))) <| pc ((show (4096 : Int) ≠ 0 from by decide)) <| pc ((rfl : (.v (.int .i64 (wr_i64 (Int.tdiv (wr_i64 ((wr_i64 ((wr_i64 x4) * 256)) + (wr_i64 x6))) 4096))) : AV DD) = .v (.int .i64 (wr_i64 (Int.tdiv (wr_i64 ((wr_i64 ((wr_i64 x4) * 256)) + (wr_i64 x6))) 4096))))) <| pc ((rfl : ([.box 37 (c37 a1) false, .n 5, .box 37 [.v (.int .u64 a1.dst), .v (.int .u64 a1.src), .v (.int .i64 (wr_i64 ((wr_i64 ((wr_i64 x8) * 256)) + (wr_i64 x10)))), .os 3 (List.length (List.drop (Int.toNat 4) (List.take (Int.toNat ((List.length a1.body) : Int)) a1.body)))] false, .arr 5 (List.drop (Int.toNat 4) (List.take (Int.toNat ((List.length a1.body) : Int)) a1.body)) (List.length (List.drop (Int.toNat 4) (List.take (Int.toNat ((List.length a1.body) : Int)) a1.body))) false] : Heap DD) = [.box 37 (c37 a1) false, .n 5, .box 37 [.v (.int .u64 a1.dst), .v (.int .u64 a1.src), .v (.int .i64 (wr_i64 ((wr_i64 ((wr_i64 x8) * 256)) + (wr_i64 x10)))), .os 3 (List.length (List.drop (Int.toNat 4) (List.take (Int.toNat ((List.length a1.body) : Int)) a1.body)))] false, .arr 5 (List.drop (Int.toNat 4) (List.take (Int.toNat ((List.length a1.body) : Int)) a1.body)) (List.length (List.drop (Int.toNat 4) (List.take (Int.toNat ((List.length a1.body) : Int)) a1.body))) false])) <| pn)
            · cases h
          · cases h

theorem k_palingref01_Group {a1 : Int} {r : Bool} (h : palingref01_Group a1 = some r) :
    CallsOK Try.prog UU 138 [.v (.int .u64 a1)] [] (.v (.bool r)) [] := by
  unfold palingref01_Group at h
  obtain ⟨l4, h3, h⟩ := bind_out h
  rcases ite_out h with ⟨h5, h⟩ | ⟨h5, h⟩
  · obtain ⟨x6, h7, h⟩ := bind_out h
    injection h with h; subst h; exact runFn_sound mixedOrders Try.func138 rfl (keep := none) (π := [.callo (.os 0 (List.length l4)) [.arr 5 l4 (List.length l4) false], .row (c5 x6)]) (hrun := by kernel_rfl) (hps := pc (k_palingref01_Bytes h3) <| pc (im5 l4) <| pc (And.intro (rfl : ((List.length l4) : Nat) = (List.length l4)) (lin_ob h5)) <| pc (And.intro (rfl : ((List.length l4) : Nat) = (List.length l4)) (obn5 h7)) <| pc ((show (2 : Int) ≠ 0 from by decide)) <| pn)
  · cases h

theorem k_palingref27_Vlan {a1 : Api_Port} {a2 : Bool} {a3 : Int} {r : Int × Bool} (h : palingref27_Vlan a1 a2 a3 = some r) :
    CallsOK Try.prog UU 139 [.agg (c96 a1), .v (.bool a2), .v (.int .i64 a3)] [] (.tup [.v (.int .i64 r.1), .v (.bool r.2)]) [] := by
  unfold palingref27_Vlan at h
  rcases ite_out h with ⟨h4, h⟩ | ⟨h4, h⟩
  · injection h with h; subst h; exact runFn_sound mixedOrders Try.func139 rfl (keep := none) (π := [.dec true]) (hrun := by kernel_rfl) (hps := pc (h4) <| pn)
  · rcases ite_out h with ⟨h5, h⟩ | ⟨h5, h⟩
    · injection h with h; subst h; exact runFn_sound mixedOrders Try.func139 rfl (keep := none) (π := [.dec false, .dec true]) (hrun := by kernel_rfl) (hps := pc (h4) <| pc (h5) <| pn)
    · obtain ⟨r6, h7, h⟩ := bind_out h
      rcases ite_out h with ⟨h8, h⟩ | ⟨h8, h⟩
      · injection h with h; subst h; exact runFn_sound mixedOrders Try.func139 rfl (keep := none) (π := [.dec false, .dec false, .callv (.v (.bool r6)), .dec true]) (hrun := by kernel_rfl) (hps := pc (h4) <| pc (h5) <| pc (k_palingref15_In h7) <| pc (h8) <| pn)
      · injection h with h; subst h; exact runFn_sound mixedOrders Try.func139 rfl (keep := none) (π := [.dec false, .dec false, .callv (.v (.bool r6)), .dec false]) (hrun := by kernel_rfl) (hps := pc (h4) <| pc (h5) <| pc (k_palingref15_In h7) <| pc (h8) <| pn)

theorem k_palingref27_At_J1 {a1 : Api_Net} {a2 : Int} {l12 : List Int} {v13 : Int} {v14 : Int} {v15 : Int} {v16 : Int} {r : Int ⊕ ((List Int) × Int × Int × Int × Int)} (h : palingref27_At_J1 a1 a2 l12 v13 v14 v15 v16 = some r) :
    ExecOK Try.prog UU 0 79 (subC (codeOf Try.f85) [1, 1, 1, 1, 1, 1, 0]) [(1, .v (.int .i64 a2)), (3, .op 0 1 0 0), (6, .z), (7, .op 1 1 0 0), (8, .z), (9, .op 3 1 0 0), (10, .v (.int .i64 v16)), (11, .v (.bool (v15 == 33024))), (12, .z)] [.box 61 (c61 a1) false, .box 37 [.v (.int .u64 0), .v (.int .u64 0), .z, .os 2 0] false, .n 5, .box 37 [.v (.int .u64 v13), .v (.int .u64 v14), .v (.int .i64 v15), .os 4 (List.length l12)] false, .arr 5 l12 (List.length l12) false] ((fun r => match r with | Sum.inl v30 => .ret | Sum.inr (l64, v65, v66, v67, v68) => .nor) r) ((fun r => match r with | Sum.inl v30 => [(6, .z), (7, .op 0 1 0 0), (8, .v (.int .i64 v30))] | Sum.inr (l64, v65, v66, v67, v68) => [(1, .v (.int .i64 a2)), (3, .op 0 1 0 0), (6, .z), (7, .op 1 1 0 0), (8, .z), (9, .op 3 1 0 0), (11, .v (.bool (v15 == 33024))), (12, .v (.int .i64 v68))]) r) ((fun r => match r with | Sum.inl v30 => [.box 37 [.v (.int .u64 0), .v (.int .u64 0), .z, .os 1 0] false, .n 5] | Sum.inr (l64, v65, v66, v67, v68) => [.box 61 (c61 a1) false, .box 37 [.v (.int .u64 0), .v (.int .u64 0), .z, .os 2 0] false, .n 5, .box 37 [.v (.int .u64 v65), .v (.int .u64 v66), .v (.int .i64 v67), .os 4 (List.length l64)] false, .arr 5 l64 (List.length l64) false]) r) := by
  unfold palingref27_At_J1 at h
  rcases ite_out h with ⟨h18, h⟩ | ⟨h18, h⟩
  · obtain ⟨r19, h20, h⟩ := bind_out h
    obtain ⟨l21, v22, v23, v24, v25, v26, v27⟩ := r19
    rcases ite_out h with ⟨h28, h⟩ | ⟨h28, h⟩
    · injection h with h; subst h; exact runLp_sound mixedOrders (live := [6, 7, 8]) (ids := [1, 6]) (π := [.dec true, .callo (.tup [.agg [.v (.int .u64 v22), .v (.int .u64 v23), .v (.int .i64 v24), .os 0 (List.length l21)], .v (.int .i64 v25), .v (.int .i64 v26), .v (.int .i64 v27)]) [.arr 5 l21 (List.length l21) false], .dec true]) (hx := by kernel_rfl) (hps := pc (h18) <| pc (k_palingref05_Strip h20) <| pc (im5 l21) <| pc ((rfl : ((List.length l12) : Nat) = (List.length l12))) <| pc (h28) <| pn)
    · injection h with h; subst h; exact runLp_sound mixedOrders (live := [1, 3, 6, 7, 8, 9, 11, 12]) (ids := [0, 1, 2, 3, 5]) (π := [.dec true, .callo (.tup [.agg [.v (.int .u64 v22), .v (.int .u64 v23), .v (.int .i64 v24), .os 0 (List.length l21)], .v (.int .i64 v25), .v (.int .i64 v26), .v (.int .i64 v27)]) [.arr 5 l21 (List.length l21) false], .dec false]) (hx := by kernel_rfl) (hps := pc (h18) <| pc (k_palingref05_Strip h20) <| pc (im5 l21) <| pc ((rfl : ((List.length l12) : Nat) = (List.length l12))) <| pc (h28) <| pn)
  · injection h with h; subst h; exact runLp_sound mixedOrders (live := [1, 3, 6, 7, 8, 9, 11, 12]) (ids := [0, 1, 2, 3, 4]) (π := [.dec false]) (hx := by kernel_rfl) (hps := pc (h18) <| pn)

theorem k_palingref27_At {a1 : Api_Net} {a2 : Int} {a3 : List Int} {r : ((List Int) × Int × Int × Int × Int × Int)} (h : palingref27_At a1 a2 a3 = some r) :
    CallsOK Try.prog UU 85 [.agg (c61 a1), .v (.int .i64 a2), .sl 5 a3] [] ((fun r => match r with | (l83, v84, v85, v86, v87, v88) => .tup [.v (.int .i64 v84), .agg [.v (.int .u64 v85), .v (.int .u64 v86), .v (.int .i64 v87), .os 0 (List.length l83)], .v (.int .i64 v88)]) r) ((fun r => match r with | (l83, v84, v85, v86, v87, v88) => [.arr 5 l83 (List.length l83) false]) r) := by
  unfold palingref27_At at h
  obtain ⟨r4, h5, h⟩ := bind_out h
  rcases ite_out h with ⟨h6, h⟩ | ⟨h6, h⟩
  · injection h with h; subst h; exact runFn_sound mixedOrders Try.func85 rfl (keep := some [3]) (π := [.callv (.v (.bool r4)), .dec true]) (hrun := by kernel_rfl) (hps := pc (k_palingref15_Right h5) <| pc (h6) <| pn)
  · obtain ⟨r7, h8, h⟩ := bind_out h
    rcases ite_out h with ⟨h9, h⟩ | ⟨h9, h⟩
    · injection h with h; subst h; exact runFn_sound mixedOrders Try.func85 rfl (keep := some [3]) (π := [.callv (.v (.bool r4)), .dec false, .callv (.v (.bool r7)), .dec true]) (hrun := by kernel_rfl) (hps := pc (k_palingref15_Right h5) <| pc (h6) <| pc (k_palingref15_Place h8) <| pc (h9) <| pn)
    · obtain ⟨r10, h11, h⟩ := bind_out h
      obtain ⟨l12, v13, v14, v15, v16⟩ := r10
      rcases ite_out h with ⟨h17, h⟩ | ⟨h17, h⟩
      · injection h with h; subst h; exact runFn_sound mixedOrders Try.func85 rfl (keep := some [6]) (π := [.callv (.v (.bool r4)), .dec false, .callv (.v (.bool r7)), .dec false, .callo (.tup [.agg [.v (.int .u64 v13), .v (.int .u64 v14), .v (.int .i64 v15), .os 0 (List.length l12)], .v (.int .i64 v16)]) [.arr 5 l12 (List.length l12) false], .dec true]) (hrun := by kernel_rfl) (hps := pc (k_palingref15_Right h5) <| pc (h6) <| pc (k_palingref15_Place h8) <| pc (h9) <| pc (k_palingref04_Take h11) <| pc (im5 l12) <| pc (h17) <| pn)
      · obtain ⟨r70, h69, h⟩ := bind_out h
        rcases r70 with v30 | ⟨l64, v65, v66, v67, v68⟩
        · injection h with h; subst h; exact runFn_sound mixedOrders Try.func85 rfl (keep := some [1]) (π := [.callv (.v (.bool r4)), .dec false, .callv (.v (.bool r7)), .dec false, .callo (.tup [.agg [.v (.int .u64 v13), .v (.int .u64 v14), .v (.int .i64 v15), .os 0 (List.length l12)], .v (.int .i64 v16)]) [.arr 5 l12 (List.length l12) false], .dec false, .skp, .skp, .cut [1, 3, 6, 7, 8, 9, 10, 11, 12] [0, 2, 1, 5, 3] .ret [(6, .z), (7, .op 0 1 0 0), (8, .v (.int .i64 v30))] [.box 37 [.v (.int .u64 0), .v (.int .u64 0), .z, .os 1 0] false, .n 5]]) (hrun := by kernel_rfl) (hps := pc (k_palingref15_Right h5) <| pc (h6) <| pc (k_palingref15_Place h8) <| pc (h9) <| pc (k_palingref04_Take h11) <| pc (im5 l12) <| pc (h17) <| pc (k_palingref27_At_J1 h69) <| pn)
        · obtain ⟨r71, h72, h⟩ := bind_out h
          rcases ite_out h with ⟨h73, h⟩ | ⟨h73, h⟩
          · injection h with h; subst h; exact runFn_sound mixedOrders Try.func85 rfl (keep := some [5]) (π := [.callv (.v (.bool r4)), .dec false, .callv (.v (.bool r7)), .dec false, .callo (.tup [.agg [.v (.int .u64 v13), .v (.int .u64 v14), .v (.int .i64 v15), .os 0 (List.length l12)], .v (.int .i64 v16)]) [.arr 5 l12 (List.length l12) false], .dec false, .skp, .skp, .cut [1, 3, 6, 7, 8, 9, 10, 11, 12] [0, 2, 1, 5, 3] .nor [(1, .v (.int .i64 a2)), (3, .op 0 1 0 0), (6, .z), (7, .op 1 1 0 0), (8, .z), (9, .op 3 1 0 0), (11, .v (.bool (v15 == 33024))), (12, .v (.int .i64 v68))] [.box 61 (c61 a1) false, .box 37 [.v (.int .u64 0), .v (.int .u64 0), .z, .os 2 0] false, .n 5, .box 37 [.v (.int .u64 v65), .v (.int .u64 v66), .v (.int .i64 v67), .os 4 (List.length l64)] false, .arr 5 l64 (List.length l64) false], .callv (.v (.bool r71)), .dec true]) (hrun := by kernel_rfl) (hps := pc (k_palingref15_Right h5) <| pc (h6) <| pc (k_palingref15_Place h8) <| pc (h9) <| pc (k_palingref04_Take h11) <| pc (im5 l12) <| pc (h17) <| pc (k_palingref27_At_J1 h69) <| pc (k_palingref01_Group h72) <| pc (h73) <| pn)
          · obtain ⟨x74, h75, h⟩ := bind_out h
            obtain ⟨r76, h77, h⟩ := bind_out h
            rcases ite_out h with ⟨h78, h⟩ | ⟨h78, h⟩
            · injection h with h; subst h; exact runFn_sound mixedOrders Try.func85 rfl (keep := some [5]) (π := [.callv (.v (.bool r4)), .dec false, .callv (.v (.bool r7)), .dec false, .callo (.tup [.agg [.v (.int .u64 v13), .v (.int .u64 v14), .v (.int .i64 v15), .os 0 (List.length l12)], .v (.int .i64 v16)]) [.arr 5 l12 (List.length l12) false], .dec false, .skp, .skp, .cut [1, 3, 6, 7, 8, 9, 10, 11, 12] [0, 2, 1, 5, 3] .nor [(1, .v (.int .i64 a2)), (3, .op 0 1 0 0), (6, .z), (7, .op 1 1 0 0), (8, .z), (9, .op 3 1 0 0), (11, .v (.bool (v15 == 33024))), (12, .v (.int .i64 v68))] [.box 61 (c61 a1) false, .box 37 [.v (.int .u64 0), .v (.int .u64 0), .z, .os 2 0] false, .n 5, .box 37 [.v (.int .u64 v65), .v (.int .u64 v66), .v (.int .i64 v67), .os 4 (List.length l64)] false, .arr 5 l64 (List.length l64) false], .callv (.v (.bool r71)), .dec false, .row (c96 x74), .callv (.tup [.v (.int .i64 r76.1), .v (.bool r76.2)]), .dec true]) (hrun := by kernel_rfl) (hps := pc (k_palingref15_Right h5) <| pc (h6) <| pc (k_palingref15_Place h8) <| pc (h9) <| pc (k_palingref04_Take h11) <| pc (im5 l12) <| pc (h17) <| pc (k_palingref27_At_J1 h69) <| pc (k_palingref01_Group h72) <| pc (h73) <| pc (ob96 h75) <| pc (k_palingref27_Vlan h77) <| pc (h78) <| pn)
            · obtain ⟨x79, h80, h⟩ := bind_out h
              obtain ⟨r81, h82, h⟩ := bind_out h
              injection h with h; subst h; exact runFn_sound mixedOrders Try.func85 rfl (keep := some [4]) (π := [.callv (.v (.bool r4)), .dec false, .callv (.v (.bool r7)), .dec false, .callo (.tup [.agg [.v (.int .u64 v13), .v (.int .u64 v14), .v (.int .i64 v15), .os 0 (List.length l12)], .v (.int .i64 v16)]) [.arr 5 l12 (List.length l12) false], .dec false, .skp, .skp, .cut [1, 3, 6, 7, 8, 9, 10, 11, 12] [0, 2, 1, 5, 3] .nor [(1, .v (.int .i64 a2)), (3, .op 0 1 0 0), (6, .z), (7, .op 1 1 0 0), (8, .z), (9, .op 3 1 0 0), (11, .v (.bool (v15 == 33024))), (12, .v (.int .i64 v68))] [.box 61 (c61 a1) false, .box 37 [.v (.int .u64 0), .v (.int .u64 0), .z, .os 2 0] false, .n 5, .box 37 [.v (.int .u64 v65), .v (.int .u64 v66), .v (.int .i64 v67), .os 4 (List.length l64)] false, .arr 5 l64 (List.length l64) false], .callv (.v (.bool r71)), .dec false, .row (c96 x74), .callv (.tup [.v (.int .i64 r76.1), .v (.bool r76.2)]), .dec false, .row (c96 x79), .callv (.v (.int .i64 r81))]) (hrun := by kernel_rfl) (hps := pc (k_palingref15_Right h5) <| pc (h6) <| pc (k_palingref15_Place h8) <| pc (h9) <| pc (k_palingref04_Take h11) <| pc (im5 l12) <| pc (h17) <| pc (k_palingref27_At_J1 h69) <| pc (k_palingref01_Group h72) <| pc (h73) <| pc (ob96 h75) <| pc (k_palingref27_Vlan h77) <| pc (h78) <| pc (ob96 h80) <| pc (k_palingref15_At h82) <| pn)

theorem k_palingref28_Link {a1 : Api_Net} {a2 : Int} {a3 : List Int} {r : ((List Int) × Int × Int × Int × Int × Int × Int)} (h : palingref28_Link a1 a2 a3 = some r) :
    CallsOK Try.prog UU 39 [.agg (c61 a1), .v (.int .i64 a2), .sl 5 a3] [] ((fun r => match r with | (l20, v21, v22, v23, v24, v25, v26) => .tup [.v (.int .i64 v21), .v (.int .i64 v22), .agg [.v (.int .u64 v23), .v (.int .u64 v24), .v (.int .i64 v25), .os 0 (List.length l20)], .v (.int .i64 v26)]) r) ((fun r => match r with | (l20, v21, v22, v23, v24, v25, v26) => [.arr 5 l20 (List.length l20) false]) r) := by
  unfold palingref28_Link at h
  obtain ⟨r4, h5, h⟩ := bind_out h
  rcases ite_out h with ⟨h6, h⟩ | ⟨h6, h⟩
  · injection h with h; subst h; exact runFn_sound mixedOrders Try.func39 rfl (keep := some [3]) (π := [.callv (.v (.bool r4)), .dec true]) (hrun := by kernel_rfl) (hps := pc (k_palingref15_Right h5) <| pc (h6) <| pn)
  · obtain ⟨r7, h8, h⟩ := bind_out h
    rcases ite_out h with ⟨h9, h⟩ | ⟨h9, h⟩
    · injection h with h; subst h; exact runFn_sound mixedOrders Try.func39 rfl (keep := some [3]) (π := [.callv (.v (.bool r4)), .dec false, .callv (.v (.int .i64 r7)), .dec true]) (hrun := by kernel_rfl) (hps := pc (k_palingref15_Right h5) <| pc (h6) <| pc (k_palingref17_Other h8) <| pc (h9) <| pn)
    · obtain ⟨r10, h11, h⟩ := bind_out h
      obtain ⟨r12, h13, h⟩ := bind_out h
      obtain ⟨l14, v15, v16, v17, v18, v19⟩ := r12
      injection h with h; subst h; exact runFn_sound mixedOrders Try.func39 rfl (keep := some [3]) (π := [.callv (.v (.bool r4)), .dec false, .callv (.v (.int .i64 r7)), .dec false, .callv (.v (.int .i64 r10)), .callo (.tup [.v (.int .i64 v15), .agg [.v (.int .u64 v16), .v (.int .u64 v17), .v (.int .i64 v18), .os 0 (List.length l14)], .v (.int .i64 v19)]) [.arr 5 l14 (List.length l14) false], .sum [6] [] .nor [] [.box 61 (c61 a1) false, .n 5, .box 37 [.v (.int .u64 v16), .v (.int .u64 v17), .v (.int .i64 v18), .os 3 (List.length l14)] false, .arr 5 l14 (List.length l14) false, .n 5, .box 37 [.v (.int .u64 v16), .v (.int .u64 v17), .v (.int .i64 v18), .os 3 (List.length l14)] false]]) (hrun := by kernel_rfl) (hps := pc (k_palingref15_Right h5) <| pc (h6) <| pc (k_palingref17_Other h8) <| pc (h9) <| pc (k_palingref17_Other h11) <| pc (k_palingref27_At h13) <| pc (im5 l14) <| pc ((rfl : (.v (.int .i64 v19) : AV DD) = .v (.int .i64 v19))) <| pc ((rfl : ([.box 61 (c61 a1) false, .n 5, .box 37 [.v (.int .u64 v16), .v (.int .u64 v17), .v (.int .i64 v18), .os 3 (List.length l14)] false, .arr 5 l14 (List.length l14) false, .n 5, .box 37 [.v (.int .u64 v16), .v (.int .u64 v17), .v (.int .i64 v18), .os 3 (List.length l14)] false] : Heap DD) = [.box 61 (c61 a1) false, .n 5, .box 37 [.v (.int .u64 v16), .v (.int .u64 v17), .v (.int .i64 v18), .os 3 (List.length l14)] false, .arr 5 l14 (List.length l14) false, .n 5, .box 37 [.v (.int .u64 v16), .v (.int .u64 v17), .v (.int .i64 v18), .os 3 (List.length l14)] false])) <| pn)

theorem k_palingref04_Same {a1 : Api_Frame} {a2 : Api_Frame} {r : Bool} (h : palingref04_Same a1 a2 = some r) :
    CallsOK Try.prog UU 21 [.agg (c37 a1), .agg (c37 a2)] [] (.v (.bool r)) [] := by
  unfold palingref04_Same at h
  rcases ite_out h with ⟨h3, h⟩ | ⟨h3, h⟩
  · rcases ite_out h with ⟨h4, h⟩ | ⟨h4, h⟩
    · rcases ite_out h with ⟨h5, h⟩ | ⟨h5, h⟩
      · injection h with h; subst h; exact runFn_sound mixedOrders Try.func21 rfl (keep := none) (π := [.dec true, .dec true, .dec true, .callv (.v (.string (bstr a1.body))), .callv (.v (.string (bstr a2.body)))]) (hrun := by kernel_rfl) (hps := pc (h3) <| pc (h4) <| pc (h5) <| pc (cvb5 a1.body) <| pc (cvb5 a2.body) <| pn)
      · injection h with h; subst h; exact runFn_sound mixedOrders Try.func21 rfl (keep := none) (π := [.dec true, .dec true, .dec false]) (hrun := by kernel_rfl) (hps := pc (h3) <| pc (h4) <| pc (h5) <| pn)
    · injection h with h; subst h; exact runFn_sound mixedOrders Try.func21 rfl (keep := none) (π := [.dec true, .dec false]) (hrun := by kernel_rfl) (hps := pc (h3) <| pc (h4) <| pn)
  · injection h with h; subst h; exact runFn_sound mixedOrders Try.func21 rfl (keep := none) (π := [.dec false]) (hrun := by kernel_rfl) (hps := pc (h3) <| pn)

theorem k_palinglaw28_LeavePorts {a1 : Api_Net} {a2 : Int} {a3 : Int} {a4 : Api_Frame} {a5 : List Int} {r : Bool} (h : palinglaw28_LeavePorts a1 a2 a3 a4 a5 = some r) :
    CallsOK Try.prog UU 9 [.agg (c61 a1), .v (.int .i64 a2), .v (.int .i64 a3), .agg (c37 a4), .sl 5 a5] [] (.v (.bool r)) [] := by
  unfold palinglaw28_LeavePorts at h
  obtain ⟨r6, h7, h⟩ := bind_out h
  rcases ite_out h with ⟨h8, h⟩ | ⟨h8, h⟩
  · obtain ⟨r9, h10, h⟩ := bind_out h
    injection h with h; subst h; exact runFn_sound mixedOrders Try.func9 rfl (keep := none) (π := [.callv (.v (.bool r6)), .dec true, .callv (.v (.bool r9))]) (hrun := by kernel_rfl) (hps := pc (k_palinglaw15_Great h7) <| pc (h8) <| pc (k_palinglaw28_works h10) <| pn)
  · rcases ite_out h with ⟨h11, h⟩ | ⟨h11, h⟩
    · obtain ⟨r12, h13, h⟩ := bind_out h
      injection h with h; subst h; exact runFn_sound mixedOrders Try.func9 rfl (keep := none) (π := [.callv (.v (.bool r6)), .dec false, .dec true, .callv (.v (.bool r12))]) (hrun := by kernel_rfl) (hps := pc (k_palinglaw15_Great h7) <| pc (h8) <| pc (h11) <| pc (k_palinglaw28_works h13) <| pn)
    · rcases ite_out h with ⟨h14, h⟩ | ⟨h14, h⟩
      · obtain ⟨r15, h16, h⟩ := bind_out h
        injection h with h; subst h; exact runFn_sound mixedOrders Try.func9 rfl (keep := none) (π := [.callv (.v (.bool r6)), .dec false, .dec false, .dec true, .callv (.v (.bool r15))]) (hrun := by kernel_rfl) (hps := pc (k_palinglaw15_Great h7) <| pc (h8) <| pc (h11) <| pc (h14) <| pc (k_palinglaw28_works h16) <| pn)
      · obtain ⟨r17, h18, h⟩ := bind_out h
        obtain ⟨l19, v20⟩ := r17
        obtain ⟨r21, h22, h⟩ := bind_out h
        obtain ⟨l23, v24⟩ := r21
        obtain ⟨r25, h26, h⟩ := bind_out h
        obtain ⟨l27, n28, v29, v30, v31, v32, v33, v34⟩ := r25
        obtain ⟨r35, h36, h⟩ := bind_out h
        obtain ⟨l37, v38, v39, v40, v41, v42, v43⟩ := r35
        rcases ite_out h with ⟨h44, h⟩ | ⟨h44, h⟩
        · rcases ite_out h with ⟨h45, h⟩ | ⟨h45, h⟩
          · rcases ite_out h with ⟨h46, h⟩ | ⟨h46, h⟩
            · rcases ite_out h with ⟨h47, h⟩ | ⟨h47, h⟩
              · obtain ⟨r48, h49, h⟩ := bind_out h
                rcases ite_out h with ⟨h50, h⟩ | ⟨h50, h⟩
                · rcases ite_out h with ⟨h51, h⟩ | ⟨h51, h⟩
                  · obtain ⟨r52, h53, h⟩ := bind_out h
                    injection h with h; subst h; exact runFn_sound mixedOrders Try.func9 rfl (keep := none) (π := [.callv (.v (.bool r6)), .dec false, .dec false, .dec false, .callo (.tup [.os 0 (List.length l19), .v (.int .i64 v20)]) [.arr 5 l19 (List.length l19) false], .callo (.tup [.os 0 (List.length l23), .v (.int .i64 v24)]) [.arr 5 l23 (List.length l23) false], .callo (.tup [.v (.int .i64 v29), .v (.int .i64 v30), .agg [.v (.int .u64 v31), .v (.int .u64 v32), .v (.int .i64 v33), .os 0 n28], .v (.int .i64 v34)]) [.arr 5 l27 n28 false], .callo (.tup [.v (.int .i64 v38), .v (.int .i64 v39), .agg [.v (.int .u64 v40), .v (.int .u64 v41), .v (.int .i64 v42), .os 0 (List.length l37)], .v (.int .i64 v43)]) [.arr 5 l37 (List.length l37) false], .callv (.v (.string (bstr l19))), .callv (.v (.string (bstr l23))), .dec true, .dec true, .dec true, .dec true, .callv (.v (.bool r48)), .dec true, .dec true, .callv (.v (.bool r52))]) (hrun := by kernel_rfl) (hps := pc (k_palinglaw15_Great h7) <| pc (h8) <| pc (h11) <| pc (h14) <| pc (k_leave_At h18) <| pc (im5 l19) <| pc (k_palingref28_At h22) <| pc (im5 l23) <| pc (k_leave_Link h26) <| pc (im5 l27) <| pc (k_palingref28_Link h36) <| pc (im5 l37) <| pc (cvb5 l19) <| pc ((rfl : ((List.length l19) : Nat) = (List.length l19))) <| pc (cvb5 l23) <| pc ((rfl : ((List.length l23) : Nat) = (List.length l23))) <| pc (h44) <| pc (h45) <| pc (h46) <| pc (h47) <| pc (k_palingref04_Same h49) <| pc ((rfl : (n28 : Nat) = n28)) <| pc ((rfl : ((List.length l37) : Nat) = (List.length l37))) <| pc (h50) <| pc (h51) <| pc (k_palinglaw28_works h53) <| pn)
                  · injection h with h; subst h; exact runFn_sound mixedOrders Try.func9 rfl (keep := none) (π := [.callv (.v (.bool r6)), .dec false, .dec false, .dec false, .callo (.tup [.os 0 (List.length l19), .v (.int .i64 v20)]) [.arr 5 l19 (List.length l19) false], .callo (.tup [.os 0 (List.length l23), .v (.int .i64 v24)]) [.arr 5 l23 (List.length l23) false], .callo (.tup [.v (.int .i64 v29), .v (.int .i64 v30), .agg [.v (.int .u64 v31), .v (.int .u64 v32), .v (.int .i64 v33), .os 0 n28], .v (.int .i64 v34)]) [.arr 5 l27 n28 false], .callo (.tup [.v (.int .i64 v38), .v (.int .i64 v39), .agg [.v (.int .u64 v40), .v (.int .u64 v41), .v (.int .i64 v42), .os 0 (List.length l37)], .v (.int .i64 v43)]) [.arr 5 l37 (List.length l37) false], .callv (.v (.string (bstr l19))), .callv (.v (.string (bstr l23))), .dec true, .dec true, .dec true, .dec true, .callv (.v (.bool r48)), .dec true, .dec false]) (hrun := by kernel_rfl) (hps := pc (k_palinglaw15_Great h7) <| pc (h8) <| pc (h11) <| pc (h14) <| pc (k_leave_At h18) <| pc (im5 l19) <| pc (k_palingref28_At h22) <| pc (im5 l23) <| pc (k_leave_Link h26) <| pc (im5 l27) <| pc (k_palingref28_Link h36) <| pc (im5 l37) <| pc (cvb5 l19) <| pc ((rfl : ((List.length l19) : Nat) = (List.length l19))) <| pc (cvb5 l23) <| pc ((rfl : ((List.length l23) : Nat) = (List.length l23))) <| pc (h44) <| pc (h45) <| pc (h46) <| pc (h47) <| pc (k_palingref04_Same h49) <| pc ((rfl : (n28 : Nat) = n28)) <| pc ((rfl : ((List.length l37) : Nat) = (List.length l37))) <| pc (h50) <| pc (h51) <| pn)
                · injection h with h; subst h; exact runFn_sound mixedOrders Try.func9 rfl (keep := none) (π := [.callv (.v (.bool r6)), .dec false, .dec false, .dec false, .callo (.tup [.os 0 (List.length l19), .v (.int .i64 v20)]) [.arr 5 l19 (List.length l19) false], .callo (.tup [.os 0 (List.length l23), .v (.int .i64 v24)]) [.arr 5 l23 (List.length l23) false], .callo (.tup [.v (.int .i64 v29), .v (.int .i64 v30), .agg [.v (.int .u64 v31), .v (.int .u64 v32), .v (.int .i64 v33), .os 0 n28], .v (.int .i64 v34)]) [.arr 5 l27 n28 false], .callo (.tup [.v (.int .i64 v38), .v (.int .i64 v39), .agg [.v (.int .u64 v40), .v (.int .u64 v41), .v (.int .i64 v42), .os 0 (List.length l37)], .v (.int .i64 v43)]) [.arr 5 l37 (List.length l37) false], .callv (.v (.string (bstr l19))), .callv (.v (.string (bstr l23))), .dec true, .dec true, .dec true, .dec true, .callv (.v (.bool r48)), .dec false]) (hrun := by kernel_rfl) (hps := pc (k_palinglaw15_Great h7) <| pc (h8) <| pc (h11) <| pc (h14) <| pc (k_leave_At h18) <| pc (im5 l19) <| pc (k_palingref28_At h22) <| pc (im5 l23) <| pc (k_leave_Link h26) <| pc (im5 l27) <| pc (k_palingref28_Link h36) <| pc (im5 l37) <| pc (cvb5 l19) <| pc ((rfl : ((List.length l19) : Nat) = (List.length l19))) <| pc (cvb5 l23) <| pc ((rfl : ((List.length l23) : Nat) = (List.length l23))) <| pc (h44) <| pc (h45) <| pc (h46) <| pc (h47) <| pc (k_palingref04_Same h49) <| pc ((rfl : (n28 : Nat) = n28)) <| pc ((rfl : ((List.length l37) : Nat) = (List.length l37))) <| pc (h50) <| pn)
              · injection h with h; subst h; exact runFn_sound mixedOrders Try.func9 rfl (keep := none) (π := [.callv (.v (.bool r6)), .dec false, .dec false, .dec false, .callo (.tup [.os 0 (List.length l19), .v (.int .i64 v20)]) [.arr 5 l19 (List.length l19) false], .callo (.tup [.os 0 (List.length l23), .v (.int .i64 v24)]) [.arr 5 l23 (List.length l23) false], .callo (.tup [.v (.int .i64 v29), .v (.int .i64 v30), .agg [.v (.int .u64 v31), .v (.int .u64 v32), .v (.int .i64 v33), .os 0 n28], .v (.int .i64 v34)]) [.arr 5 l27 n28 false], .callo (.tup [.v (.int .i64 v38), .v (.int .i64 v39), .agg [.v (.int .u64 v40), .v (.int .u64 v41), .v (.int .i64 v42), .os 0 (List.length l37)], .v (.int .i64 v43)]) [.arr 5 l37 (List.length l37) false], .callv (.v (.string (bstr l19))), .callv (.v (.string (bstr l23))), .dec true, .dec true, .dec true, .dec false]) (hrun := by kernel_rfl) (hps := pc (k_palinglaw15_Great h7) <| pc (h8) <| pc (h11) <| pc (h14) <| pc (k_leave_At h18) <| pc (im5 l19) <| pc (k_palingref28_At h22) <| pc (im5 l23) <| pc (k_leave_Link h26) <| pc (im5 l27) <| pc (k_palingref28_Link h36) <| pc (im5 l37) <| pc (cvb5 l19) <| pc ((rfl : ((List.length l19) : Nat) = (List.length l19))) <| pc (cvb5 l23) <| pc ((rfl : ((List.length l23) : Nat) = (List.length l23))) <| pc (h44) <| pc (h45) <| pc (h46) <| pc (h47) <| pn)
            · injection h with h; subst h; exact runFn_sound mixedOrders Try.func9 rfl (keep := none) (π := [.callv (.v (.bool r6)), .dec false, .dec false, .dec false, .callo (.tup [.os 0 (List.length l19), .v (.int .i64 v20)]) [.arr 5 l19 (List.length l19) false], .callo (.tup [.os 0 (List.length l23), .v (.int .i64 v24)]) [.arr 5 l23 (List.length l23) false], .callo (.tup [.v (.int .i64 v29), .v (.int .i64 v30), .agg [.v (.int .u64 v31), .v (.int .u64 v32), .v (.int .i64 v33), .os 0 n28], .v (.int .i64 v34)]) [.arr 5 l27 n28 false], .callo (.tup [.v (.int .i64 v38), .v (.int .i64 v39), .agg [.v (.int .u64 v40), .v (.int .u64 v41), .v (.int .i64 v42), .os 0 (List.length l37)], .v (.int .i64 v43)]) [.arr 5 l37 (List.length l37) false], .callv (.v (.string (bstr l19))), .callv (.v (.string (bstr l23))), .dec true, .dec true, .dec false]) (hrun := by kernel_rfl) (hps := pc (k_palinglaw15_Great h7) <| pc (h8) <| pc (h11) <| pc (h14) <| pc (k_leave_At h18) <| pc (im5 l19) <| pc (k_palingref28_At h22) <| pc (im5 l23) <| pc (k_leave_Link h26) <| pc (im5 l27) <| pc (k_palingref28_Link h36) <| pc (im5 l37) <| pc (cvb5 l19) <| pc ((rfl : ((List.length l19) : Nat) = (List.length l19))) <| pc (cvb5 l23) <| pc ((rfl : ((List.length l23) : Nat) = (List.length l23))) <| pc (h44) <| pc (h45) <| pc (h46) <| pn)
          · injection h with h; subst h; exact runFn_sound mixedOrders Try.func9 rfl (keep := none) (π := [.callv (.v (.bool r6)), .dec false, .dec false, .dec false, .callo (.tup [.os 0 (List.length l19), .v (.int .i64 v20)]) [.arr 5 l19 (List.length l19) false], .callo (.tup [.os 0 (List.length l23), .v (.int .i64 v24)]) [.arr 5 l23 (List.length l23) false], .callo (.tup [.v (.int .i64 v29), .v (.int .i64 v30), .agg [.v (.int .u64 v31), .v (.int .u64 v32), .v (.int .i64 v33), .os 0 n28], .v (.int .i64 v34)]) [.arr 5 l27 n28 false], .callo (.tup [.v (.int .i64 v38), .v (.int .i64 v39), .agg [.v (.int .u64 v40), .v (.int .u64 v41), .v (.int .i64 v42), .os 0 (List.length l37)], .v (.int .i64 v43)]) [.arr 5 l37 (List.length l37) false], .callv (.v (.string (bstr l19))), .callv (.v (.string (bstr l23))), .dec true, .dec false]) (hrun := by kernel_rfl) (hps := pc (k_palinglaw15_Great h7) <| pc (h8) <| pc (h11) <| pc (h14) <| pc (k_leave_At h18) <| pc (im5 l19) <| pc (k_palingref28_At h22) <| pc (im5 l23) <| pc (k_leave_Link h26) <| pc (im5 l27) <| pc (k_palingref28_Link h36) <| pc (im5 l37) <| pc (cvb5 l19) <| pc ((rfl : ((List.length l19) : Nat) = (List.length l19))) <| pc (cvb5 l23) <| pc ((rfl : ((List.length l23) : Nat) = (List.length l23))) <| pc (h44) <| pc (h45) <| pn)
        · injection h with h; subst h; exact runFn_sound mixedOrders Try.func9 rfl (keep := none) (π := [.callv (.v (.bool r6)), .dec false, .dec false, .dec false, .callo (.tup [.os 0 (List.length l19), .v (.int .i64 v20)]) [.arr 5 l19 (List.length l19) false], .callo (.tup [.os 0 (List.length l23), .v (.int .i64 v24)]) [.arr 5 l23 (List.length l23) false], .callo (.tup [.v (.int .i64 v29), .v (.int .i64 v30), .agg [.v (.int .u64 v31), .v (.int .u64 v32), .v (.int .i64 v33), .os 0 n28], .v (.int .i64 v34)]) [.arr 5 l27 n28 false], .callo (.tup [.v (.int .i64 v38), .v (.int .i64 v39), .agg [.v (.int .u64 v40), .v (.int .u64 v41), .v (.int .i64 v42), .os 0 (List.length l37)], .v (.int .i64 v43)]) [.arr 5 l37 (List.length l37) false], .callv (.v (.string (bstr l19))), .callv (.v (.string (bstr l23))), .dec false]) (hrun := by kernel_rfl) (hps := pc (k_palinglaw15_Great h7) <| pc (h8) <| pc (h11) <| pc (h14) <| pc (k_leave_At h18) <| pc (im5 l19) <| pc (k_palingref28_At h22) <| pc (im5 l23) <| pc (k_leave_Link h26) <| pc (im5 l27) <| pc (k_palingref28_Link h36) <| pc (im5 l37) <| pc (cvb5 l19) <| pc ((rfl : ((List.length l19) : Nat) = (List.length l19))) <| pc (cvb5 l23) <| pc ((rfl : ((List.length l23) : Nat) = (List.length l23))) <| pc (h44) <| pn)

end Go.Eng
