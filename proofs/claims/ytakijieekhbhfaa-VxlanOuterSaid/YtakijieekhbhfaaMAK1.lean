/- Part of the proof of VxlanOuter: printed mirrors of the functions, or their contracts. No conditions. -/
import Derived.Test.YtakijieekhbhfaaMAK
set_option linter.unusedVariables false
set_option maxRecDepth 100000
namespace Go.Eng
open Go Go.Proofs
theorem k_tag_Is {a1 : Api_Frame} {r : Bool} (h : tag_Is a1 = some r) :
    CallsOK Try.prog UU 44 [.agg (c37 a1)] [] (.v (.bool r)) [] := by
  unfold tag_Is at h
  injection h with h; subst h; exact runFn_sound mixedOrders Try.func44 rfl (keep := none) (π := []) (hrun := by kernel_rfl) (hps := pn)

theorem k_mac_shift {a1 : Int} {r : Int} (h : mac_shift a1 = some r) :
    CallsOK Try.prog UU 158 [.v (.int .i64 a1)] [] (.v (.int .u64 r)) [] := by
  unfold mac_shift at h
  injection h with h; subst h; exact runFn_sound mixedOrders Try.func158 rfl (keep := none) (π := []) (hrun := by kernel_rfl) (hps := pn)

theorem k_mac_Put_own_L1 {a2 : Int} : LoopOK Try.prog UU 1 19 (subC (codeOf Try.f108) [1, 0, 1, 0, 0]) (fun s : (List Int) × Int => match s with | (l3, v4) => mac_Put_own_L1 a2 l3 v4)
    (fun s : (List Int) × Int => (match s with | (l3, v4) => [(0, .os 0 (List.length l3)), (1, .v (.int .u64 a2)), (4, .os 1 0), (6, .v (.int .i64 v4))] : Fr DD)) (fun s : (List Int) × Int => (match s with | (l3, v4) => [.arr 5 l3 (List.length l3) false, .n 5] : Heap DD)) (fun r => match r with | l12 => .exit 0) (fun r => match r with | l12 => [(0, .os 0 (List.length l12)), (4, .os 1 0)]) (fun r => match r with | l12 => [.arr 5 l12 (List.length l12) false, .n 5]) := by
  refine loop_sound3 (fun s q h => ?_) (fun r => ?_)
  · obtain ⟨l3, v4⟩ := s; replace h : mac_Put_own_L1 a2 l3 v4 = some q := h
    unfold mac_Put_own_L1 at h
    rcases ite_out h with ⟨h5, h⟩ | ⟨h5, h⟩
    · obtain ⟨r6, h7, h⟩ := bind_out h
      rcases ite_out h with ⟨h8, h⟩ | ⟨h8, h⟩
      · rcases ite_out h with ⟨h9, h⟩ | ⟨h9, h⟩
        · injection h with h; subst h; exact runLp_sound mixedOrders (live := [0, 1, 4, 6]) (ids := [0, 1]) (π := [.dec true, .callv (.v (.int .u64 r6)), .obj [] (.arr 5 [(wr_u8 (Int.fdiv a2 (2 ^ (min (Int.toNat r6) 64))) : Int)] (List.length [(wr_u8 (Int.fdiv a2 (2 ^ (min (Int.toNat r6) 64))) : Int)]) false), .obj [] (.arr 5 (l3 ++ [(wr_u8 (Int.fdiv a2 (2 ^ (min (Int.toNat r6) 64))) : Int)]) (List.length (l3 ++ [(wr_u8 (Int.fdiv a2 (2 ^ (min (Int.toNat r6) 64))) : Int)])) false)]) (hx := by kernel_rfl) (hps := pc (h5) <| pc (k_mac_shift h7) <| pc (of_decide_eq_true h8) <| pc (bs_ob 5 [(wr_u8 (Int.fdiv a2 (2 ^ (min (Int.toNat r6) 64))) : Int)]) <| pc (app_ob 5 (n := (List.length l3)) (l := l3) (xs := [(wr_u8 (Int.fdiv a2 (2 ^ (min (Int.toNat r6) 64))) : Int)]) h9) <| pc ((rfl : ((List.length [(wr_u8 (Int.fdiv a2 (2 ^ (min (Int.toNat r6) 64))) : Int)]) : Nat) = (List.length [(wr_u8 (Int.fdiv a2 (2 ^ (min (Int.toNat r6) 64))) : Int)]))) <| pn)
        · cases h
      · cases h
    · injection h with h; subst h; exact runLp_sound mixedOrders (live := [0, 4]) (ids := [0, 1]) (π := [.dec false]) (hx := by kernel_rfl) (hps := pc (h5) <| pn)
  · exact Ex.noConfusion

theorem k_mac_Put_own {a1 : List Int} {a2 : Int} {r : ((List Int))} (h : mac_Put_own a1 a2 = some r) :
    CallsOK Try.prog UU 108 [.os 0 (List.length a1), .v (.int .u64 a2)] [.arr 5 a1 (List.length a1) false] ((fun r => match r with | l15 => .os 0 (List.length l15)) r) ((fun r => match r with | l15 => [.arr 5 l15 (List.length l15) false]) r) := by
  unfold mac_Put_own at h
  obtain ⟨l12, h13, h⟩ := bind_out h
  injection h with h; subst h; exact runFn_sound mixedOrders Try.func108 rfl (keep := some [0]) (π := [.sum [0, 1, 4, 6] [0, 1] (.exit 0) [(0, .os 0 (List.length l12)), (4, .os 1 0)] [.arr 5 l12 (List.length l12) false, .n 5]]) (hrun := by kernel_rfl) (hps := pc (k_mac_Put_own_L1 _ _ h13) <| pn)

theorem k_ether_Put {a1 : Api_Frame} {r : ((List Int) × Int)} (h : ether_Put a1 = some r) :
    CallsOK Try.prog UU 48 [.agg (c37 a1)] [] ((fun r => match r with | (l15, v16) => .tup [.os 0 (List.length l15), .v (.int .i64 v16)]) r) ((fun r => match r with | (l15, v16) => [.arr 5 l15 (List.length l15) false]) r) := by
  unfold ether_Put at h
  rcases ite_out h with ⟨h2, h⟩ | ⟨h2, h⟩
  · injection h with h; subst h; exact runFn_sound mixedOrders Try.func48 rfl (keep := some [2]) (π := [.dec true]) (hrun := by kernel_rfl) (hps := pc (h2) <| pn)
  · rcases ite_out h with ⟨h3, h⟩ | ⟨h3, h⟩
    · injection h with h; subst h; exact runFn_sound mixedOrders Try.func48 rfl (keep := some [2]) (π := [.dec false, .dec true]) (hrun := by kernel_rfl) (hps := pc (h2) <| pc (h3) <| pn)
    · rcases ite_out h with ⟨h4, h⟩ | ⟨h4, h⟩
      · injection h with h; subst h; exact runFn_sound mixedOrders Try.func48 rfl (keep := some [2]) (π := [.dec false, .dec false, .dec true]) (hrun := by kernel_rfl) (hps := pc (h2) <| pc (h3) <| pc (h4) <| pn)
      · rcases ite_out h with ⟨h5, h⟩ | ⟨h5, h⟩
        · injection h with h; subst h; exact runFn_sound mixedOrders Try.func48 rfl (keep := some [2]) (π := [.dec false, .dec false, .dec false, .dec true]) (hrun := by kernel_rfl) (hps := pc (h2) <| pc (h3) <| pc (h4) <| pc (h5) <| pn)
        · rcases ite_out h with ⟨h6, h⟩ | ⟨h6, h⟩
          · injection h with h; subst h; exact runFn_sound mixedOrders Try.func48 rfl (keep := some [2]) (π := [.dec false, .dec false, .dec false, .dec false, .dec true]) (hrun := by kernel_rfl) (hps := pc (h2) <| pc (h3) <| pc (h4) <| pc (h5) <| pc (h6) <| pn)
          · obtain ⟨l9, h8, h⟩ := bind_out h
            obtain ⟨l12, h11, h⟩ := bind_out h
            rcases ite_out h with ⟨h13, h⟩ | ⟨h13, h⟩
            · rcases ite_out h with ⟨h14, h⟩ | ⟨h14, h⟩
              · injection h with h; subst h; exact runFn_sound mixedOrders Try.func48 rfl (keep := some [2]) (π := [.dec false, .dec false, .dec false, .dec false, .dec false, .sum [2] [] .nor [] [.box 37 (c37 a1) false, .n 5, .arr 5 l9 (List.length l9) false], .skp, .callm [2] (.os 0 (List.length l9)) [.arr 5 l9 (List.length l9) false], .callm [2] (.os 0 (List.length l12)) [.arr 5 l12 (List.length l12) false], .sum [9] [] .nor [] [.box 37 (c37 a1) false, .n 5, .arr 5 (l12 ++ [(wr_u8 (Int.fdiv a1.type_ (2 ^ 8)) : Int), (wr_u8 a1.type_ : Int)]) (List.length (l12 ++ [(wr_u8 (Int.fdiv a1.type_ (2 ^ 8)) : Int), (wr_u8 a1.type_ : Int)])) false], .obj [] (.arr 5 [(wr_u8 (Int.fdiv a1.type_ (2 ^ 8)) : Int), (wr_u8 a1.type_ : Int)] (List.length [(wr_u8 (Int.fdiv a1.type_ (2 ^ 8)) : Int), (wr_u8 a1.type_ : Int)]) false), .obj [] (.arr 5 (l12 ++ [(wr_u8 (Int.fdiv a1.type_ (2 ^ 8)) : Int), (wr_u8 a1.type_ : Int)]) (List.length (l12 ++ [(wr_u8 (Int.fdiv a1.type_ (2 ^ 8)) : Int), (wr_u8 a1.type_ : Int)])) false), .obj [] (.arr 5 ((l12 ++ [(wr_u8 (Int.fdiv a1.type_ (2 ^ 8)) : Int), (wr_u8 a1.type_ : Int)]) ++ a1.body) (List.length ((l12 ++ [(wr_u8 (Int.fdiv a1.type_ (2 ^ 8)) : Int), (wr_u8 a1.type_ : Int)]) ++ a1.body)) false)]) (hrun := by kernel_rfl) (hps := pc (h2) <| pc (h3) <| pc (h4) <| pc (h5) <| pc (h6) <| pc ((rfl : ([.box 37 (c37 a1) false, .n 5, .arr 5 l9 (List.length l9) false] : Heap DD) = [.box 37 (c37 a1) false, .n 5, .arr 5 l9 (List.length l9) false])) <| pc (k_mac_Put_own h8) <| pc ((rfl : (.op 0 1 0 1 : AV DD) = .op 0 1 0 1)) <| pc ((rfl : (.v (.int .u64 a1.src) : AV DD) = .v (.int .u64 a1.src))) <| pc (k_mac_Put_own h11) <| pc ((show (0 : Int) ≤ 8 from by decide)) <| pc (bs_ob 5 [(wr_u8 (Int.fdiv a1.type_ (2 ^ 8)) : Int), (wr_u8 a1.type_ : Int)]) <| pc ((rfl : ([.box 37 (c37 a1) false, .n 5, .arr 5 (l12 ++ [(wr_u8 (Int.fdiv a1.type_ (2 ^ 8)) : Int), (wr_u8 a1.type_ : Int)]) (List.length (l12 ++ [(wr_u8 (Int.fdiv a1.type_ (2 ^ 8)) : Int), (wr_u8 a1.type_ : Int)])) false] : Heap DD) = [.box 37 (c37 a1) false, .n 5, .arr 5 (l12 ++ [(wr_u8 (Int.fdiv a1.type_ (2 ^ 8)) : Int), (wr_u8 a1.type_ : Int)]) (List.length (l12 ++ [(wr_u8 (Int.fdiv a1.type_ (2 ^ 8)) : Int), (wr_u8 a1.type_ : Int)])) false])) <| pc (app_ob 5 (n := (List.length l12)) (l := l12) (xs := [(wr_u8 (Int.fdiv a1.type_ (2 ^ 8)) : Int), (wr_u8 a1.type_ : Int)]) h13) <| pc ((rfl : (.op 0 1 0 3 : AV DD) = .op 0 1 0 3)) <| pc ((rfl : (.sl 5 a1.body : AV DD) = .sl 5 a1.body)) <| pc (app_ob 5 (n := (List.length (l12 ++ [(wr_u8 (Int.fdiv a1.type_ (2 ^ 8)) : Int), (wr_u8 a1.type_ : Int)]))) (l := l12 ++ [(wr_u8 (Int.fdiv a1.type_ (2 ^ 8)) : Int), (wr_u8 a1.type_ : Int)]) (xs := a1.body) h14) <| pn)
              · cases h
            · cases h

theorem k_vxlan_Head {a1 : Int} {r : ((List Int) × Int)} (h : vxlan_Head a1 = some r) :
    CallsOK Try.prog UU 13 [.v (.int .i64 a1)] [] ((fun r => match r with | (l4, v5) => .tup [.os 0 (List.length l4), .v (.int .i64 v5)]) r) ((fun r => match r with | (l4, v5) => [.arr 5 l4 (List.length l4) false]) r) := by
  unfold vxlan_Head at h
  rcases ite_out h with ⟨h2, h⟩ | ⟨h2, h⟩
  · injection h with h; subst h; exact runFn_sound mixedOrders Try.func13 rfl (keep := some [1]) (π := [.dec true]) (hrun := by kernel_rfl) (hps := pc (h2) <| pn)
  · rcases ite_out h with ⟨h3, h⟩ | ⟨h3, h⟩
    · injection h with h; subst h; exact runFn_sound mixedOrders Try.func13 rfl (keep := some [1]) (π := [.dec false, .dec true]) (hrun := by kernel_rfl) (hps := pc (h2) <| pc (h3) <| pn)
    · injection h with h; subst h; exact runFn_sound mixedOrders Try.func13 rfl (keep := some [1]) (π := [.dec false, .dec false, .obj [] (.arr 5 [(8 : Int), (0 : Int), (0 : Int), (0 : Int), (wr_u8 (Int.fdiv a1 (2 ^ 16)) : Int), (wr_u8 (Int.fdiv a1 (2 ^ 8)) : Int), (wr_u8 a1 : Int), (0 : Int)] (List.length [(8 : Int), (0 : Int), (0 : Int), (0 : Int), (wr_u8 (Int.fdiv a1 (2 ^ 16)) : Int), (wr_u8 (Int.fdiv a1 (2 ^ 8)) : Int), (wr_u8 a1 : Int), (0 : Int)]) false)]) (hrun := by kernel_rfl) (hps := pc (h2) <| pc (h3) <| pc ((show (0 : Int) ≤ 16 from by decide)) <| pc ((show (0 : Int) ≤ 8 from by decide)) <| pc (bs_ob 5 [(8 : Int), (0 : Int), (0 : Int), (0 : Int), (wr_u8 (Int.fdiv a1 (2 ^ 16)) : Int), (wr_u8 (Int.fdiv a1 (2 ^ 8)) : Int), (wr_u8 a1 : Int), (0 : Int)]) <| pn)

theorem k_udp_Port {a1 : Int} {a2 : Int} {r : Int} (h : udp_Port a1 a2 = some r) :
    CallsOK Try.prog UU 50 [.v (.int .u64 a1), .v (.int .u64 a2)] [] (.v (.int .i64 r)) [] := by
  unfold udp_Port at h
  injection h with h; subst h; exact runFn_sound mixedOrders Try.func50 rfl (keep := none) (π := []) (hrun := by kernel_rfl) (hps := pc ((show (16384 : Int) ≠ 0 from by decide)) <| pn)

theorem k_udp_Put_L1 {a1 : Int} {a2 : Int} {a3 : List Int} : LoopOK Try.prog UU 0 51 (subC (codeOf Try.f49) [1, 1, 1, 0, 1, 0, 0]) (fun s : (List Int) × Int => match s with | (l9, v10) => udp_Put_L1 a1 a2 a3 l9 v10)
    (fun s : (List Int) × Int => (match s with | (l9, v10) => [(2, .sl 5 a3), (6, .os 0 0), (7, .z), (8, .os 1 (List.length l9)), (35, .agg [.v (.int .i64 a1), .v (.int .i64 a2), .v (.int .i64 (wr_i64 (8 + (a3.length : Int)))), .z]), (36, .v (.int .i64 v10))] : Fr DD)) (fun s : (List Int) × Int => (match s with | (l9, v10) => [.n 5, .arr 5 l9 (List.length l9) false] : Heap DD)) (fun r => match r with | l24 => .exit 1) (fun r => match r with | l24 => [(2, .sl 5 a3), (6, .os 0 0), (7, .z), (8, .os 1 (List.length l24))]) (fun r => match r with | l24 => [.n 5, .arr 5 l24 (List.length l24) false]) := by
  refine loop_sound3 (fun s q h => ?_) (fun r => ?_)
  · obtain ⟨l9, v10⟩ := s; replace h : udp_Put_L1 a1 a2 a3 l9 v10 = some q := h
    unfold udp_Put_L1 at h
    rcases ite_out h with ⟨h11, h⟩ | ⟨h11, h⟩
    · rcases ite_out h with ⟨h12, h⟩ | ⟨h12, h⟩
      · rcases ite_out h with ⟨h13, h⟩ | ⟨h13, h⟩
        · injection h with h; subst h; exact runLp_sound mixedOrders (live := [2, 6, 7, 8, 35, 36]) (ids := [0, 1]) (π := [.dec true, .frz [0], .obj [] (.arr 5 [(wr_u8 (Int.fdiv a1 (2 ^ 8)) : Int), (wr_u8 a1 : Int)] (List.length [(wr_u8 (Int.fdiv a1 (2 ^ 8)) : Int), (wr_u8 a1 : Int)]) false), .obj [] (.arr 5 (l9 ++ [(wr_u8 (Int.fdiv a1 (2 ^ 8)) : Int), (wr_u8 a1 : Int)]) (List.length (l9 ++ [(wr_u8 (Int.fdiv a1 (2 ^ 8)) : Int), (wr_u8 a1 : Int)])) false)]) (hx := by kernel_rfl) (hps := pc (h11) <| pc (eq_of_beq h12) <| pc ((show (0 : Int) ≤ 8 from by decide)) <| pc (bs_ob 5 [(wr_u8 (Int.fdiv a1 (2 ^ 8)) : Int), (wr_u8 a1 : Int)]) <| pc (app_ob 5 (n := (List.length l9)) (l := l9) (xs := [(wr_u8 (Int.fdiv a1 (2 ^ 8)) : Int), (wr_u8 a1 : Int)]) h13) <| pc ((rfl : ((List.length [(wr_u8 (Int.fdiv a1 (2 ^ 8)) : Int), (wr_u8 a1 : Int)]) : Nat) = (List.length [(wr_u8 (Int.fdiv a1 (2 ^ 8)) : Int), (wr_u8 a1 : Int)]))) <| pn)
        · cases h
      · rcases ite_out h with ⟨h14, h⟩ | ⟨h14, h⟩
        · rcases ite_out h with ⟨h15, h⟩ | ⟨h15, h⟩
          · injection h with h; subst h; exact runLp_sound mixedOrders (live := [2, 6, 7, 8, 35, 36]) (ids := [0, 1]) (π := [.dec true, .frz [1], .obj [] (.arr 5 [(wr_u8 (Int.fdiv a2 (2 ^ 8)) : Int), (wr_u8 a2 : Int)] (List.length [(wr_u8 (Int.fdiv a2 (2 ^ 8)) : Int), (wr_u8 a2 : Int)]) false), .obj [] (.arr 5 (l9 ++ [(wr_u8 (Int.fdiv a2 (2 ^ 8)) : Int), (wr_u8 a2 : Int)]) (List.length (l9 ++ [(wr_u8 (Int.fdiv a2 (2 ^ 8)) : Int), (wr_u8 a2 : Int)])) false)]) (hx := by kernel_rfl) (hps := pc (h11) <| pc (eq_of_beq h14) <| pc ((show (0 : Int) ≤ 8 from by decide)) <| pc (bs_ob 5 [(wr_u8 (Int.fdiv a2 (2 ^ 8)) : Int), (wr_u8 a2 : Int)]) <| pc (app_ob 5 (n := (List.length l9)) (l := l9) (xs := [(wr_u8 (Int.fdiv a2 (2 ^ 8)) : Int), (wr_u8 a2 : Int)]) h15) <| pc ((rfl : ((List.length [(wr_u8 (Int.fdiv a2 (2 ^ 8)) : Int), (wr_u8 a2 : Int)]) : Nat) = (List.length [(wr_u8 (Int.fdiv a2 (2 ^ 8)) : Int), (wr_u8 a2 : Int)]))) <| pn)
          · cases h
        · rcases ite_out h with ⟨h16, h⟩ | ⟨h16, h⟩
          · rcases ite_out h with ⟨h17, h⟩ | ⟨h17, h⟩
            · injection h with h; subst h; exact runLp_sound mixedOrders (live := [2, 6, 7, 8, 35, 36]) (ids := [0, 1]) (π := [.dec true, .frz [2], .obj [] (.arr 5 [(wr_u8 (Int.fdiv (wr_i64 (8 + (a3.length : Int))) (2 ^ 8)) : Int), (wr_u8 (wr_i64 (8 + (a3.length : Int))) : Int)] (List.length [(wr_u8 (Int.fdiv (wr_i64 (8 + (a3.length : Int))) (2 ^ 8)) : Int), (wr_u8 (wr_i64 (8 + (a3.length : Int))) : Int)]) false), .obj [] (.arr 5 (l9 ++ [(wr_u8 (Int.fdiv (wr_i64 (8 + (a3.length : Int))) (2 ^ 8)) : Int), (wr_u8 (wr_i64 (8 + (a3.length : Int))) : Int)]) (List.length (l9 ++ [(wr_u8 (Int.fdiv (wr_i64 (8 + (a3.length : Int))) (2 ^ 8)) : Int), (wr_u8 (wr_i64 (8 + (a3.length : Int))) : Int)])) false)]) (hx := by kernel_rfl) (hps := pc (h11) <| pc (eq_of_beq h16) <| pc ((show (0 : Int) ≤ 8 from by decide)) <| pc (bs_ob 5 [(wr_u8 (Int.fdiv (wr_i64 (8 + (a3.length : Int))) (2 ^ 8)) : Int), (wr_u8 (wr_i64 (8 + (a3.length : Int))) : Int)]) <| pc (app_ob 5 (n := (List.length l9)) (l := l9) (xs := [(wr_u8 (Int.fdiv (wr_i64 (8 + (a3.length : Int))) (2 ^ 8)) : Int), (wr_u8 (wr_i64 (8 + (a3.length : Int))) : Int)]) h17) <| pc ((rfl : ((List.length [(wr_u8 (Int.fdiv (wr_i64 (8 + (a3.length : Int))) (2 ^ 8)) : Int), (wr_u8 (wr_i64 (8 + (a3.length : Int))) : Int)]) : Nat) = (List.length [(wr_u8 (Int.fdiv (wr_i64 (8 + (a3.length : Int))) (2 ^ 8)) : Int), (wr_u8 (wr_i64 (8 + (a3.length : Int))) : Int)]))) <| pn)
            · cases h
          · rcases ite_out h with ⟨h18, h⟩ | ⟨h18, h⟩
            · rcases ite_out h with ⟨h19, h⟩ | ⟨h19, h⟩
              · injection h with h; subst h; exact runLp_sound mixedOrders (live := [2, 6, 7, 8, 35, 36]) (ids := [0, 1]) (π := [.dec true, .frz [3], .obj [] (.arr 5 [(wr_u8 (Int.fdiv 0 (2 ^ 8)) : Int), (wr_u8 0 : Int)] (List.length [(wr_u8 (Int.fdiv 0 (2 ^ 8)) : Int), (wr_u8 0 : Int)]) false), .obj [] (.arr 5 (l9 ++ [(wr_u8 (Int.fdiv 0 (2 ^ 8)) : Int), (wr_u8 0 : Int)]) (List.length (l9 ++ [(wr_u8 (Int.fdiv 0 (2 ^ 8)) : Int), (wr_u8 0 : Int)])) false)]) (hx := by kernel_rfl) (hps := pc (h11) <| pc (eq_of_beq h18) <| pc ((show (0 : Int) ≤ 8 from by decide)) <| pc (bs_ob 5 [(wr_u8 (Int.fdiv 0 (2 ^ 8)) : Int), (wr_u8 0 : Int)]) <| pc (app_ob 5 (n := (List.length l9)) (l := l9) (xs := [(wr_u8 (Int.fdiv 0 (2 ^ 8)) : Int), (wr_u8 0 : Int)]) h19) <| pc ((rfl : ((List.length [(wr_u8 (Int.fdiv 0 (2 ^ 8)) : Int), (wr_u8 0 : Int)]) : Nat) = (List.length [(wr_u8 (Int.fdiv 0 (2 ^ 8)) : Int), (wr_u8 0 : Int)]))) <| pn)
              · cases h
            · cases h
    · injection h with h; subst h; exact runLp_sound mixedOrders (live := [2, 6, 7, 8]) (ids := [0, 1]) (π := [.dec false]) (hx := by kernel_rfl) (hps := pc (h11) <| pn)
  · exact Ex.noConfusion

theorem k_udp_Put {a1 : Int} {a2 : Int} {a3 : List Int} {r : ((List Int) × Int)} (h : udp_Put a1 a2 a3 = some r) :
    CallsOK Try.prog UU 49 [.v (.int .i64 a1), .v (.int .i64 a2), .sl 5 a3] [] ((fun r => match r with | (l28, v29) => .tup [.os 0 (List.length l28), .v (.int .i64 v29)]) r) ((fun r => match r with | (l28, v29) => [.arr 5 l28 (List.length l28) false]) r) := by
  unfold udp_Put at h
  rcases ite_out h with ⟨h4, h⟩ | ⟨h4, h⟩
  · injection h with h; subst h; exact runFn_sound mixedOrders Try.func49 rfl (keep := some [1]) (π := [.dec true]) (hrun := by kernel_rfl) (hps := pc (h4) <| pn)
  · rcases ite_out h with ⟨h5, h⟩ | ⟨h5, h⟩
    · injection h with h; subst h; exact runFn_sound mixedOrders Try.func49 rfl (keep := some [1]) (π := [.dec false, .dec true]) (hrun := by kernel_rfl) (hps := pc (h4) <| pc (h5) <| pn)
    · rcases ite_out h with ⟨h6, h⟩ | ⟨h6, h⟩
      · injection h with h; subst h; exact runFn_sound mixedOrders Try.func49 rfl (keep := some [1]) (π := [.dec false, .dec false, .dec true]) (hrun := by kernel_rfl) (hps := pc (h4) <| pc (h5) <| pc (h6) <| pn)
      · rcases ite_out h with ⟨h7, h⟩ | ⟨h7, h⟩
        · injection h with h; subst h; exact runFn_sound mixedOrders Try.func49 rfl (keep := some [1]) (π := [.dec false, .dec false, .dec false, .dec true]) (hrun := by kernel_rfl) (hps := pc (h4) <| pc (h5) <| pc (h6) <| pc (h7) <| pn)
        · rcases ite_out h with ⟨h8, h⟩ | ⟨h8, h⟩
          · injection h with h; subst h; exact runFn_sound mixedOrders Try.func49 rfl (keep := some [1]) (π := [.dec false, .dec false, .dec false, .dec false, .dec true]) (hrun := by kernel_rfl) (hps := pc (h4) <| pc (h5) <| pc (h6) <| pc (h7) <| pc (h8) <| pn)
          · obtain ⟨l24, h25, h⟩ := bind_out h
            rcases ite_out h with ⟨h27, h⟩ | ⟨h27, h⟩
            · injection h with h; subst h; exact runFn_sound mixedOrders Try.func49 rfl (keep := some [1]) (π := [.dec false, .dec false, .dec false, .dec false, .dec false, .sum [2, 6, 7, 8, 35, 36] [0, 1] (.exit 1) [(2, .sl 5 a3), (6, .os 0 0), (7, .z), (8, .os 1 (List.length l24))] [.n 5, .arr 5 l24 (List.length l24) false], .obj [] (.arr 5 (l24 ++ a3) (List.length (l24 ++ a3)) false)]) (hrun := by kernel_rfl) (hps := pc (h4) <| pc (h5) <| pc (h6) <| pc (h7) <| pc (h8) <| pc (k_udp_Put_L1 _ _ h25) <| pc (app_ob 5 (n := (List.length l24)) (l := l24) (xs := a3) h27) <| pn)
            · cases h

theorem k_ipv4_Put_1 {a1 : Int} {a2 : Int} {r : Bool} (h : ipv4_Put_1 a1 a2 = some r) :
    CallsOK Try.prog UU 109 [.v (.int .i64 a1), .v (.int .i64 a2)] [] (.v (.bool r)) [] := by
  unfold ipv4_Put_1 at h
  rcases ite_out h with ⟨h3, h⟩ | ⟨h3, h⟩
  · injection h with h; subst h; exact runFn_sound mixedOrders Try.func109 rfl (keep := none) (π := [.dec true]) (hrun := by kernel_rfl) (hps := pc (h3) <| pn)
  · injection h with h; subst h; exact runFn_sound mixedOrders Try.func109 rfl (keep := none) (π := [.dec false]) (hrun := by kernel_rfl) (hps := pc (h3) <| pn)

theorem k_ipv4_put_own_L1 {a2 : List Int} : LoopOK Try.prog UU 2 23 (subC (codeOf Try.f110) [1, 0, 1, 0, 0]) (fun s : (List Int) × Int => match s with | (l3, v4) => ipv4_put_own_L1 a2 l3 v4)
    (fun s : (List Int) × Int => (match s with | (l3, v4) => [(0, .os 0 (List.length l3)), (4, .os 2 0), (7, .os 1 (List.length a2)), (8, .v (.int .i64 ((List.length a2) : Int))), (9, .v (.int .i64 v4))] : Fr DD)) (fun s : (List Int) × Int => (match s with | (l3, v4) => [.arr 5 l3 (List.length l3) false, .arr 3 a2 (List.length a2) false, .n 5] : Heap DD)) (fun r => match r with | l12 => .exit 0) (fun r => match r with | l12 => [(0, .os 0 (List.length l12)), (4, .os 2 0)]) (fun r => match r with | l12 => [.arr 5 l12 (List.length l12) false, .arr 3 a2 (List.length a2) false, .n 5]) := by
  refine loop_sound3 (fun s q h => ?_) (fun r => ?_)
  · obtain ⟨l3, v4⟩ := s; replace h : ipv4_put_own_L1 a2 l3 v4 = some q := h
    unfold ipv4_put_own_L1 at h
    rcases ite_out h with ⟨h5, h⟩ | ⟨h5, h⟩
    · rcases ite_out h with ⟨h6, h⟩ | ⟨h6, h⟩
      · obtain ⟨x7, h8, h⟩ := bind_out h
        rcases ite_out h with ⟨h9, h⟩ | ⟨h9, h⟩
        · injection h with h; subst h; exact runLp_sound mixedOrders (live := [0, 4, 7, 8, 9]) (ids := [0, 1, 2]) (π := [.dec true, .row (c3 x7), .obj [] (.arr 5 [(wr_u8 (Int.fdiv x7 (2 ^ 8)) : Int), (wr_u8 x7 : Int)] (List.length [(wr_u8 (Int.fdiv x7 (2 ^ 8)) : Int), (wr_u8 x7 : Int)]) false), .obj [] (.arr 5 (l3 ++ [(wr_u8 (Int.fdiv x7 (2 ^ 8)) : Int), (wr_u8 x7 : Int)]) (List.length (l3 ++ [(wr_u8 (Int.fdiv x7 (2 ^ 8)) : Int), (wr_u8 x7 : Int)])) false)]) (hx := by kernel_rfl) (hps := pc (h5) <| pc (And.intro (rfl : ((List.length a2) : Nat) = (List.length a2)) (lin_ob h6)) <| pc (And.intro (rfl : ((List.length a2) : Nat) = (List.length a2)) (obn3 h8)) <| pc ((show (0 : Int) ≤ 8 from by decide)) <| pc (bs_ob 5 [(wr_u8 (Int.fdiv x7 (2 ^ 8)) : Int), (wr_u8 x7 : Int)]) <| pc (app_ob 5 (n := (List.length l3)) (l := l3) (xs := [(wr_u8 (Int.fdiv x7 (2 ^ 8)) : Int), (wr_u8 x7 : Int)]) h9) <| pc ((rfl : ((List.length [(wr_u8 (Int.fdiv x7 (2 ^ 8)) : Int), (wr_u8 x7 : Int)]) : Nat) = (List.length [(wr_u8 (Int.fdiv x7 (2 ^ 8)) : Int), (wr_u8 x7 : Int)]))) <| pn)
        · cases h
      · cases h
    · injection h with h; subst h; exact runLp_sound mixedOrders (live := [0, 4]) (ids := [0, 1, 2]) (π := [.dec false]) (hx := by kernel_rfl) (hps := pc (h5) <| pn)
  · exact Ex.noConfusion

theorem k_ipv4_put_own {a1 : List Int} {a2 : List Int} {r : ((List Int))} (h : ipv4_put_own a1 a2 = some r) :
    CallsOK Try.prog UU 110 [.os 0 (List.length a1), .os 1 (List.length a2)] [.arr 5 a1 (List.length a1) false, .arr 3 a2 (List.length a2) false] ((fun r => match r with | l15 => .os 0 (List.length l15)) r) ((fun r => match r with | l15 => [.arr 5 l15 (List.length l15) false, .arr 3 a2 (List.length a2) false]) r) := by
  unfold ipv4_put_own at h
  obtain ⟨l12, h13, h⟩ := bind_out h
  injection h with h; subst h; exact runFn_sound mixedOrders Try.func110 rfl (keep := some [0, 1]) (π := [.sum [0, 4, 7, 8, 9] [0, 1, 2] (.exit 0) [(0, .os 0 (List.length l12)), (4, .os 2 0)] [.arr 5 l12 (List.length l12) false, .arr 3 a2 (List.length a2) false, .n 5]]) (hrun := by kernel_rfl) (hps := pc ((rfl : ((List.length a2) : Nat) = (List.length a2))) <| pc (k_ipv4_put_own_L1 _ _ h13) <| pn)

theorem k_sum_down_1_own {a1 : Int} {r : (Unit)} (h : sum_down_1_own a1 = some r) :
    CallsOK Try.prog UU 166 [.op 0 1 0 0] [.box 3 [.v (.int .i64 a1)] false] ((fun r => match r with | _ => .tup []) r) ((fun r => match r with | _ => [.box 3 [.v (.int .i64 (wr_i64 ((Int.fdiv a1 (2 ^ 16)) + (bits_and .i64 a1 65535))))] false]) r) := by
  unfold sum_down_1_own at h
  injection h with h; subst h; exact runFn_sound mixedOrders Try.func166 rfl (keep := some [0]) (π := []) (hrun := by kernel_rfl) (hps := pc ((show (0 : Int) ≤ 16 from by decide)) <| pn)

theorem k_sum_down_L1 : LoopOK Try.prog UU 0 10 (subC (codeOf Try.f161) [1, 1, 0, 0, 0]) (ρ := Int) (sum_down_L1)
    (fun v2 : Int => ([(1, .op 0 1 0 0), (2, .z), (3, .fn (.func 166) [] [.op 0 1 0 0])] : Fr DD)) (fun v2 : Int => ([.box 3 [.v (.int .i64 v2)] false] : Heap DD)) (fun r => match r with | v8 => .exit 0) (fun r => match r with | v8 => [(1, .op 0 1 0 0), (2, .z)]) (fun r => match r with | v8 => [.box 3 [.v (.int .i64 v8)] false]) := by
  refine loop_sound3 (fun s q h => ?_) (fun r => ?_)
  · replace h : sum_down_L1 s = some q := h; revert h; revert s; intro v2 h
    unfold sum_down_L1 at h
    rcases ite_out h with ⟨h3, h⟩ | ⟨h3, h⟩
    · obtain ⟨r4, h5, h⟩ := bind_out h
      injection h with h; subst h; exact runLp_sound mixedOrders (live := [1, 2, 3]) (ids := [0]) (π := [.dec true, .callm [0] (.tup []) [.box 3 [.v (.int .i64 (wr_i64 ((Int.fdiv v2 (2 ^ 16)) + (bits_and .i64 v2 65535))))] false]]) (hx := by kernel_rfl) (hps := pc (h3) <| pc (k_sum_down_1_own h5) <| pn)
    · injection h with h; subst h; exact runLp_sound mixedOrders (live := [1, 2]) (ids := [0]) (π := [.dec false]) (hx := by kernel_rfl) (hps := pc (h3) <| pn)
  · exact Ex.noConfusion

theorem k_sum_down {a1 : Int} {r : Int} (h : sum_down a1 = some r) :
    CallsOK Try.prog UU 161 [.v (.int .i64 a1)] [] (.v (.int .i64 r)) [] := by
  unfold sum_down at h
  obtain ⟨v8, h9, h⟩ := bind_out h
  injection h with h; subst h; exact runFn_sound mixedOrders Try.func161 rfl (keep := none) (π := [.sum [1, 2, 3] [0] (.exit 0) [(1, .op 0 1 0 0), (2, .z)] [.box 3 [.v (.int .i64 v8)] false]]) (hrun := by kernel_rfl) (hps := pc (k_sum_down_L1 _ _ h9) <| pn)

theorem k_sum_add_L1 {a1 : List Int} : LoopOK Try.prog UU 0 43 (subC (codeOf Try.f128) [1, 1, 0, 1, 0, 0]) (fun s : Int × Int => match s with | (v2, v3) => sum_add_L1 a1 v2 v3)
    (fun s : Int × Int => (match s with | (v2, v3) => [(0, .sl 5 a1), (2, .z), (3, .v (.int .i64 v2)), (4, .v (.int .i64 v3))] : Fr DD)) (fun s : Int × Int => (match s with | (v2, v3) => [] : Heap DD)) (fun r => match r with | v10 => .exit 0) (fun r => match r with | v10 => [(0, .sl 5 a1), (2, .z), (3, .v (.int .i64 v10))]) (fun r => match r with | v10 => []) := by
  refine loop_sound3 (fun s q h => ?_) (fun r => ?_)
  · obtain ⟨v2, v3⟩ := s; replace h : sum_add_L1 a1 v2 v3 = some q := h
    unfold sum_add_L1 at h
    rcases ite_out h with ⟨h4, h⟩ | ⟨h4, h⟩
    · obtain ⟨x5, h6, h⟩ := bind_out h
      obtain ⟨x7, h8, h⟩ := bind_out h
      injection h with h; subst h; exact runLp_sound mixedOrders (live := [0, 2, 3, 4]) (ids := []) (π := [.dec true, .row (c5 x5), .row (c5 x7)]) (hx := by kernel_rfl) (hps := pc (h4) <| pc (ob5 h6) <| pc ((show (0 : Int) ≤ 8 from by decide)) <| pc (ob5 h8) <| pn)
    · injection h with h; subst h; exact runLp_sound mixedOrders (live := [0, 2, 3]) (ids := []) (π := [.dec false]) (hx := by kernel_rfl) (hps := pc (h4) <| pn)
  · exact Ex.noConfusion

theorem k_sum_add {a1 : List Int} {r : Int} (h : sum_add a1 = some r) :
    CallsOK Try.prog UU 128 [.sl 5 a1] [] (.v (.int .i64 r)) [] := by
  unfold sum_add at h
  obtain ⟨v10, h11, h⟩ := bind_out h
  rcases ite_out h with ⟨h13, h⟩ | ⟨h13, h⟩
  · obtain ⟨x14, h15, h⟩ := bind_out h
    obtain ⟨r16, h17, h⟩ := bind_out h
    injection h with h; subst h; exact runFn_sound mixedOrders Try.func128 rfl (keep := none) (π := [.sum [0, 2, 3, 4] [] (.exit 0) [(0, .sl 5 a1), (2, .z), (3, .v (.int .i64 v10))] [], .dec true, .row (c5 x14), .callv (.v (.int .i64 r16))]) (hrun := by kernel_rfl) (hps := pc (k_sum_add_L1 _ _ h11) <| pc (h13) <| pc (ob5 h15) <| pc ((show (0 : Int) ≤ 8 from by decide)) <| pc (k_sum_down h17) <| pn)
  · obtain ⟨r18, h19, h⟩ := bind_out h
    injection h with h; subst h; exact runFn_sound mixedOrders Try.func128 rfl (keep := none) (π := [.sum [0, 2, 3, 4] [] (.exit 0) [(0, .sl 5 a1), (2, .z), (3, .v (.int .i64 v10))] [], .dec false, .callv (.v (.int .i64 r18))]) (hrun := by kernel_rfl) (hps := pc (k_sum_add_L1 _ _ h11) <| pc (h13) <| pc (k_sum_down h19) <| pn)

theorem k_sum_Of {a1 : List Int} {r : Int} (h : sum_Of a1 = some r) :
    CallsOK Try.prog UU 111 [.sl 5 a1] [] (.v (.int .i64 r)) [] := by
  unfold sum_Of at h
  obtain ⟨r2, h3, h⟩ := bind_out h
  injection h with h; subst h; exact runFn_sound mixedOrders Try.func111 rfl (keep := none) (π := [.callv (.v (.int .i64 r2))]) (hrun := by kernel_rfl) (hps := pc (k_sum_add h3) <| pn)

theorem k_ipv4_Put {a1 : Api_Packet} {r : ((List Int) × Int)} (h : ipv4_Put a1 = some r) :
    CallsOK Try.prog UU 51 [.agg (c78 a1)] [] ((fun r => match r with | (l27, v28) => .tup [.os 0 (List.length l27), .v (.int .i64 v28)]) r) ((fun r => match r with | (l27, v28) => [.arr 5 l27 (List.length l27) false]) r) := by
  unfold ipv4_Put at h
  obtain ⟨r2, h3, h⟩ := bind_out h
  rcases ite_out h with ⟨h4, h⟩ | ⟨h4, h⟩
  · injection h with h; subst h; exact runFn_sound mixedOrders Try.func51 rfl (keep := some [2]) (π := [.callv (.v (.bool r2)), .dec true]) (hrun := by kernel_rfl) (hps := pc (k_ipv4_Put_1 h3) <| pc (h4) <| pn)
  · obtain ⟨r5, h6, h⟩ := bind_out h
    rcases ite_out h with ⟨h7, h⟩ | ⟨h7, h⟩
    · injection h with h; subst h; exact runFn_sound mixedOrders Try.func51 rfl (keep := some [2]) (π := [.callv (.v (.bool r2)), .dec false, .callv (.v (.bool r5)), .dec true]) (hrun := by kernel_rfl) (hps := pc (k_ipv4_Put_1 h3) <| pc (h4) <| pc (k_ipv4_Put_1 h6) <| pc (h7) <| pn)
    · obtain ⟨r8, h9, h⟩ := bind_out h
      rcases ite_out h with ⟨h10, h⟩ | ⟨h10, h⟩
      · injection h with h; subst h; exact runFn_sound mixedOrders Try.func51 rfl (keep := some [2]) (π := [.callv (.v (.bool r2)), .dec false, .callv (.v (.bool r5)), .dec false, .callv (.v (.bool r8)), .dec true]) (hrun := by kernel_rfl) (hps := pc (k_ipv4_Put_1 h3) <| pc (h4) <| pc (k_ipv4_Put_1 h6) <| pc (h7) <| pc (k_ipv4_Put_1 h9) <| pc (h10) <| pn)
      · obtain ⟨r11, h12, h⟩ := bind_out h
        rcases ite_out h with ⟨h13, h⟩ | ⟨h13, h⟩
        · injection h with h; subst h; exact runFn_sound mixedOrders Try.func51 rfl (keep := some [2]) (π := [.callv (.v (.bool r2)), .dec false, .callv (.v (.bool r5)), .dec false, .callv (.v (.bool r8)), .dec false, .callv (.v (.bool r11)), .dec true]) (hrun := by kernel_rfl) (hps := pc (k_ipv4_Put_1 h3) <| pc (h4) <| pc (k_ipv4_Put_1 h6) <| pc (h7) <| pc (k_ipv4_Put_1 h9) <| pc (h10) <| pc (k_ipv4_Put_1 h12) <| pc (h13) <| pn)
        · rcases ite_out h with ⟨h14, h⟩ | ⟨h14, h⟩
          · injection h with h; subst h; exact runFn_sound mixedOrders Try.func51 rfl (keep := some [2]) (π := [.callv (.v (.bool r2)), .dec false, .callv (.v (.bool r5)), .dec false, .callv (.v (.bool r8)), .dec false, .callv (.v (.bool r11)), .dec false, .dec true]) (hrun := by kernel_rfl) (hps := pc (k_ipv4_Put_1 h3) <| pc (h4) <| pc (k_ipv4_Put_1 h6) <| pc (h7) <| pc (k_ipv4_Put_1 h9) <| pc (h10) <| pc (k_ipv4_Put_1 h12) <| pc (h13) <| pc (h14) <| pn)
          · obtain ⟨l17, h16, h⟩ := bind_out h
            obtain ⟨r18, h19, h⟩ := bind_out h
            rcases ite_out h with ⟨h20, h⟩ | ⟨h20, h⟩
            · obtain ⟨x21, h22, h⟩ := bind_out h
              rcases ite_out h with ⟨h23, h⟩ | ⟨h23, h⟩
              · obtain ⟨x24, h25, h⟩ := bind_out h
                rcases ite_out h with ⟨h26, h⟩ | ⟨h26, h⟩
                · injection h with h; subst h; exact runFn_sound mixedOrders Try.func51 rfl (keep := some [3]) (π := [.callv (.v (.bool r2)), .dec false, .callv (.v (.bool r5)), .dec false, .callv (.v (.bool r8)), .dec false, .callv (.v (.bool r11)), .dec false, .dec false, .obj [] (.arr 3 [(bits_or .i64 17664 a1.tos : Int), (wr_i64 (20 + (a1.body.length : Int)) : Int), a1.id, (0 : Int), (bits_or .i64 (wr_i64 (a1.ttl * 2 ^ 8)) a1.proto : Int), (0 : Int), (wr_i64 (Int.fdiv a1.src (2 ^ 16)) : Int), (wr_i64 a1.src : Int), (wr_i64 (Int.fdiv a1.dst (2 ^ 16)) : Int), (wr_i64 a1.dst : Int)] (List.length [(bits_or .i64 17664 a1.tos : Int), (wr_i64 (20 + (a1.body.length : Int)) : Int), a1.id, (0 : Int), (bits_or .i64 (wr_i64 (a1.ttl * 2 ^ 8)) a1.proto : Int), (0 : Int), (wr_i64 (Int.fdiv a1.src (2 ^ 16)) : Int), (wr_i64 a1.src : Int), (wr_i64 (Int.fdiv a1.dst (2 ^ 16)) : Int), (wr_i64 a1.dst : Int)]) false), .skp, .callm [3, 2] (.os 0 (List.length l17)) [.arr 5 l17 (List.length l17) false, .arr 3 [(bits_or .i64 17664 a1.tos : Int), (wr_i64 (20 + (a1.body.length : Int)) : Int), a1.id, (0 : Int), (bits_or .i64 (wr_i64 (a1.ttl * 2 ^ 8)) a1.proto : Int), (0 : Int), (wr_i64 (Int.fdiv a1.src (2 ^ 16)) : Int), (wr_i64 a1.src : Int), (wr_i64 (Int.fdiv a1.dst (2 ^ 16)) : Int), (wr_i64 a1.dst : Int)] (List.length [(bits_or .i64 17664 a1.tos : Int), (wr_i64 (20 + (a1.body.length : Int)) : Int), a1.id, (0 : Int), (bits_or .i64 (wr_i64 (a1.ttl * 2 ^ 8)) a1.proto : Int), (0 : Int), (wr_i64 (Int.fdiv a1.src (2 ^ 16)) : Int), (wr_i64 a1.src : Int), (wr_i64 (Int.fdiv a1.dst (2 ^ 16)) : Int), (wr_i64 a1.dst : Int)]) false], .callv (.v (.int .i64 r18)), .row (c5 x21), .obj [] (.arr 5 (List.set l17 (Int.toNat 10) (wr_u8 (Int.fdiv r18 (2 ^ 8)) : Int)) (List.length l17) false), .row (c5 x24), .obj [] (.arr 5 (List.set (List.set l17 (Int.toNat 10) (wr_u8 (Int.fdiv r18 (2 ^ 8)) : Int)) (Int.toNat 11) (wr_u8 r18 : Int)) (List.length l17) false), .obj [] (.arr 5 ((List.set (List.set l17 (Int.toNat 10) (wr_u8 (Int.fdiv r18 (2 ^ 8)) : Int)) (Int.toNat 11) (wr_u8 r18 : Int)) ++ a1.body) (List.length ((List.set (List.set l17 (Int.toNat 10) (wr_u8 (Int.fdiv r18 (2 ^ 8)) : Int)) (Int.toNat 11) (wr_u8 r18 : Int)) ++ a1.body)) false)]) (hrun := by kernel_rfl) (hps := pc (k_ipv4_Put_1 h3) <| pc (h4) <| pc (k_ipv4_Put_1 h6) <| pc (h7) <| pc (k_ipv4_Put_1 h9) <| pc (h10) <| pc (k_ipv4_Put_1 h12) <| pc (h13) <| pc (h14) <| pc ((show (0 : Int) ≤ 8 from by decide)) <| pc ((show (0 : Int) ≤ 16 from by decide)) <| pc ((show (0 : Int) ≤ 16 from by decide)) <| pc (bs_ob 3 [(bits_or .i64 17664 a1.tos : Int), (wr_i64 (20 + (a1.body.length : Int)) : Int), a1.id, (0 : Int), (bits_or .i64 (wr_i64 (a1.ttl * 2 ^ 8)) a1.proto : Int), (0 : Int), (wr_i64 (Int.fdiv a1.src (2 ^ 16)) : Int), (wr_i64 a1.src : Int), (wr_i64 (Int.fdiv a1.dst (2 ^ 16)) : Int), (wr_i64 a1.dst : Int)]) <| pc (k_ipv4_put_own h16) <| pc (k_sum_Of h19) <| pc ((rfl : ((List.length l17) : Nat) = (List.length l17))) <| pc ((show (0 : Int) ≤ 8 from by decide)) <| pc (And.intro (rfl : ((List.length l17) : Nat) = (List.length l17)) (lin_ob h20)) <| pc (st_ob (e := 5) (n := (List.length l17)) (l := l17) (i := (Int.toNat 10)) (wr_u8 (Int.fdiv r18 (2 ^ 8)) : Int) [.v (.int .u8 (wr_u8 (Int.fdiv r18 (2 ^ 8))))] (obn5 h22) rfl) <| pc (And.intro (rfl : ((List.length l17) : Nat) = (List.length l17)) (lin_ob h23)) <| pc (st_ob (e := 5) (n := (List.length l17)) (l := List.set l17 (Int.toNat 10) (wr_u8 (Int.fdiv r18 (2 ^ 8)) : Int)) (i := (Int.toNat 11)) (wr_u8 r18 : Int) [.v (.int .u8 (wr_u8 r18))] (obn5 h25) rfl) <| pc (app_ob 5 (n := (List.length l17)) (l := List.set (List.set l17 (Int.toNat 10) (wr_u8 (Int.fdiv r18 (2 ^ 8)) : Int)) (Int.toNat 11) (wr_u8 r18 : Int)) (xs := a1.body) h26) <| pn)
                · cases h
              · cases h
            · cases h

theorem k_mac_Host {a1 : Int} {r : Int} (h : mac_Host a1 = some r) :
    CallsOK Try.prog UU 34 [.v (.int .u32 a1)] [] (.v (.int .u64 r)) [] := by
  unfold mac_Host at h
  injection h with h; subst h; exact runFn_sound mixedOrders Try.func34 rfl (keep := none) (π := []) (hrun := by kernel_rfl) (hps := pn)

theorem k_vxlan_Wrap {a1 : Int} {a2 : Int} {a3 : Int} {a4 : Api_Frame} {r : ((List Int) × Int)} (h : vxlan_Wrap a1 a2 a3 a4 = some r) :
    CallsOK Try.prog UU 17 [.v (.int .u32 a1), .v (.int .u32 a2), .v (.int .i64 a3), .agg (c37 a4)] [] ((fun r => match r with | (l38, v39) => .tup [.os 0 (List.length l38), .v (.int .i64 v39)]) r) ((fun r => match r with | (l38, v39) => [.arr 5 l38 (List.length l38) false]) r) := by
  unfold vxlan_Wrap at h
  obtain ⟨r5, h6, h⟩ := bind_out h
  rcases ite_out h with ⟨h7, h⟩ | ⟨h7, h⟩
  · injection h with h; subst h; exact runFn_sound mixedOrders Try.func17 rfl (keep := some [2]) (π := [.callv (.v (.bool r5)), .dec true]) (hrun := by kernel_rfl) (hps := pc (k_tag_Is h6) <| pc (h7) <| pn)
  · obtain ⟨r8, h9, h⟩ := bind_out h
    obtain ⟨l10, v11⟩ := r8
    rcases ite_out h with ⟨h12, h⟩ | ⟨h12, h⟩
    · injection h with h; subst h; exact runFn_sound mixedOrders Try.func17 rfl (keep := some [3]) (π := [.callv (.v (.bool r5)), .dec false, .callo (.tup [.os 0 (List.length l10), .v (.int .i64 v11)]) [.arr 5 l10 (List.length l10) false], .dec true]) (hrun := by kernel_rfl) (hps := pc (k_tag_Is h6) <| pc (h7) <| pc (k_ether_Put h9) <| pc (im5 l10) <| pc (h12) <| pn)
    · obtain ⟨r13, h14, h⟩ := bind_out h
      obtain ⟨l15, v16⟩ := r13
      rcases ite_out h with ⟨h17, h⟩ | ⟨h17, h⟩
      · injection h with h; subst h; exact runFn_sound mixedOrders Try.func17 rfl (keep := some [4]) (π := [.callv (.v (.bool r5)), .dec false, .callo (.tup [.os 0 (List.length l10), .v (.int .i64 v11)]) [.arr 5 l10 (List.length l10) false], .dec false, .callo (.tup [.os 0 (List.length l15), .v (.int .i64 v16)]) [.arr 5 l15 (List.length l15) false], .dec true]) (hrun := by kernel_rfl) (hps := pc (k_tag_Is h6) <| pc (h7) <| pc (k_ether_Put h9) <| pc (im5 l10) <| pc (h12) <| pc (k_vxlan_Head h14) <| pc (im5 l15) <| pc (h17) <| pn)
      · rcases ite_out h with ⟨h18, h⟩ | ⟨h18, h⟩
        · injection h with h; subst h; exact runFn_sound mixedOrders Try.func17 rfl (keep := some [4]) (π := [.callv (.v (.bool r5)), .dec false, .callo (.tup [.os 0 (List.length l10), .v (.int .i64 v11)]) [.arr 5 l10 (List.length l10) false], .dec false, .callo (.tup [.os 0 (List.length l15), .v (.int .i64 v16)]) [.arr 5 l15 (List.length l15) false], .dec false, .dec true]) (hrun := by kernel_rfl) (hps := pc (k_tag_Is h6) <| pc (h7) <| pc (k_ether_Put h9) <| pc (im5 l10) <| pc (h12) <| pc (k_vxlan_Head h14) <| pc (im5 l15) <| pc (h17) <| pc ((rfl : ((List.length l10) : Nat) = (List.length l10))) <| pc (h18) <| pn)
        · obtain ⟨r19, h20, h⟩ := bind_out h
          rcases ite_out h with ⟨h21, h⟩ | ⟨h21, h⟩
          · obtain ⟨r22, h23, h⟩ := bind_out h
            obtain ⟨l24, v25⟩ := r22
            obtain ⟨r26, h27, h⟩ := bind_out h
            obtain ⟨l28, v29⟩ := r26
            obtain ⟨r30, h31, h⟩ := bind_out h
            obtain ⟨r32, h33, h⟩ := bind_out h
            obtain ⟨r34, h35, h⟩ := bind_out h
            obtain ⟨l36, v37⟩ := r34
            injection h with h; subst h; exact runFn_sound mixedOrders Try.func17 rfl (keep := some [6]) (π := [.callv (.v (.bool r5)), .dec false, .callo (.tup [.os 0 (List.length l10), .v (.int .i64 v11)]) [.arr 5 l10 (List.length l10) false], .dec false, .callo (.tup [.os 0 (List.length l15), .v (.int .i64 v16)]) [.arr 5 l15 (List.length l15) false], .dec false, .dec false, .callv (.v (.int .i64 r19)), .obj [] (.arr 5 (l15 ++ l10) (List.length (l15 ++ l10)) false), .callo (.tup [.os 0 (List.length l24), .v (.int .i64 v25)]) [.arr 5 l24 (List.length l24) false], .callo (.tup [.os 0 (List.length l28), .v (.int .i64 v29)]) [.arr 5 l28 (List.length l28) false], .callv (.v (.int .u64 r30)), .callv (.v (.int .u64 r32)), .callo (.tup [.os 0 (List.length l36), .v (.int .i64 v37)]) [.arr 5 l36 (List.length l36) false]]) (hrun := by kernel_rfl) (hps := pc (k_tag_Is h6) <| pc (h7) <| pc (k_ether_Put h9) <| pc (im5 l10) <| pc (h12) <| pc (k_vxlan_Head h14) <| pc (im5 l15) <| pc (h17) <| pc ((rfl : ((List.length l10) : Nat) = (List.length l10))) <| pc (h18) <| pc (k_udp_Port h20) <| pc (app_ob 5 (n := (List.length l15)) (l := l15) (xs := l10) h21) <| pc ((rfl : ((List.length l10) : Nat) = (List.length l10))) <| pc (k_udp_Put h23) <| pc (im5 l24) <| pc ((rfl : ((List.length (l15 ++ l10)) : Nat) = (List.length (l15 ++ l10)))) <| pc (k_ipv4_Put h27) <| pc (im5 l28) <| pc ((rfl : ((List.length l24) : Nat) = (List.length l24))) <| pc (k_mac_Host h31) <| pc (k_mac_Host h33) <| pc (k_ether_Put h35) <| pc (im5 l36) <| pc ((rfl : ((List.length l28) : Nat) = (List.length l28))) <| pn)
          · cases h

theorem k_mac_Take_L1 {a1 : List Int} {a2 : Int} : LoopOK Try.prog UU 0 32 (subC (codeOf Try.f62) [1, 1, 1, 0, 1, 0, 0]) (fun s : Int × Int => match s with | (v5, v6) => mac_Take_L1 a1 a2 v5 v6)
    (fun s : Int × Int => (match s with | (v5, v6) => [(0, .sl 5 a1), (1, .v (.int .i64 a2)), (4, .v (.int .u64 0)), (5, .v (.bool false)), (6, .v (.int .u64 v5)), (17, .v (.int .i64 v6))] : Fr DD)) (fun s : Int × Int => (match s with | (v5, v6) => [] : Heap DD)) (fun r => match r with | v11 => .exit 0) (fun r => match r with | v11 => [(4, .v (.int .u64 0)), (5, .v (.bool false)), (6, .v (.int .u64 v11))]) (fun r => match r with | v11 => []) := by
  refine loop_sound3 (fun s q h => ?_) (fun r => ?_)
  · obtain ⟨v5, v6⟩ := s; replace h : mac_Take_L1 a1 a2 v5 v6 = some q := h
    unfold mac_Take_L1 at h
    rcases ite_out h with ⟨h7, h⟩ | ⟨h7, h⟩
    · obtain ⟨x8, h9, h⟩ := bind_out h
      injection h with h; subst h; exact runLp_sound mixedOrders (live := [0, 1, 4, 5, 6, 17]) (ids := []) (π := [.dec true, .row (c5 x8)]) (hx := by kernel_rfl) (hps := pc (h7) <| pc ((show (0 : Int) ≤ 8 from by decide)) <| pc (ob5 h9) <| pn)
    · injection h with h; subst h; exact runLp_sound mixedOrders (live := [4, 5, 6]) (ids := []) (π := [.dec false]) (hx := by kernel_rfl) (hps := pc (h7) <| pn)
  · exact Ex.noConfusion

theorem k_mac_Take {a1 : List Int} {a2 : Int} {r : Int × Bool} (h : mac_Take a1 a2 = some r) :
    CallsOK Try.prog UU 62 [.sl 5 a1, .v (.int .i64 a2)] [] (.tup [.v (.int .u64 r.1), .v (.bool r.2)]) [] := by
  unfold mac_Take at h
  rcases ite_out h with ⟨h3, h⟩ | ⟨h3, h⟩
  · injection h with h; subst h; exact runFn_sound mixedOrders Try.func62 rfl (keep := none) (π := [.dec true]) (hrun := by kernel_rfl) (hps := pc (h3) <| pn)
  · rcases ite_out h with ⟨h4, h⟩ | ⟨h4, h⟩
    · injection h with h; subst h; exact runFn_sound mixedOrders Try.func62 rfl (keep := none) (π := [.dec false, .dec true]) (hrun := by kernel_rfl) (hps := pc (h3) <| pc (h4) <| pn)
    · obtain ⟨v11, h12, h⟩ := bind_out h
      injection h with h; subst h; exact runFn_sound mixedOrders Try.func62 rfl (keep := none) (π := [.dec false, .dec false, .sum [0, 1, 4, 5, 6, 17] [] (.exit 0) [(4, .v (.int .u64 0)), (5, .v (.bool false)), (6, .v (.int .u64 v11))] []]) (hrun := by kernel_rfl) (hps := pc (h3) <| pc (h4) <| pc (k_mac_Take_L1 _ _ h12) <| pn)

theorem k_ether_Take {a1 : List Int} {r : ((List Int) × Nat × Int × Int × Int × Int)} (h : ether_Take a1 = some r) :
    CallsOK Try.prog UU 22 [.sl 5 a1] [] ((fun r => match r with | (l14, n15, v16, v17, v18, v19) => .tup [.agg [.v (.int .u64 v16), .v (.int .u64 v17), .v (.int .i64 v18), .os 0 n15], .v (.int .i64 v19)]) r) ((fun r => match r with | (l14, n15, v16, v17, v18, v19) => [.arr 5 l14 n15 false]) r) := by
  unfold ether_Take at h
  rcases ite_out h with ⟨h2, h⟩ | ⟨h2, h⟩
  · injection h with h; subst h; exact runFn_sound mixedOrders Try.func22 rfl (keep := some [2]) (π := [.dec true]) (hrun := by kernel_rfl) (hps := pc (h2) <| pn)
  · rcases ite_out h with ⟨h3, h⟩ | ⟨h3, h⟩
    · injection h with h; subst h; exact runFn_sound mixedOrders Try.func22 rfl (keep := some [2]) (π := [.dec false, .dec true]) (hrun := by kernel_rfl) (hps := pc (h2) <| pc (h3) <| pn)
    · obtain ⟨r4, h5, h⟩ := bind_out h
      obtain ⟨r6, h7, h⟩ := bind_out h
      rcases ite_out h with ⟨h8, h⟩ | ⟨h8, h⟩
      · rcases ite_out h with ⟨h9, h⟩ | ⟨h9, h⟩
        · obtain ⟨x10, h11, h⟩ := bind_out h
          obtain ⟨x12, h13, h⟩ := bind_out h
          injection h with h; subst h; exact runFn_sound mixedOrders Try.func22 rfl (keep := some [2]) (π := [.dec false, .dec false, .callv (.tup [.v (.int .u64 r4.1), .v (.bool r4.2)]), .callv (.tup [.v (.int .u64 r6.1), .v (.bool r6.2)]), .obj [] (.arr 5 (List.replicate (Int.toNat (wr_i64 ((a1.length : Int) - 14))) (0 : Int)) (Int.toNat (wr_i64 ((a1.length : Int) - 14))) false), .obj [] (.arr 5 (List.take 0 (List.replicate (Int.toNat (wr_i64 ((a1.length : Int) - 14))) (0 : Int)) ++ (List.take (min (List.length (List.drop (Int.toNat 14) (List.take (Int.toNat ((List.length a1) : Int)) a1))) ((List.length (List.replicate (Int.toNat (wr_i64 ((a1.length : Int) - 14))) (0 : Int))) - 0)) (List.drop (Int.toNat 14) (List.take (Int.toNat ((List.length a1) : Int)) a1)) ++ List.drop (0 + (min (List.length (List.drop (Int.toNat 14) (List.take (Int.toNat ((List.length a1) : Int)) a1))) ((List.length (List.replicate (Int.toNat (wr_i64 ((a1.length : Int) - 14))) (0 : Int))) - 0))) (List.replicate (Int.toNat (wr_i64 ((a1.length : Int) - 14))) (0 : Int)))) (Int.toNat (wr_i64 ((a1.length : Int) - 14))) false), .row (c5 x10), .row (c5 x12)]) (hrun := by kernel_rfl) (hps := pc (h2) <| pc (h3) <| pc (k_mac_Take h5) <| pc (k_mac_Take h7) <| pc (mk_ob 5 (0 : Int) h8) <| pc ((rfl : ((Int.toNat (wr_i64 ((a1.length : Int) - 14))) : Nat) = (Int.toNat (wr_i64 ((a1.length : Int) - 14))))) <| pc (sl_ob h9) <| pc (cp_ob (e := 5) (n := (Int.toNat (wr_i64 ((a1.length : Int) - 14)))) (l := List.replicate (Int.toNat (wr_i64 ((a1.length : Int) - 14))) (0 : Int)) (l2 := List.drop (Int.toNat 14) (List.take (Int.toNat ((List.length a1) : Int)) a1)) (a := 0) (b := (List.length (List.replicate (Int.toNat (wr_i64 ((a1.length : Int) - 14))) (0 : Int))))) <| pc (ob5 h11) <| pc ((show (0 : Int) ≤ 8 from by decide)) <| pc (ob5 h13) <| pn)
        · cases h
      · cases h

theorem k_vxlan_reader_fail_own {a1 : Int} {a2 : Int} {a3 : Int} {a4 : Int} {a5 : Int} {a6 : Int} {a7 : List Int} {a8 : Int} {a9 : Int} {a10 : Bool} {a11 : Int} {r : (Int)} (h : vxlan_reader_fail_own a1 a2 a3 a4 a5 a6 a7 a8 a9 a10 a11 = some r) :
    CallsOK Try.prog UU 116 [.op 0 1 0 0, .v (.bool a10), .v (.int .i64 a11)] [.box 114 [.v (.int .i64 a1), .v (.int .i64 a2), .v (.int .i64 a3), .v (.int .i64 a4), .v (.int .u32 a5), .v (.int .u32 a6), .os 1 (List.length a7), .v (.int .i64 a8), .v (.int .i64 a9)] false, .arr 5 a7 (List.length a7) false] ((fun r => match r with | v14 => .tup []) r) ((fun r => match r with | v14 => [.box 114 [.v (.int .i64 a1), .v (.int .i64 a2), .v (.int .i64 a3), .v (.int .i64 a4), .v (.int .u32 a5), .v (.int .u32 a6), .os 1 (List.length a7), .v (.int .i64 a8), .v (.int .i64 v14)] false, .arr 5 a7 (List.length a7) false]) r) := by
  unfold vxlan_reader_fail_own at h
  rcases ite_out h with ⟨h12, h⟩ | ⟨h12, h⟩
  · rcases ite_out h with ⟨h13, h⟩ | ⟨h13, h⟩
    · injection h with h; subst h; exact runFn_sound mixedOrders Try.func116 rfl (keep := some [0, 1]) (π := [.dec true, .dec true]) (hrun := by kernel_rfl) (hps := pc (h12) <| pc (h13) <| pn)
    · injection h with h; subst h; exact runFn_sound mixedOrders Try.func116 rfl (keep := some [0, 1]) (π := [.dec true, .dec false]) (hrun := by kernel_rfl) (hps := pc (h12) <| pc (h13) <| pn)
  · injection h with h; subst h; exact runFn_sound mixedOrders Try.func116 rfl (keep := some [0, 1]) (π := [.dec false]) (hrun := by kernel_rfl) (hps := pc (h12) <| pn)

theorem k_ipv4_pair {a1 : List Int} {a2 : Int} {r : Int} (h : ipv4_pair a1 a2 = some r) :
    CallsOK Try.prog UU 70 [.sl 5 a1, .v (.int .i64 a2)] [] (.v (.int .i64 r)) [] := by
  unfold ipv4_pair at h
  obtain ⟨x3, h4, h⟩ := bind_out h
  obtain ⟨x5, h6, h⟩ := bind_out h
  injection h with h; subst h; exact runFn_sound mixedOrders Try.func70 rfl (keep := none) (π := [.row (c5 x3), .row (c5 x5)]) (hrun := by kernel_rfl) (hps := pc (ob5 h4) <| pc ((show (0 : Int) ≤ 8 from by decide)) <| pc (ob5 h6) <| pn)

theorem k_sum_Right {a1 : List Int} {r : Bool} (h : sum_Right a1 = some r) :
    CallsOK Try.prog UU 71 [.sl 5 a1] [] (.v (.bool r)) [] := by
  unfold sum_Right at h
  obtain ⟨r2, h3, h⟩ := bind_out h
  injection h with h; subst h; exact runFn_sound mixedOrders Try.func71 rfl (keep := none) (π := [.callv (.v (.int .i64 r2))]) (hrun := by kernel_rfl) (hps := pc (k_sum_add h3) <| pn)

theorem k_ipv4_four {a1 : List Int} {a2 : Int} {r : Int} (h : ipv4_four a1 a2 = some r) :
    CallsOK Try.prog UU 72 [.sl 5 a1, .v (.int .i64 a2)] [] (.v (.int .u32 r)) [] := by
  unfold ipv4_four at h
  obtain ⟨r3, h4, h⟩ := bind_out h
  obtain ⟨r5, h6, h⟩ := bind_out h
  injection h with h; subst h; exact runFn_sound mixedOrders Try.func72 rfl (keep := none) (π := [.callv (.v (.int .i64 r3)), .callv (.v (.int .i64 r5))]) (hrun := by kernel_rfl) (hps := pc (k_ipv4_pair h4) <| pc ((show (0 : Int) ≤ 16 from by decide)) <| pc (k_ipv4_pair h6) <| pn)

theorem k_slices_Clone_byte {a1 : List Int} {r : List Int} (h : slices_Clone_byte a1 = some r) :
    CallsOK Try.prog UU 73 [.sl 5 a1] [] (.os 0 (List.length r)) [.arr 5 r (List.length r) false] := by
  unfold slices_Clone_byte at h
  rcases ite_out h with ⟨h1, h⟩ | ⟨h1, h⟩
  · injection h with h; subst h
    refine sn_split ?_ (fun e => ?_)
    · exact runFn_sound mixedOrders Try.func73 rfl (keep := some [1]) (π := [.obj [] (.n 5), .obj [] (.arr 5 a1 (List.length a1) false)]) (hrun := by kernel_rfl) (hps := pc (bs_ob 5 []) <| pc (app_ob 5 (n := 0) (l := []) (xs := a1) h1) <| pn)
    · subst e; exact runFn_sound mixedOrders Try.func73 rfl (keep := some [1]) (π := []) (hrun := by kernel_rfl) (hps := pn)
  · cases h

theorem k_ipv4_Take_J1 {a1 : List Int} {r : Bool} (h : ipv4_Take_J1 a1 = some r) :
    ExecOK Try.prog UU 0 62 (subC (codeOf Try.f31) [1, 0, 0, 1, 1, 0]) [(0, .sl 5 a1), (2, .op 0 1 0 0), (3, .z)] [.box 78 [.z, .z, .z, .z, .v (.int .u32 0), .v (.int .u32 0), .os 1 0] false, .n 5] ((fun r => match r with | v9 => .nor) r) ((fun r => match r with | v9 => [(0, .sl 5 a1), (2, .op 0 1 0 0), (3, .z), (9, .v (.bool v9))]) r) ((fun r => match r with | v9 => [.box 78 [.z, .z, .z, .z, .v (.int .u32 0), .v (.int .u32 0), .os 1 0] false, .n 5]) r) := by
  unfold ipv4_Take_J1 at h
  obtain ⟨x3, h4, h⟩ := bind_out h
  rcases ite_out h with ⟨h5, h⟩ | ⟨h5, h⟩
  · injection h with h; subst h; exact runLp_sound mixedOrders (live := [0, 2, 3, 9]) (ids := [0, 1]) (π := [.row (c5 x3), .dec true]) (hx := by kernel_rfl) (hps := pc (ob5 h4) <| pc (h5) <| pn)
  · obtain ⟨r6, h7, h⟩ := bind_out h
    injection h with h; subst h; exact runLp_sound mixedOrders (live := [0, 2, 3, 9]) (ids := [0, 1]) (π := [.row (c5 x3), .dec false, .callv (.v (.int .i64 r6))]) (hx := by kernel_rfl) (hps := pc (ob5 h4) <| pc (h5) <| pc (k_ipv4_pair h7) <| pn)

theorem k_ipv4_Take {a1 : List Int} {r : ((List Int) × Int × Int × Int × Int × Int × Int × Int)} (h : ipv4_Take a1 = some r) :
    CallsOK Try.prog UU 31 [.sl 5 a1] [] ((fun r => match r with | (l41, v42, v43, v44, v45, v46, v47, v48) => .tup [.agg [.v (.int .i64 v42), .v (.int .i64 v43), .v (.int .i64 v44), .v (.int .i64 v45), .v (.int .u32 v46), .v (.int .u32 v47), .os 0 (List.length l41)], .v (.int .i64 v48)]) r) ((fun r => match r with | (l41, v42, v43, v44, v45, v46, v47, v48) => [.arr 5 l41 (List.length l41) false]) r) := by
  unfold ipv4_Take at h
  rcases ite_out h with ⟨h2, h⟩ | ⟨h2, h⟩
  · injection h with h; subst h; exact runFn_sound mixedOrders Try.func31 rfl (keep := some [2]) (π := [.dec true]) (hrun := by kernel_rfl) (hps := pc (h2) <| pn)
  · obtain ⟨v9, h10, h⟩ := bind_out h
    rcases ite_out h with ⟨h12, h⟩ | ⟨h12, h⟩
    · injection h with h; subst h; exact runFn_sound mixedOrders Try.func31 rfl (keep := some [2]) (π := [.dec false, .cut [0, 2, 3] [1, 0] .nor [(0, .sl 5 a1), (2, .op 0 1 0 0), (3, .z), (9, .v (.bool v9))] [.box 78 [.z, .z, .z, .z, .v (.int .u32 0), .v (.int .u32 0), .os 1 0] false, .n 5], .dec true]) (hrun := by kernel_rfl) (hps := pc (h2) <| pc (k_ipv4_Take_J1 h10) <| pc (h12) <| pn)
    · obtain ⟨r13, h14, h⟩ := bind_out h
      rcases ite_out h with ⟨h15, h⟩ | ⟨h15, h⟩
      · injection h with h; subst h; exact runFn_sound mixedOrders Try.func31 rfl (keep := some [2]) (π := [.dec false, .cut [0, 2, 3] [1, 0] .nor [(0, .sl 5 a1), (2, .op 0 1 0 0), (3, .z), (9, .v (.bool v9))] [.box 78 [.z, .z, .z, .z, .v (.int .u32 0), .v (.int .u32 0), .os 1 0] false, .n 5], .dec false, .callv (.v (.int .i64 r13)), .dec true]) (hrun := by kernel_rfl) (hps := pc (h2) <| pc (k_ipv4_Take_J1 h10) <| pc (h12) <| pc (k_ipv4_pair h14) <| pc (h15) <| pn)
      · obtain ⟨r16, h17, h⟩ := bind_out h
        rcases ite_out h with ⟨h18, h⟩ | ⟨h18, h⟩
        · injection h with h; subst h; exact runFn_sound mixedOrders Try.func31 rfl (keep := some [2]) (π := [.dec false, .cut [0, 2, 3] [1, 0] .nor [(0, .sl 5 a1), (2, .op 0 1 0 0), (3, .z), (9, .v (.bool v9))] [.box 78 [.z, .z, .z, .z, .v (.int .u32 0), .v (.int .u32 0), .os 1 0] false, .n 5], .dec false, .callv (.v (.int .i64 r13)), .dec false, .callv (.v (.int .i64 r16)), .dec true]) (hrun := by kernel_rfl) (hps := pc (h2) <| pc (k_ipv4_Take_J1 h10) <| pc (h12) <| pc (k_ipv4_pair h14) <| pc (h15) <| pc (k_ipv4_pair h17) <| pc (h18) <| pn)
        · rcases ite_out h with ⟨h19, h⟩ | ⟨h19, h⟩
          · obtain ⟨r20, h21, h⟩ := bind_out h
            rcases ite_out h with ⟨h22, h⟩ | ⟨h22, h⟩
            · injection h with h; subst h; exact runFn_sound mixedOrders Try.func31 rfl (keep := some [2]) (π := [.dec false, .cut [0, 2, 3] [1, 0] .nor [(0, .sl 5 a1), (2, .op 0 1 0 0), (3, .z), (9, .v (.bool v9))] [.box 78 [.z, .z, .z, .z, .v (.int .u32 0), .v (.int .u32 0), .os 1 0] false, .n 5], .dec false, .callv (.v (.int .i64 r13)), .dec false, .callv (.v (.int .i64 r16)), .dec false, .callv (.v (.bool r20)), .dec true]) (hrun := by kernel_rfl) (hps := pc (h2) <| pc (k_ipv4_Take_J1 h10) <| pc (h12) <| pc (k_ipv4_pair h14) <| pc (h15) <| pc (k_ipv4_pair h17) <| pc (h18) <| pc (sl_ob h19) <| pc (k_sum_Right h21) <| pc (h22) <| pn)
            · obtain ⟨x23, h24, h⟩ := bind_out h
              obtain ⟨r25, h26, h⟩ := bind_out h
              obtain ⟨x27, h28, h⟩ := bind_out h
              obtain ⟨x29, h30, h⟩ := bind_out h
              obtain ⟨r31, h32, h⟩ := bind_out h
              obtain ⟨r33, h34, h⟩ := bind_out h
              obtain ⟨r35, h36, h⟩ := bind_out h
              rcases ite_out h with ⟨h37, h⟩ | ⟨h37, h⟩
              · obtain ⟨l40, h39, h⟩ := bind_out h
                injection h with h; subst h; exact runFn_sound mixedOrders Try.func31 rfl (keep := some [2]) (π := [.dec false, .cut [0, 2, 3] [1, 0] .nor [(0, .sl 5 a1), (2, .op 0 1 0 0), (3, .z), (9, .v (.bool v9))] [.box 78 [.z, .z, .z, .z, .v (.int .u32 0), .v (.int .u32 0), .os 1 0] false, .n 5], .dec false, .callv (.v (.int .i64 r13)), .dec false, .callv (.v (.int .i64 r16)), .dec false, .callv (.v (.bool r20)), .dec false, .sum [22] [] .nor [] [.box 78 [.z, .z, .z, .z, .v (.int .u32 0), .v (.int .u32 0), .os 1 0] false, .n 5, .arr 5 l40 (List.length l40) false], .row (c5 x23), .callv (.v (.int .i64 r25)), .row (c5 x27), .row (c5 x29), .callv (.v (.int .u32 r31)), .callv (.v (.int .u32 r33)), .callv (.v (.int .i64 r35)), .callo (.os 0 (List.length l40)) [.arr 5 l40 (List.length l40) false]]) (hrun := by kernel_rfl) (hps := pc (h2) <| pc (k_ipv4_Take_J1 h10) <| pc (h12) <| pc (k_ipv4_pair h14) <| pc (h15) <| pc (k_ipv4_pair h17) <| pc (h18) <| pc (sl_ob h19) <| pc (k_sum_Right h21) <| pc (h22) <| pc ((rfl : (.sl 5 a1 : AV DD) = .sl 5 a1)) <| pc (ob5 h24) <| pc (ob5 h24) <| pc ((rfl : (.rp (c5 x23) 0 : AV DD) = .rp (c5 x23) 0)) <| pc ((rfl : (.v (.int .u8 x23) : AV DD) = .v (.int .u8 x23))) <| pc ((rfl : (.v (.int .i64 (wr_i64 x23)) : AV DD) = .v (.int .i64 (wr_i64 x23)))) <| pc (k_ipv4_pair h26) <| pc ((rfl : (.sl 5 a1 : AV DD) = .sl 5 a1)) <| pc (ob5 h28) <| pc (ob5 h28) <| pc ((rfl : (.rp (c5 x27) 0 : AV DD) = .rp (c5 x27) 0)) <| pc ((rfl : (.v (.int .u8 x27) : AV DD) = .v (.int .u8 x27))) <| pc ((rfl : (.v (.int .i64 (wr_i64 x27)) : AV DD) = .v (.int .i64 (wr_i64 x27)))) <| pc ((rfl : (.sl 5 a1 : AV DD) = .sl 5 a1)) <| pc (ob5 h30) <| pc (ob5 h30) <| pc ((rfl : (.rp (c5 x29) 0 : AV DD) = .rp (c5 x29) 0)) <| pc ((rfl : (.v (.int .u8 x29) : AV DD) = .v (.int .u8 x29))) <| pc ((rfl : (.v (.int .i64 (wr_i64 x29)) : AV DD) = .v (.int .i64 (wr_i64 x29)))) <| pc (k_ipv4_four h32) <| pc (k_ipv4_four h34) <| pc (k_ipv4_pair h36) <| pc (sl_ob h37) <| pc ((rfl : ([.box 78 [.z, .z, .z, .z, .v (.int .u32 0), .v (.int .u32 0), .os 1 0] false, .n 5, .arr 5 l40 (List.length l40) false] : Heap DD) = [.box 78 [.z, .z, .z, .z, .v (.int .u32 0), .v (.int .u32 0), .os 1 0] false, .n 5, .arr 5 l40 (List.length l40) false])) <| pc (k_slices_Clone_byte h39) <| pc (im5 l40) <| pn)
              · cases h
          · cases h

theorem k_vxlan_reader_packet_own {a1 : Int} {a2 : Int} {a3 : Int} {a4 : Int} {a5 : Int} {a6 : Int} {a7 : List Int} {a8 : Int} {a9 : Int} {a10 : List Int} {r : ((List Int) × Int × Int × Int × Int × Int × Int × Int) ⊕ (Int)} (h : vxlan_reader_packet_own a1 a2 a3 a4 a5 a6 a7 a8 a9 a10 = some r) :
    CallsOK Try.prog UU 57 [.op 0 1 0 0, .sl 5 a10] [.box 114 [.v (.int .i64 a1), .v (.int .i64 a2), .v (.int .i64 a3), .v (.int .i64 a4), .v (.int .u32 a5), .v (.int .u32 a6), .os 1 (List.length a7), .v (.int .i64 a8), .v (.int .i64 a9)] false, .arr 5 a7 (List.length a7) false] ((fun r => match r with | Sum.inl (l42, v43, v44, v45, v46, v47, v48, v49) => .tup [] | Sum.inr v50 => .tup []) r) ((fun r => match r with | Sum.inl (l42, v43, v44, v45, v46, v47, v48, v49) => [.box 114 [.v (.int .i64 v43), .v (.int .i64 v44), .v (.int .i64 v45), .v (.int .i64 v46), .v (.int .u32 v47), .v (.int .u32 v48), .os 2 (List.length l42), .v (.int .i64 a8), .v (.int .i64 v49)] false, .arr 5 a7 (List.length a7) false, .arr 5 l42 (List.length l42) false] | Sum.inr v50 => [.box 114 [.v (.int .i64 a1), .v (.int .i64 a2), .v (.int .i64 a3), .v (.int .i64 a4), .v (.int .u32 a5), .v (.int .u32 a6), .os 1 (List.length a7), .v (.int .i64 a8), .v (.int .i64 v50)] false, .arr 5 a7 (List.length a7) false]) r) := by
  unfold vxlan_reader_packet_own at h
  obtain ⟨r11, h12, h⟩ := bind_out h
  obtain ⟨l13, n14, v15, v16, v17, v18⟩ := r11
  obtain ⟨v21, h20, h⟩ := bind_out h
  obtain ⟨v24, h23, h⟩ := bind_out h
  rcases ite_out h with ⟨h25, h⟩ | ⟨h25, h⟩
  · obtain ⟨r26, h27, h⟩ := bind_out h
    obtain ⟨l28, v29, v30, v31, v32, v33, v34, v35⟩ := r26
    obtain ⟨v38, h37, h⟩ := bind_out h
    obtain ⟨v41, h40, h⟩ := bind_out h
    injection h with h; subst h; exact runFn_sound mixedOrders Try.func57 rfl (keep := some [0, 1, 5]) (π := [.callo (.tup [.agg [.v (.int .u64 v15), .v (.int .u64 v16), .v (.int .i64 v17), .os 0 n14], .v (.int .i64 v18)]) [.arr 5 l13 n14 false], .callm [0, 1] (.tup []) [.box 114 [.v (.int .i64 a1), .v (.int .i64 a2), .v (.int .i64 a3), .v (.int .i64 a4), .v (.int .u32 a5), .v (.int .u32 a6), .os 1 (List.length a7), .v (.int .i64 a8), .v (.int .i64 v21)] false, .arr 5 a7 (List.length a7) false], .callm [0, 1] (.tup []) [.box 114 [.v (.int .i64 a1), .v (.int .i64 a2), .v (.int .i64 a3), .v (.int .i64 a4), .v (.int .u32 a5), .v (.int .u32 a6), .os 1 (List.length a7), .v (.int .i64 a8), .v (.int .i64 v24)] false, .arr 5 a7 (List.length a7) false], .dec true, .callo (.tup [.agg [.v (.int .i64 v29), .v (.int .i64 v30), .v (.int .i64 v31), .v (.int .i64 v32), .v (.int .u32 v33), .v (.int .u32 v34), .os 0 (List.length l28)], .v (.int .i64 v35)]) [.arr 5 l28 (List.length l28) false], .callm [0, 5] (.tup []) [.box 114 [.v (.int .i64 v29), .v (.int .i64 v30), .v (.int .i64 v31), .v (.int .i64 v32), .v (.int .u32 v33), .v (.int .u32 v34), .os 1 (List.length l28), .v (.int .i64 a8), .v (.int .i64 v38)] false, .arr 5 l28 (List.length l28) false], .callm [0, 5] (.tup []) [.box 114 [.v (.int .i64 v29), .v (.int .i64 v30), .v (.int .i64 v31), .v (.int .i64 v32), .v (.int .u32 v33), .v (.int .u32 v34), .os 1 (List.length l28), .v (.int .i64 a8), .v (.int .i64 v41)] false, .arr 5 l28 (List.length l28) false]]) (hrun := by kernel_rfl) (hps := pc (k_ether_Take h12) <| pc (im5 l13) <| pc (k_vxlan_reader_fail_own h20) <| pc (k_vxlan_reader_fail_own h23) <| pc (h25) <| pc (k_ipv4_Take h27) <| pc (im5 l28) <| pc ((rfl : (n14 : Nat) = n14)) <| pc (k_vxlan_reader_fail_own h37) <| pc (k_vxlan_reader_fail_own h40) <| pn)
  · injection h with h; subst h; exact runFn_sound mixedOrders Try.func57 rfl (keep := some [0, 1]) (π := [.callo (.tup [.agg [.v (.int .u64 v15), .v (.int .u64 v16), .v (.int .i64 v17), .os 0 n14], .v (.int .i64 v18)]) [.arr 5 l13 n14 false], .callm [0, 1] (.tup []) [.box 114 [.v (.int .i64 a1), .v (.int .i64 a2), .v (.int .i64 a3), .v (.int .i64 a4), .v (.int .u32 a5), .v (.int .u32 a6), .os 1 (List.length a7), .v (.int .i64 a8), .v (.int .i64 v21)] false, .arr 5 a7 (List.length a7) false], .callm [0, 1] (.tup []) [.box 114 [.v (.int .i64 a1), .v (.int .i64 a2), .v (.int .i64 a3), .v (.int .i64 a4), .v (.int .u32 a5), .v (.int .u32 a6), .os 1 (List.length a7), .v (.int .i64 a8), .v (.int .i64 v24)] false, .arr 5 a7 (List.length a7) false], .dec false]) (hrun := by kernel_rfl) (hps := pc (k_ether_Take h12) <| pc (im5 l13) <| pc (k_vxlan_reader_fail_own h20) <| pc (k_vxlan_reader_fail_own h23) <| pc (h25) <| pn)

theorem k_udp_Take_L1 {a1 : List Int} : LoopOK Try.prog UU 0 55 (subC (codeOf Try.f117) [1, 1, 1, 0, 1, 0, 0]) (fun s : Int × Int × Int × Int × Int => match s with | (v3, v4, v5, v6, v7) => udp_Take_L1 a1 v3 v4 v5 v6 v7)
    (fun s : Int × Int × Int × Int × Int => (match s with | (v3, v4, v5, v6, v7) => [(0, .sl 5 a1), (2, .z), (3, .z), (4, .os 0 0), (5, .z), (6, .op 1 1 0 0), (11, .v (.int .i64 v4))] : Fr DD)) (fun s : Int × Int × Int × Int × Int => (match s with | (v3, v4, v5, v6, v7) => [.n 5, .box 177 [.v (.int .i64 v3), .v (.int .i64 v5), .v (.int .i64 v6), .v (.int .i64 v7)] false] : Heap DD)) (fun r => match r with | (v41, v42, v43, v44) => .exit 0) (fun r => match r with | (v41, v42, v43, v44) => [(0, .sl 5 a1), (2, .z), (3, .z), (4, .os 0 0), (5, .z), (6, .op 1 1 0 0)]) (fun r => match r with | (v41, v42, v43, v44) => [.n 5, .box 177 [.v (.int .i64 v41), .v (.int .i64 v42), .v (.int .i64 v43), .v (.int .i64 v44)] false]) := by
  refine loop_sound3 (fun s q h => ?_) (fun r => ?_)
  · obtain ⟨v3, v4, v5, v6, v7⟩ := s; replace h : udp_Take_L1 a1 v3 v4 v5 v6 v7 = some q := h
    unfold udp_Take_L1 at h
    rcases ite_out h with ⟨h8, h⟩ | ⟨h8, h⟩
    · obtain ⟨x9, h10, h⟩ := bind_out h
      obtain ⟨x11, h12, h⟩ := bind_out h
      rcases ite_out h with ⟨h13, h⟩ | ⟨h13, h⟩
      · injection h with h; subst h; exact runLp_sound mixedOrders (live := [0, 2, 3, 4, 5, 6, 11]) (ids := [0, 1]) (π := [.dec true, .row (c5 x9), .row (c5 x11), .frz [0]]) (hx := by kernel_rfl) (hps := pc (h8) <| pc (ob5 h10) <| pc ((show (0 : Int) ≤ 8 from by decide)) <| pc (ob5 h12) <| pc (eq_of_beq h13) <| pn)
      · rcases ite_out h with ⟨h14, h⟩ | ⟨h14, h⟩
        · injection h with h; subst h; exact runLp_sound mixedOrders (live := [0, 2, 3, 4, 5, 6, 11]) (ids := [0, 1]) (π := [.dec true, .row (c5 x9), .row (c5 x11), .frz [1]]) (hx := by kernel_rfl) (hps := pc (h8) <| pc (ob5 h10) <| pc ((show (0 : Int) ≤ 8 from by decide)) <| pc (ob5 h12) <| pc (eq_of_beq h14) <| pn)
        · rcases ite_out h with ⟨h15, h⟩ | ⟨h15, h⟩
          · injection h with h; subst h; exact runLp_sound mixedOrders (live := [0, 2, 3, 4, 5, 6, 11]) (ids := [0, 1]) (π := [.dec true, .row (c5 x9), .row (c5 x11), .frz [2]]) (hx := by kernel_rfl) (hps := pc (h8) <| pc (ob5 h10) <| pc ((show (0 : Int) ≤ 8 from by decide)) <| pc (ob5 h12) <| pc (eq_of_beq h15) <| pn)
          · rcases ite_out h with ⟨h16, h⟩ | ⟨h16, h⟩
            · injection h with h; subst h; exact runLp_sound mixedOrders (live := [0, 2, 3, 4, 5, 6, 11]) (ids := [0, 1]) (π := [.dec true, .row (c5 x9), .row (c5 x11), .frz [3]]) (hx := by kernel_rfl) (hps := pc (h8) <| pc (ob5 h10) <| pc ((show (0 : Int) ≤ 8 from by decide)) <| pc (ob5 h12) <| pc (eq_of_beq h16) <| pn)
            · cases h
    · injection h with h; subst h; exact runLp_sound mixedOrders (live := [0, 2, 3, 4, 5, 6]) (ids := [0, 1]) (π := [.dec false]) (hx := by kernel_rfl) (hps := pc (h8) <| pn)
  · exact Ex.noConfusion

theorem k_udp_Take {a1 : List Int} {r : ((List Int) × Int × Int × Int)} (h : udp_Take a1 = some r) :
    CallsOK Try.prog UU 117 [.sl 5 a1] [] ((fun r => match r with | (l54, v55, v56, v57) => .tup [.v (.int .i64 v55), .v (.int .i64 v56), .os 0 (List.length l54), .v (.int .i64 v57)]) r) ((fun r => match r with | (l54, v55, v56, v57) => [.arr 5 l54 (List.length l54) false]) r) := by
  unfold udp_Take at h
  rcases ite_out h with ⟨h2, h⟩ | ⟨h2, h⟩
  · injection h with h; subst h; exact runFn_sound mixedOrders Try.func117 rfl (keep := some [1]) (π := [.dec true]) (hrun := by kernel_rfl) (hps := pc (h2) <| pn)
  · obtain ⟨r46, h45, h⟩ := bind_out h
    obtain ⟨v41, v42, v43, v44⟩ := r46
    rcases ite_out h with ⟨h47, h⟩ | ⟨h47, h⟩
    · injection h with h; subst h; exact runFn_sound mixedOrders Try.func117 rfl (keep := some [2]) (π := [.dec false, .sum [0, 2, 3, 4, 5, 6, 11] [0, 1] (.exit 0) [(0, .sl 5 a1), (2, .z), (3, .z), (4, .os 0 0), (5, .z), (6, .op 1 1 0 0)] [.n 5, .box 177 [.v (.int .i64 v41), .v (.int .i64 v42), .v (.int .i64 v43), .v (.int .i64 v44)] false], .frz [2], .dec true]) (hrun := by kernel_rfl) (hps := pc (h2) <| pc (k_udp_Take_L1 _ _ h45) <| pc ((rfl : (2 : Int) = ((2 : Nat) : Int))) <| pc (h47) <| pn)
    · rcases ite_out h with ⟨h48, h⟩ | ⟨h48, h⟩
      · injection h with h; subst h; exact runFn_sound mixedOrders Try.func117 rfl (keep := some [2]) (π := [.dec false, .sum [0, 2, 3, 4, 5, 6, 11] [0, 1] (.exit 0) [(0, .sl 5 a1), (2, .z), (3, .z), (4, .os 0 0), (5, .z), (6, .op 1 1 0 0)] [.n 5, .box 177 [.v (.int .i64 v41), .v (.int .i64 v42), .v (.int .i64 v43), .v (.int .i64 v44)] false], .frz [2], .dec false, .frz [2], .dec true]) (hrun := by kernel_rfl) (hps := pc (h2) <| pc (k_udp_Take_L1 _ _ h45) <| pc ((rfl : (2 : Int) = ((2 : Nat) : Int))) <| pc (h47) <| pc ((rfl : (2 : Int) = ((2 : Nat) : Int))) <| pc (h48) <| pn)
      · rcases ite_out h with ⟨h49, h⟩ | ⟨h49, h⟩
        · injection h with h; subst h; exact runFn_sound mixedOrders Try.func117 rfl (keep := some [2]) (π := [.dec false, .sum [0, 2, 3, 4, 5, 6, 11] [0, 1] (.exit 0) [(0, .sl 5 a1), (2, .z), (3, .z), (4, .os 0 0), (5, .z), (6, .op 1 1 0 0)] [.n 5, .box 177 [.v (.int .i64 v41), .v (.int .i64 v42), .v (.int .i64 v43), .v (.int .i64 v44)] false], .frz [2], .dec false, .frz [2], .dec false, .frz [3], .dec true]) (hrun := by kernel_rfl) (hps := pc (h2) <| pc (k_udp_Take_L1 _ _ h45) <| pc ((rfl : (2 : Int) = ((2 : Nat) : Int))) <| pc (h47) <| pc ((rfl : (2 : Int) = ((2 : Nat) : Int))) <| pc (h48) <| pc ((rfl : (3 : Int) = ((3 : Nat) : Int))) <| pc (h49) <| pn)
        · rcases ite_out h with ⟨h50, h⟩ | ⟨h50, h⟩
          · obtain ⟨l53, h52, h⟩ := bind_out h
            injection h with h; subst h; exact runFn_sound mixedOrders Try.func117 rfl (keep := some [2]) (π := [.dec false, .sum [0, 2, 3, 4, 5, 6, 11] [0, 1] (.exit 0) [(0, .sl 5 a1), (2, .z), (3, .z), (4, .os 0 0), (5, .z), (6, .op 1 1 0 0)] [.n 5, .box 177 [.v (.int .i64 v41), .v (.int .i64 v42), .v (.int .i64 v43), .v (.int .i64 v44)] false], .frz [2], .dec false, .frz [2], .dec false, .frz [3], .dec false, .sum [8] [] .nor [] [.n 5, .box 177 [.v (.int .i64 v41), .v (.int .i64 v42), .v (.int .i64 v43), .v (.int .i64 v44)] false, .arr 5 l53 (List.length l53) false], .frz [0], .frz [1], .frz [2], .callo (.os 0 (List.length l53)) [.arr 5 l53 (List.length l53) false]]) (hrun := by kernel_rfl) (hps := pc (h2) <| pc (k_udp_Take_L1 _ _ h45) <| pc ((rfl : (2 : Int) = ((2 : Nat) : Int))) <| pc (h47) <| pc ((rfl : (2 : Int) = ((2 : Nat) : Int))) <| pc (h48) <| pc ((rfl : (3 : Int) = ((3 : Nat) : Int))) <| pc (h49) <| pc ((rfl : (0 : Int) = ((0 : Nat) : Int))) <| pc ((rfl : (0 : Int) = ((0 : Nat) : Int))) <| pc ((rfl : (.op 1 1 0 0 : AV DD) = .op 1 1 0 0)) <| pc ((rfl : (.v (.int .i64 v41) : AV DD) = .v (.int .i64 v41))) <| pc ((rfl : (1 : Int) = ((1 : Nat) : Int))) <| pc ((rfl : (1 : Int) = ((1 : Nat) : Int))) <| pc ((rfl : (.op 1 1 0 1 : AV DD) = .op 1 1 0 1)) <| pc ((rfl : (.v (.int .i64 v42) : AV DD) = .v (.int .i64 v42))) <| pc ((rfl : (2 : Int) = ((2 : Nat) : Int))) <| pc (sl_ob h50) <| pc ((rfl : ([.n 5, .box 177 [.v (.int .i64 v41), .v (.int .i64 v42), .v (.int .i64 v43), .v (.int .i64 v44)] false, .arr 5 l53 (List.length l53) false] : Heap DD) = [.n 5, .box 177 [.v (.int .i64 v41), .v (.int .i64 v42), .v (.int .i64 v43), .v (.int .i64 v44)] false, .arr 5 l53 (List.length l53) false])) <| pc (k_slices_Clone_byte h52) <| pc (im5 l53) <| pn)
          · cases h

theorem k_vxlan_Vni {a1 : List Int} {r : ((List Int) × Int × Int)} (h : vxlan_Vni a1 = some r) :
    CallsOK Try.prog UU 15 [.sl 5 a1] [] ((fun r => match r with | (l18, v19, v20) => .tup [.v (.int .i64 v19), .os 0 (List.length l18), .v (.int .i64 v20)]) r) ((fun r => match r with | (l18, v19, v20) => [.arr 5 l18 (List.length l18) false]) r) := by
  unfold vxlan_Vni at h
  rcases ite_out h with ⟨h2, h⟩ | ⟨h2, h⟩
  · injection h with h; subst h; exact runFn_sound mixedOrders Try.func15 rfl (keep := some [1]) (π := [.dec true]) (hrun := by kernel_rfl) (hps := pc (h2) <| pn)
  · obtain ⟨x3, h4, h⟩ := bind_out h
    obtain ⟨x5, h6, h⟩ := bind_out h
    obtain ⟨x7, h8, h⟩ := bind_out h
    obtain ⟨r9, h10, h⟩ := bind_out h
    obtain ⟨l11, v12⟩ := r9
    rcases ite_out h with ⟨h13, h⟩ | ⟨h13, h⟩
    · injection h with h; subst h; exact runFn_sound mixedOrders Try.func15 rfl (keep := some [2]) (π := [.dec false, .row (c5 x3), .row (c5 x5), .row (c5 x7), .callo (.tup [.os 0 (List.length l11), .v (.int .i64 v12)]) [.arr 5 l11 (List.length l11) false], .dec true]) (hrun := by kernel_rfl) (hps := pc (h2) <| pc (ob5 h4) <| pc ((show (0 : Int) ≤ 16 from by decide)) <| pc (ob5 h6) <| pc ((show (0 : Int) ≤ 8 from by decide)) <| pc (ob5 h8) <| pc (k_vxlan_Head h10) <| pc (im5 l11) <| pc (h13) <| pn)
    · rcases ite_out h with ⟨h14, h⟩ | ⟨h14, h⟩
      · rcases ite_out h with ⟨h15, h⟩ | ⟨h15, h⟩
        · injection h with h; subst h; exact runFn_sound mixedOrders Try.func15 rfl (keep := some [2]) (π := [.dec false, .row (c5 x3), .row (c5 x5), .row (c5 x7), .callo (.tup [.os 0 (List.length l11), .v (.int .i64 v12)]) [.arr 5 l11 (List.length l11) false], .dec false, .callv (.v (.string (bstr l11))), .callv (.v (.string (bstr (List.drop (Int.toNat 0) (List.take (Int.toNat 8) a1))))), .dec true]) (hrun := by kernel_rfl) (hps := pc (h2) <| pc (ob5 h4) <| pc ((show (0 : Int) ≤ 16 from by decide)) <| pc (ob5 h6) <| pc ((show (0 : Int) ≤ 8 from by decide)) <| pc (ob5 h8) <| pc (k_vxlan_Head h10) <| pc (im5 l11) <| pc (h13) <| pc (cvb5 l11) <| pc ((rfl : ((List.length l11) : Nat) = (List.length l11))) <| pc (sl_ob h14) <| pc (cvb5 (List.drop (Int.toNat 0) (List.take (Int.toNat 8) a1))) <| pc (h15) <| pn)
        · rcases ite_out h with ⟨h16, h⟩ | ⟨h16, h⟩
          · rcases ite_out h with ⟨h17, h⟩ | ⟨h17, h⟩
            · injection h with h; subst h; exact runFn_sound mixedOrders Try.func15 rfl (keep := some [2]) (π := [.dec false, .row (c5 x3), .row (c5 x5), .row (c5 x7), .callo (.tup [.os 0 (List.length l11), .v (.int .i64 v12)]) [.arr 5 l11 (List.length l11) false], .dec false, .callv (.v (.string (bstr l11))), .callv (.v (.string (bstr (List.drop (Int.toNat 0) (List.take (Int.toNat 8) a1))))), .dec false, .obj [] (.arr 5 (List.drop (Int.toNat 8) (List.take (Int.toNat ((List.length a1) : Int)) a1)) (List.length (List.drop (Int.toNat 8) (List.take (Int.toNat ((List.length a1) : Int)) a1))) false)]) (hrun := by kernel_rfl) (hps := pc (h2) <| pc (ob5 h4) <| pc ((show (0 : Int) ≤ 16 from by decide)) <| pc (ob5 h6) <| pc ((show (0 : Int) ≤ 8 from by decide)) <| pc (ob5 h8) <| pc (k_vxlan_Head h10) <| pc (im5 l11) <| pc (h13) <| pc (cvb5 l11) <| pc ((rfl : ((List.length l11) : Nat) = (List.length l11))) <| pc (sl_ob h14) <| pc (cvb5 (List.drop (Int.toNat 0) (List.take (Int.toNat 8) a1))) <| pc (h15) <| pc (sl_ob h16) <| pc (apn_ob 5 h17) <| pn)
            · cases h
          · cases h
      · cases h

theorem k_vxlan_reader_frame_own_J1 {a1 : Int} {a2 : Int} {a3 : Int} {a4 : Int} {a5 : Int} {a6 : Int} {a7 : List Int} {a8 : Int} {l13 : List Int} {v16 : Int} {v22 : Int} {r : ((List Int) × Int × Int × Int)} (h : vxlan_reader_frame_own_J1 a1 a2 a3 a4 a5 a6 a7 a8 l13 v16 v22 = some r) :
    ExecOK Try.prog UU 2 70 (subC (codeOf Try.f58) [1, 1, 1, 1, 1, 0]) [(0, .op 0 1 0 0), (2, .op 2 1 0 0), (5, .os 4 (List.length l13)), (6, .v (.int .i64 v16))] [.box 114 [.v (.int .i64 a1), .v (.int .i64 a2), .v (.int .i64 a3), .v (.int .i64 a4), .v (.int .u32 a5), .v (.int .u32 a6), .os 1 (List.length a7), .v (.int .i64 a8), .v (.int .i64 v22)] false, .arr 5 a7 (List.length a7) false, .box 37 [.v (.int .u64 0), .v (.int .u64 0), .z, .os 3 0] false, .n 5, .arr 5 l13 (List.length l13) false] ((fun r => match r with | (l45, v46, v47, v48) => .nor) r) ((fun r => match r with | (l45, v46, v47, v48) => [(0, .op 0 1 0 0), (2, .op 2 1 0 0), (5, .os 4 (List.length l45)), (6, .v (.int .i64 v48))]) r) ((fun r => match r with | (l45, v46, v47, v48) => [.box 114 [.v (.int .i64 a1), .v (.int .i64 a2), .v (.int .i64 a3), .v (.int .i64 a4), .v (.int .u32 a5), .v (.int .u32 a6), .os 1 (List.length a7), .v (.int .i64 v46), .v (.int .i64 v47)] false, .arr 5 a7 (List.length a7) false, .box 37 [.v (.int .u64 0), .v (.int .u64 0), .z, .os 3 0] false, .n 5, .arr 5 l45 (List.length l45) false]) r) := by
  unfold vxlan_reader_frame_own_J1 at h
  rcases ite_out h with ⟨h23, h⟩ | ⟨h23, h⟩
  · obtain ⟨r24, h25, h⟩ := bind_out h
    obtain ⟨l26, v27, v28⟩ := r24
    obtain ⟨v31, h30, h⟩ := bind_out h
    injection h with h; subst h; exact runLp_sound mixedOrders (live := [0, 2, 5, 6]) (ids := [0, 1, 2, 3, 5]) (π := [.dec true, .callo (.tup [.v (.int .i64 v27), .os 0 (List.length l26), .v (.int .i64 v28)]) [.arr 5 l26 (List.length l26) false], .callm [0, 1] (.tup []) [.box 114 [.v (.int .i64 a1), .v (.int .i64 a2), .v (.int .i64 a3), .v (.int .i64 a4), .v (.int .u32 a5), .v (.int .u32 a6), .os 1 (List.length a7), .v (.int .i64 v27), .v (.int .i64 v31)] false, .arr 5 a7 (List.length a7) false]]) (hx := by kernel_rfl) (hps := pc (h23) <| pc (k_vxlan_Vni h25) <| pc (im5 l26) <| pc ((rfl : ((List.length l13) : Nat) = (List.length l13))) <| pc (k_vxlan_reader_fail_own h30) <| pn)
  · injection h with h; subst h; exact runLp_sound mixedOrders (live := [0, 2, 5, 6]) (ids := [0, 1, 2, 3, 4]) (π := [.dec false]) (hx := by kernel_rfl) (hps := pc (h23) <| pn)

theorem k_vxlan_reader_frame_own {a1 : Int} {a2 : Int} {a3 : Int} {a4 : Int} {a5 : Int} {a6 : Int} {a7 : List Int} {a8 : Int} {a9 : Int} {r : ((List Int) × Int × Int × Nat × Int × Int × Int)} (h : vxlan_reader_frame_own a1 a2 a3 a4 a5 a6 a7 a8 a9 = some r) :
    CallsOK Try.prog UU 58 [.op 0 1 0 0] [.box 114 [.v (.int .i64 a1), .v (.int .i64 a2), .v (.int .i64 a3), .v (.int .i64 a4), .v (.int .u32 a5), .v (.int .u32 a6), .os 1 (List.length a7), .v (.int .i64 a8), .v (.int .i64 a9)] false, .arr 5 a7 (List.length a7) false] ((fun r => match r with | (l68, v69, v70, n71, v72, v73, v74) => .agg [.v (.int .u64 v72), .v (.int .u64 v73), .v (.int .i64 v74), .os 2 n71]) r) ((fun r => match r with | (l68, v69, v70, n71, v72, v73, v74) => [.box 114 [.v (.int .i64 a1), .v (.int .i64 a2), .v (.int .i64 a3), .v (.int .i64 a4), .v (.int .u32 a5), .v (.int .u32 a6), .os 1 (List.length a7), .v (.int .i64 v69), .v (.int .i64 v70)] false, .arr 5 a7 (List.length a7) false, .arr 5 l68 n71 false]) r) := by
  unfold vxlan_reader_frame_own at h
  rcases ite_out h with ⟨h10, h⟩ | ⟨h10, h⟩
  · injection h with h; subst h; exact runFn_sound mixedOrders Try.func58 rfl (keep := some [0, 1, 4]) (π := [.dec true]) (hrun := by kernel_rfl) (hps := pc (h10) <| pn)
  · obtain ⟨r11, h12, h⟩ := bind_out h
    obtain ⟨l13, v14, v15, v16⟩ := r11
    obtain ⟨v19, h18, h⟩ := bind_out h
    obtain ⟨v22, h21, h⟩ := bind_out h
    obtain ⟨r50, h49, h⟩ := bind_out h
    obtain ⟨l45, v46, v47, v48⟩ := r50
    rcases ite_out h with ⟨h51, h⟩ | ⟨h51, h⟩
    · injection h with h; subst h; exact runFn_sound mixedOrders Try.func58 rfl (keep := some [0, 1, 5]) (π := [.dec false, .callo (.tup [.v (.int .i64 v14), .v (.int .i64 v15), .os 0 (List.length l13), .v (.int .i64 v16)]) [.arr 5 l13 (List.length l13) false], .callm [0, 1] (.tup []) [.box 114 [.v (.int .i64 a1), .v (.int .i64 a2), .v (.int .i64 a3), .v (.int .i64 a4), .v (.int .u32 a5), .v (.int .u32 a6), .os 1 (List.length a7), .v (.int .i64 a8), .v (.int .i64 v19)] false, .arr 5 a7 (List.length a7) false], .callm [0, 1] (.tup []) [.box 114 [.v (.int .i64 a1), .v (.int .i64 a2), .v (.int .i64 a3), .v (.int .i64 a4), .v (.int .u32 a5), .v (.int .u32 a6), .os 1 (List.length a7), .v (.int .i64 a8), .v (.int .i64 v22)] false, .arr 5 a7 (List.length a7) false], .cut [0, 2, 5, 6] [0, 1, 3, 2, 4] .nor [(0, .op 0 1 0 0), (2, .op 2 1 0 0), (5, .os 4 (List.length l45)), (6, .v (.int .i64 v48))] [.box 114 [.v (.int .i64 a1), .v (.int .i64 a2), .v (.int .i64 a3), .v (.int .i64 a4), .v (.int .u32 a5), .v (.int .u32 a6), .os 1 (List.length a7), .v (.int .i64 v46), .v (.int .i64 v47)] false, .arr 5 a7 (List.length a7) false, .box 37 [.v (.int .u64 0), .v (.int .u64 0), .z, .os 3 0] false, .n 5, .arr 5 l45 (List.length l45) false], .dec true]) (hrun := by kernel_rfl) (hps := pc (h10) <| pc (k_udp_Take h12) <| pc (im5 l13) <| pc ((rfl : ((List.length a7) : Nat) = (List.length a7))) <| pc (k_vxlan_reader_fail_own h18) <| pc (k_vxlan_reader_fail_own h21) <| pc (k_vxlan_reader_frame_own_J1 h49) <| pc (h51) <| pn)
    · obtain ⟨r52, h53, h⟩ := bind_out h
      obtain ⟨l54, n55, v56, v57, v58, v59⟩ := r52
      obtain ⟨v62, h61, h⟩ := bind_out h
      obtain ⟨r63, h64, h⟩ := bind_out h
      obtain ⟨v67, h66, h⟩ := bind_out h
      injection h with h; subst h; exact runFn_sound mixedOrders Try.func58 rfl (keep := some [0, 1, 5]) (π := [.dec false, .callo (.tup [.v (.int .i64 v14), .v (.int .i64 v15), .os 0 (List.length l13), .v (.int .i64 v16)]) [.arr 5 l13 (List.length l13) false], .callm [0, 1] (.tup []) [.box 114 [.v (.int .i64 a1), .v (.int .i64 a2), .v (.int .i64 a3), .v (.int .i64 a4), .v (.int .u32 a5), .v (.int .u32 a6), .os 1 (List.length a7), .v (.int .i64 a8), .v (.int .i64 v19)] false, .arr 5 a7 (List.length a7) false], .callm [0, 1] (.tup []) [.box 114 [.v (.int .i64 a1), .v (.int .i64 a2), .v (.int .i64 a3), .v (.int .i64 a4), .v (.int .u32 a5), .v (.int .u32 a6), .os 1 (List.length a7), .v (.int .i64 a8), .v (.int .i64 v22)] false, .arr 5 a7 (List.length a7) false], .cut [0, 2, 5, 6] [0, 1, 3, 2, 4] .nor [(0, .op 0 1 0 0), (2, .op 2 1 0 0), (5, .os 4 (List.length l45)), (6, .v (.int .i64 v48))] [.box 114 [.v (.int .i64 a1), .v (.int .i64 a2), .v (.int .i64 a3), .v (.int .i64 a4), .v (.int .u32 a5), .v (.int .u32 a6), .os 1 (List.length a7), .v (.int .i64 v46), .v (.int .i64 v47)] false, .arr 5 a7 (List.length a7) false, .box 37 [.v (.int .u64 0), .v (.int .u64 0), .z, .os 3 0] false, .n 5, .arr 5 l45 (List.length l45) false], .dec false, .callo (.tup [.agg [.v (.int .u64 v56), .v (.int .u64 v57), .v (.int .i64 v58), .os 0 n55], .v (.int .i64 v59)]) [.arr 5 l54 n55 false], .callm [0, 1] (.tup []) [.box 114 [.v (.int .i64 a1), .v (.int .i64 a2), .v (.int .i64 a3), .v (.int .i64 a4), .v (.int .u32 a5), .v (.int .u32 a6), .os 1 (List.length a7), .v (.int .i64 v46), .v (.int .i64 v62)] false, .arr 5 a7 (List.length a7) false], .callv (.v (.bool r63)), .callm [0, 1] (.tup []) [.box 114 [.v (.int .i64 a1), .v (.int .i64 a2), .v (.int .i64 a3), .v (.int .i64 a4), .v (.int .u32 a5), .v (.int .u32 a6), .os 1 (List.length a7), .v (.int .i64 v46), .v (.int .i64 v67)] false, .arr 5 a7 (List.length a7) false]]) (hrun := by kernel_rfl) (hps := pc (h10) <| pc (k_udp_Take h12) <| pc (im5 l13) <| pc ((rfl : ((List.length a7) : Nat) = (List.length a7))) <| pc (k_vxlan_reader_fail_own h18) <| pc (k_vxlan_reader_fail_own h21) <| pc (k_vxlan_reader_frame_own_J1 h49) <| pc (h51) <| pc (k_ether_Take h53) <| pc (im5 l54) <| pc ((rfl : ((List.length l45) : Nat) = (List.length l45))) <| pc (k_vxlan_reader_fail_own h61) <| pc (k_tag_Is h64) <| pc ((rfl : (n55 : Nat) = n55)) <| pc (k_vxlan_reader_fail_own h66) <| pn)

theorem k_vxlan_Unwrap_J1 {a1 : List Int} {r : ((List Int) × Int × Int × Int × Int × Int × Int × Int)} (h : vxlan_Unwrap_J1 a1 = some r) :
    ExecOK Try.prog UU 0 43 (subC (codeOf Try.f19) [1, 1, 0]) [(0, .sl 5 a1), (2, .v (.int .u32 0)), (3, .v (.int .u32 0)), (4, .z), (5, .op 0 1 0 0), (6, .z), (7, .op 2 1 0 0)] [.box 37 [.v (.int .u64 0), .v (.int .u64 0), .z, .os 1 0] false, .n 5, .box 114 [.z, .z, .z, .z, .v (.int .u32 0), .v (.int .u32 0), .os 3 0, .z, .z] false, .n 5] ((fun r => match r with | (l61, v62, v63, v64, v65, v66, v67, v68) => .nor) r) ((fun r => match r with | (l61, v62, v63, v64, v65, v66, v67, v68) => [(2, .v (.int .u32 0)), (3, .v (.int .u32 0)), (4, .z), (5, .op 0 1 0 0), (6, .z), (7, .op 2 1 0 0)]) r) ((fun r => match r with | (l61, v62, v63, v64, v65, v66, v67, v68) => [.box 37 [.v (.int .u64 0), .v (.int .u64 0), .z, .os 1 0] false, .n 5, .box 114 [.v (.int .i64 v62), .v (.int .i64 v63), .v (.int .i64 v64), .v (.int .i64 v65), .v (.int .u32 v66), .v (.int .u32 v67), .os 3 (List.length l61), .z, .v (.int .i64 v68)] false, .arr 5 l61 (List.length l61) false]) r) := by
  unfold vxlan_Unwrap_J1 at h
  obtain ⟨r2, h3, h⟩ := bind_out h
  rcases r2 with ⟨l4, v5, v6, v7, v8, v9, v10, v11⟩ | v12
  · injection h with h; subst h; exact runLp_sound mixedOrders (live := [2, 3, 4, 5, 6, 7]) (ids := [0, 1, 2, 4]) (π := [.callm [2, 3] (.tup []) [.box 114 [.v (.int .i64 v5), .v (.int .i64 v6), .v (.int .i64 v7), .v (.int .i64 v8), .v (.int .u32 v9), .v (.int .u32 v10), .os 2 (List.length l4), .z, .v (.int .i64 v11)] false, .n 5, .arr 5 l4 (List.length l4) false]]) (hx := by kernel_rfl) (hps := pc (k_vxlan_reader_packet_own h3) <| pn)
  · injection h with h; subst h; exact runLp_sound mixedOrders (live := [2, 3, 4, 5, 6, 7]) (ids := [0, 1, 2, 3]) (π := [.callm [2, 3] (.tup []) [.box 114 [.z, .z, .z, .z, .v (.int .u32 0), .v (.int .u32 0), .os 1 0, .z, .v (.int .i64 v12)] false, .n 5]]) (hx := by kernel_rfl) (hps := pc (k_vxlan_reader_packet_own h3) <| pn)

theorem k_vxlan_Unwrap {a1 : List Int} {r : ((List Int) × Nat × Int × Int × Int × Int × Int × Int × Int)} (h : vxlan_Unwrap a1 = some r) :
    CallsOK Try.prog UU 19 [.sl 5 a1] [] ((fun r => match r with | (l81, n82, v83, v84, v85, v86, v87, v88, v89) => .tup [.v (.int .u32 v83), .v (.int .u32 v84), .v (.int .i64 v85), .agg [.v (.int .u64 v86), .v (.int .u64 v87), .v (.int .i64 v88), .os 0 n82], .v (.int .i64 v89)]) r) ((fun r => match r with | (l81, n82, v83, v84, v85, v86, v87, v88, v89) => [.arr 5 l81 n82 false]) r) := by
  unfold vxlan_Unwrap at h
  obtain ⟨r70, h69, h⟩ := bind_out h
  obtain ⟨l61, v62, v63, v64, v65, v66, v67, v68⟩ := r70
  obtain ⟨r71, h72, h⟩ := bind_out h
  obtain ⟨l73, v74, v75, n76, v77, v78, v79⟩ := r71
  rcases ite_out h with ⟨h80, h⟩ | ⟨h80, h⟩
  · injection h with h; subst h; exact runFn_sound mixedOrders Try.func19 rfl (keep := some [5]) (π := [.skp, .skp, .cut [0, 2, 3, 4, 5, 6, 7] [1, 0, 3, 2] .nor [(2, .v (.int .u32 0)), (3, .v (.int .u32 0)), (4, .z), (5, .op 0 1 0 0), (6, .z), (7, .op 2 1 0 0)] [.box 37 [.v (.int .u64 0), .v (.int .u64 0), .z, .os 1 0] false, .n 5, .box 114 [.v (.int .i64 v62), .v (.int .i64 v63), .v (.int .i64 v64), .v (.int .i64 v65), .v (.int .u32 v66), .v (.int .u32 v67), .os 3 (List.length l61), .z, .v (.int .i64 v68)] false, .arr 5 l61 (List.length l61) false], .callm [2, 3] (.agg [.v (.int .u64 v77), .v (.int .u64 v78), .v (.int .i64 v79), .os 2 n76]) [.box 114 [.v (.int .i64 v62), .v (.int .i64 v63), .v (.int .i64 v64), .v (.int .i64 v65), .v (.int .u32 v66), .v (.int .u32 v67), .os 1 (List.length l61), .v (.int .i64 v74), .v (.int .i64 v75)] false, .arr 5 l61 (List.length l61) false, .arr 5 l73 n76 false], .dec true, .sum [8] [] .nor [] [.box 37 [.v (.int .u64 0), .v (.int .u64 0), .z, .os 5 0] false, .n 5, .box 114 [.v (.int .i64 v62), .v (.int .i64 v63), .v (.int .i64 v64), .v (.int .i64 v65), .v (.int .u32 v66), .v (.int .u32 v67), .os 3 (List.length l61), .v (.int .i64 v74), .v (.int .i64 v75)] false, .arr 5 l61 (List.length l61) false, .arr 5 l73 n76 false, .n 5]]) (hrun := by kernel_rfl) (hps := pc (k_vxlan_Unwrap_J1 h69) <| pc (k_vxlan_reader_frame_own h72) <| pc (h80) <| pc ((rfl : (.op 2 1 0 0 : AV DD) = .op 2 1 0 0)) <| pc ((rfl : (.op 2 1 0 0 : AV DD) = .op 2 1 0 0)) <| pc ((rfl : (.op 2 1 0 8 : AV DD) = .op 2 1 0 8)) <| pc ((rfl : (.v (.int .i64 v75) : AV DD) = .v (.int .i64 v75))) <| pc ((rfl : ([.box 37 [.v (.int .u64 0), .v (.int .u64 0), .z, .os 5 0] false, .n 5, .box 114 [.v (.int .i64 v62), .v (.int .i64 v63), .v (.int .i64 v64), .v (.int .i64 v65), .v (.int .u32 v66), .v (.int .u32 v67), .os 3 (List.length l61), .v (.int .i64 v74), .v (.int .i64 v75)] false, .arr 5 l61 (List.length l61) false, .arr 5 l73 n76 false, .n 5] : Heap DD) = [.box 37 [.v (.int .u64 0), .v (.int .u64 0), .z, .os 5 0] false, .n 5, .box 114 [.v (.int .i64 v62), .v (.int .i64 v63), .v (.int .i64 v64), .v (.int .i64 v65), .v (.int .u32 v66), .v (.int .u32 v67), .os 3 (List.length l61), .v (.int .i64 v74), .v (.int .i64 v75)] false, .arr 5 l61 (List.length l61) false, .arr 5 l73 n76 false, .n 5])) <| pn)
  · injection h with h; subst h; exact runFn_sound mixedOrders Try.func19 rfl (keep := some [4]) (π := [.skp, .skp, .cut [0, 2, 3, 4, 5, 6, 7] [1, 0, 3, 2] .nor [(2, .v (.int .u32 0)), (3, .v (.int .u32 0)), (4, .z), (5, .op 0 1 0 0), (6, .z), (7, .op 2 1 0 0)] [.box 37 [.v (.int .u64 0), .v (.int .u64 0), .z, .os 1 0] false, .n 5, .box 114 [.v (.int .i64 v62), .v (.int .i64 v63), .v (.int .i64 v64), .v (.int .i64 v65), .v (.int .u32 v66), .v (.int .u32 v67), .os 3 (List.length l61), .z, .v (.int .i64 v68)] false, .arr 5 l61 (List.length l61) false], .callm [2, 3] (.agg [.v (.int .u64 v77), .v (.int .u64 v78), .v (.int .i64 v79), .os 2 n76]) [.box 114 [.v (.int .i64 v62), .v (.int .i64 v63), .v (.int .i64 v64), .v (.int .i64 v65), .v (.int .u32 v66), .v (.int .u32 v67), .os 1 (List.length l61), .v (.int .i64 v74), .v (.int .i64 v75)] false, .arr 5 l61 (List.length l61) false, .arr 5 l73 n76 false], .dec false]) (hrun := by kernel_rfl) (hps := pc (k_vxlan_Unwrap_J1 h69) <| pc (k_vxlan_reader_frame_own h72) <| pc (h80) <| pn)

theorem k_palinglaw09_works {r : Bool} (h : palinglaw09_works = some r) :
    CallsOK Try.prog UU 12 [] [] (.v (.bool r)) [] := by
  unfold palinglaw09_works at h
  obtain ⟨r1, h2, h⟩ := bind_out h
  obtain ⟨l3, v4⟩ := r1
  obtain ⟨r5, h6, h⟩ := bind_out h
  obtain ⟨l7, n8, v9, v10, v11, v12, v13, v14, v15⟩ := r5
  rcases ite_out h with ⟨h16, h⟩ | ⟨h16, h⟩
  · rcases ite_out h with ⟨h17, h⟩ | ⟨h17, h⟩
    · rcases ite_out h with ⟨h18, h⟩ | ⟨h18, h⟩
      · rcases ite_out h with ⟨h19, h⟩ | ⟨h19, h⟩
        · injection h with h; subst h; exact runFn_sound mixedOrders Try.func12 rfl (keep := none) (π := [.callo (.tup [.os 0 (List.length l3), .v (.int .i64 v4)]) [.arr 5 l3 (List.length l3) false], .callo (.tup [.v (.int .u32 v9), .v (.int .u32 v10), .v (.int .i64 v11), .agg [.v (.int .u64 v12), .v (.int .u64 v13), .v (.int .i64 v14), .os 0 n8], .v (.int .i64 v15)]) [.arr 5 l7 n8 false], .dec true, .dec true, .callv (.v (.string (bstr (List.drop (Int.toNat 42) (List.take (Int.toNat 50) l3))))), .dec true]) (hrun := by kernel_rfl) (hps := pc (k_vxlan_Wrap h2) <| pc (im5 l3) <| pc (k_vxlan_Unwrap h6) <| pc (im5 l7) <| pc (h16) <| pc ((rfl : ((List.length l3) : Nat) = (List.length l3))) <| pc (h17) <| pc ((rfl : ((List.length l3) : Nat) = (List.length l3))) <| pc (sl_ob h18) <| pc (cvb5 (List.drop (Int.toNat 42) (List.take (Int.toNat 50) l3))) <| pc ((rfl : ((List.length l3) : Nat) = (List.length l3))) <| pc (h19) <| pn)
        · injection h with h; subst h; exact runFn_sound mixedOrders Try.func12 rfl (keep := none) (π := [.callo (.tup [.os 0 (List.length l3), .v (.int .i64 v4)]) [.arr 5 l3 (List.length l3) false], .callo (.tup [.v (.int .u32 v9), .v (.int .u32 v10), .v (.int .i64 v11), .agg [.v (.int .u64 v12), .v (.int .u64 v13), .v (.int .i64 v14), .os 0 n8], .v (.int .i64 v15)]) [.arr 5 l7 n8 false], .dec true, .dec true, .callv (.v (.string (bstr (List.drop (Int.toNat 42) (List.take (Int.toNat 50) l3))))), .dec false]) (hrun := by kernel_rfl) (hps := pc (k_vxlan_Wrap h2) <| pc (im5 l3) <| pc (k_vxlan_Unwrap h6) <| pc (im5 l7) <| pc (h16) <| pc ((rfl : ((List.length l3) : Nat) = (List.length l3))) <| pc (h17) <| pc ((rfl : ((List.length l3) : Nat) = (List.length l3))) <| pc (sl_ob h18) <| pc (cvb5 (List.drop (Int.toNat 42) (List.take (Int.toNat 50) l3))) <| pc ((rfl : ((List.length l3) : Nat) = (List.length l3))) <| pc (h19) <| pn)
      · cases h
    · injection h with h; subst h; exact runFn_sound mixedOrders Try.func12 rfl (keep := none) (π := [.callo (.tup [.os 0 (List.length l3), .v (.int .i64 v4)]) [.arr 5 l3 (List.length l3) false], .callo (.tup [.v (.int .u32 v9), .v (.int .u32 v10), .v (.int .i64 v11), .agg [.v (.int .u64 v12), .v (.int .u64 v13), .v (.int .i64 v14), .os 0 n8], .v (.int .i64 v15)]) [.arr 5 l7 n8 false], .dec true, .dec false]) (hrun := by kernel_rfl) (hps := pc (k_vxlan_Wrap h2) <| pc (im5 l3) <| pc (k_vxlan_Unwrap h6) <| pc (im5 l7) <| pc (h16) <| pc ((rfl : ((List.length l3) : Nat) = (List.length l3))) <| pc (h17) <| pn)
  · injection h with h; subst h; exact runFn_sound mixedOrders Try.func12 rfl (keep := none) (π := [.callo (.tup [.os 0 (List.length l3), .v (.int .i64 v4)]) [.arr 5 l3 (List.length l3) false], .callo (.tup [.v (.int .u32 v9), .v (.int .u32 v10), .v (.int .i64 v11), .agg [.v (.int .u64 v12), .v (.int .u64 v13), .v (.int .i64 v14), .os 0 n8], .v (.int .i64 v15)]) [.arr 5 l7 n8 false], .dec false]) (hrun := by kernel_rfl) (hps := pc (k_vxlan_Wrap h2) <| pc (im5 l3) <| pc (k_vxlan_Unwrap h6) <| pc (im5 l7) <| pc (h16) <| pn)

theorem k_mac_IsHost {a1 : Int} {r : Int × Bool} (h : mac_IsHost a1 = some r) :
    CallsOK Try.prog UU 23 [.v (.int .u64 a1)] [] (.tup [.v (.int .u32 r.1), .v (.bool r.2)]) [] := by
  unfold mac_IsHost at h
  rcases ite_out h with ⟨h2, h⟩ | ⟨h2, h⟩
  · injection h with h; subst h; exact runFn_sound mixedOrders Try.func23 rfl (keep := none) (π := [.dec true]) (hrun := by kernel_rfl) (hps := pc ((show (0 : Int) ≤ 32 from by decide)) <| pc (h2) <| pn)
  · injection h with h; subst h; exact runFn_sound mixedOrders Try.func23 rfl (keep := none) (π := [.dec false]) (hrun := by kernel_rfl) (hps := pc ((show (0 : Int) ≤ 32 from by decide)) <| pc (h2) <| pn)

theorem k_palinglaw09_VxlanOuter {a1 : Int} {a2 : Int} {a3 : Int} {a4 : Api_Frame} {a5 : Int} {a6 : Int} {r : Bool} (h : palinglaw09_VxlanOuter a1 a2 a3 a4 a5 a6 = some r) :
    CallsOK Try.prog UU 6 [.v (.int .u32 a1), .v (.int .u32 a2), .v (.int .i64 a3), .agg (c37 a4), .v (.int .u8 a5), .v (.int .u8 a6)] [] (.v (.bool r)) [] := by
  unfold palinglaw09_VxlanOuter at h
  obtain ⟨r7, h8, h⟩ := bind_out h
  rcases ite_out h with ⟨h9, h⟩ | ⟨h9, h⟩
  · injection h with h; subst h; exact runFn_sound mixedOrders Try.func6 rfl (keep := none) (π := [.callv (.v (.bool r7)), .dec true]) (hrun := by kernel_rfl) (hps := pc (k_palinglaw09_works h8) <| pc (h9) <| pn)
  · rcases ite_out h with ⟨h10, h⟩ | ⟨h10, h⟩
    · injection h with h; subst h; exact runFn_sound mixedOrders Try.func6 rfl (keep := none) (π := [.callv (.v (.bool r7)), .dec false, .dec true]) (hrun := by kernel_rfl) (hps := pc (k_palinglaw09_works h8) <| pc (h9) <| pc (h10) <| pn)
    · obtain ⟨r11, h12, h⟩ := bind_out h
      obtain ⟨l13, v14⟩ := r11
      rcases ite_out h with ⟨h15, h⟩ | ⟨h15, h⟩
      · injection h with h; subst h; exact runFn_sound mixedOrders Try.func6 rfl (keep := none) (π := [.callv (.v (.bool r7)), .dec false, .dec false, .callo (.tup [.os 0 (List.length l13), .v (.int .i64 v14)]) [.arr 5 l13 (List.length l13) false], .dec true]) (hrun := by kernel_rfl) (hps := pc (k_palinglaw09_works h8) <| pc (h9) <| pc (h10) <| pc (k_vxlan_Wrap h12) <| pc (im5 l13) <| pc (h15) <| pn)
      · rcases ite_out h with ⟨h16, h⟩ | ⟨h16, h⟩
        · injection h with h; subst h; exact runFn_sound mixedOrders Try.func6 rfl (keep := none) (π := [.callv (.v (.bool r7)), .dec false, .dec false, .callo (.tup [.os 0 (List.length l13), .v (.int .i64 v14)]) [.arr 5 l13 (List.length l13) false], .dec false, .dec true]) (hrun := by kernel_rfl) (hps := pc (k_palinglaw09_works h8) <| pc (h9) <| pc (h10) <| pc (k_vxlan_Wrap h12) <| pc (im5 l13) <| pc (h15) <| pc ((rfl : ((List.length l13) : Nat) = (List.length l13))) <| pc (h16) <| pn)
        · obtain ⟨r17, h18, h⟩ := bind_out h
          obtain ⟨l19, n20, v21, v22, v23, v24⟩ := r17
          obtain ⟨r25, h26, h⟩ := bind_out h
          obtain ⟨r27, h28, h⟩ := bind_out h
          rcases ite_out h with ⟨h29, h⟩ | ⟨h29, h⟩
          · obtain ⟨x30, h31, h⟩ := bind_out h
            rcases ite_out h with ⟨h32, h⟩ | ⟨h32, h⟩
            · obtain ⟨x33, h34, h⟩ := bind_out h
              obtain ⟨r35, h36, h⟩ := bind_out h
              obtain ⟨l37, n38, v39, v40, v41, v42, v43, v44, v45⟩ := r35
              rcases ite_out h with ⟨h46, h⟩ | ⟨h46, h⟩
              · rcases ite_out h with ⟨h47, h⟩ | ⟨h47, h⟩
                · rcases ite_out h with ⟨h48, h⟩ | ⟨h48, h⟩
                  · rcases ite_out h with ⟨h49, h⟩ | ⟨h49, h⟩
                    · rcases ite_out h with ⟨h50, h⟩ | ⟨h50, h⟩
                      · rcases ite_out h with ⟨h51, h⟩ | ⟨h51, h⟩
                        · injection h with h; subst h; exact runFn_sound mixedOrders Try.func6 rfl (keep := none) (π := [.callv (.v (.bool r7)), .dec false, .dec false, .callo (.tup [.os 0 (List.length l13), .v (.int .i64 v14)]) [.arr 5 l13 (List.length l13) false], .dec false, .dec false, .callo (.tup [.agg [.v (.int .u64 v21), .v (.int .u64 v22), .v (.int .i64 v23), .os 0 n20], .v (.int .i64 v24)]) [.arr 5 l19 n20 false], .callv (.tup [.v (.int .u32 r25.1), .v (.bool r25.2)]), .callv (.tup [.v (.int .u32 r27.1), .v (.bool r27.2)]), .row (c5 x30), .row (c5 x33), .obj [] (.arr 5 (List.set l13 (Int.toNat (wr_i64 (14 + (Int.tmod (wr_i64 a5) 20)))) (bits_xor .u8 x30 (wr_u8 (1 * 2 ^ (min (Int.toNat (Int.tmod a6 8)) 8))) : Int)) (List.length l13) false), .callo (.tup [.v (.int .u32 v39), .v (.int .u32 v40), .v (.int .i64 v41), .agg [.v (.int .u64 v42), .v (.int .u64 v43), .v (.int .i64 v44), .os 0 n38], .v (.int .i64 v45)]) [.arr 5 l37 n38 false], .dec true, .dec true, .dec true, .dec true, .dec true, .dec true]) (hrun := by kernel_rfl) (hps := pc (k_palinglaw09_works h8) <| pc (h9) <| pc (h10) <| pc (k_vxlan_Wrap h12) <| pc (im5 l13) <| pc (h15) <| pc ((rfl : ((List.length l13) : Nat) = (List.length l13))) <| pc (h16) <| pc (k_ether_Take h18) <| pc (im5 l19) <| pc ((rfl : ((List.length l13) : Nat) = (List.length l13))) <| pc (k_mac_IsHost h26) <| pc (k_mac_IsHost h28) <| pc ((show (20 : Int) ≠ 0 from by decide)) <| pc (And.intro (rfl : ((List.length l13) : Nat) = (List.length l13)) (lin_ob h29)) <| pc (And.intro (rfl : ((List.length l13) : Nat) = (List.length l13)) (obn5 h31)) <| pc ((show (8 : Int) ≠ 0 from by decide)) <| pc (of_decide_eq_true h32) <| pc (And.intro (rfl : ((List.length l13) : Nat) = (List.length l13)) (lin_ob h29)) <| pc (st_ob (e := 5) (n := (List.length l13)) (l := l13) (i := (Int.toNat (wr_i64 (14 + (Int.tmod (wr_i64 a5) 20))))) (bits_xor .u8 x30 (wr_u8 (1 * 2 ^ (min (Int.toNat (Int.tmod a6 8)) 8))) : Int) [.v (.int .u8 (bits_xor .u8 x30 (wr_u8 (1 * 2 ^ (min (Int.toNat (Int.tmod a6 8)) 8)))))] (obn5 h34) rfl) <| pc (k_vxlan_Unwrap h36) <| pc (im5 l37) <| pc ((rfl : ((List.length l13) : Nat) = (List.length l13))) <| pc (h46) <| pc (h47) <| pc (h48) <| pc (h49) <| pc (h50) <| pc (h51) <| pn)
                        · injection h with h; subst h; exact runFn_sound mixedOrders Try.func6 rfl (keep := none) (π := [.callv (.v (.bool r7)), .dec false, .dec false, .callo (.tup [.os 0 (List.length l13), .v (.int .i64 v14)]) [.arr 5 l13 (List.length l13) false], .dec false, .dec false, .callo (.tup [.agg [.v (.int .u64 v21), .v (.int .u64 v22), .v (.int .i64 v23), .os 0 n20], .v (.int .i64 v24)]) [.arr 5 l19 n20 false], .callv (.tup [.v (.int .u32 r25.1), .v (.bool r25.2)]), .callv (.tup [.v (.int .u32 r27.1), .v (.bool r27.2)]), .row (c5 x30), .row (c5 x33), .obj [] (.arr 5 (List.set l13 (Int.toNat (wr_i64 (14 + (Int.tmod (wr_i64 a5) 20)))) (bits_xor .u8 x30 (wr_u8 (1 * 2 ^ (min (Int.toNat (Int.tmod a6 8)) 8))) : Int)) (List.length l13) false), .callo (.tup [.v (.int .u32 v39), .v (.int .u32 v40), .v (.int .i64 v41), .agg [.v (.int .u64 v42), .v (.int .u64 v43), .v (.int .i64 v44), .os 0 n38], .v (.int .i64 v45)]) [.arr 5 l37 n38 false], .dec true, .dec true, .dec true, .dec true, .dec true, .dec false]) (hrun := by kernel_rfl) (hps := pc (k_palinglaw09_works h8) <| pc (h9) <| pc (h10) <| pc (k_vxlan_Wrap h12) <| pc (im5 l13) <| pc (h15) <| pc ((rfl : ((List.length l13) : Nat) = (List.length l13))) <| pc (h16) <| pc (k_ether_Take h18) <| pc (im5 l19) <| pc ((rfl : ((List.length l13) : Nat) = (List.length l13))) <| pc (k_mac_IsHost h26) <| pc (k_mac_IsHost h28) <| pc ((show (20 : Int) ≠ 0 from by decide)) <| pc (And.intro (rfl : ((List.length l13) : Nat) = (List.length l13)) (lin_ob h29)) <| pc (And.intro (rfl : ((List.length l13) : Nat) = (List.length l13)) (obn5 h31)) <| pc ((show (8 : Int) ≠ 0 from by decide)) <| pc (of_decide_eq_true h32) <| pc (And.intro (rfl : ((List.length l13) : Nat) = (List.length l13)) (lin_ob h29)) <| pc (st_ob (e := 5) (n := (List.length l13)) (l := l13) (i := (Int.toNat (wr_i64 (14 + (Int.tmod (wr_i64 a5) 20))))) (bits_xor .u8 x30 (wr_u8 (1 * 2 ^ (min (Int.toNat (Int.tmod a6 8)) 8))) : Int) [.v (.int .u8 (bits_xor .u8 x30 (wr_u8 (1 * 2 ^ (min (Int.toNat (Int.tmod a6 8)) 8)))))] (obn5 h34) rfl) <| pc (k_vxlan_Unwrap h36) <| pc (im5 l37) <| pc ((rfl : ((List.length l13) : Nat) = (List.length l13))) <| pc (h46) <| pc (h47) <| pc (h48) <| pc (h49) <| pc (h50) <| pc (h51) <| pn)
                      · injection h with h; subst h; exact runFn_sound mixedOrders Try.func6 rfl (keep := none) (π := [.callv (.v (.bool r7)), .dec false, .dec false, .callo (.tup [.os 0 (List.length l13), .v (.int .i64 v14)]) [.arr 5 l13 (List.length l13) false], .dec false, .dec false, .callo (.tup [.agg [.v (.int .u64 v21), .v (.int .u64 v22), .v (.int .i64 v23), .os 0 n20], .v (.int .i64 v24)]) [.arr 5 l19 n20 false], .callv (.tup [.v (.int .u32 r25.1), .v (.bool r25.2)]), .callv (.tup [.v (.int .u32 r27.1), .v (.bool r27.2)]), .row (c5 x30), .row (c5 x33), .obj [] (.arr 5 (List.set l13 (Int.toNat (wr_i64 (14 + (Int.tmod (wr_i64 a5) 20)))) (bits_xor .u8 x30 (wr_u8 (1 * 2 ^ (min (Int.toNat (Int.tmod a6 8)) 8))) : Int)) (List.length l13) false), .callo (.tup [.v (.int .u32 v39), .v (.int .u32 v40), .v (.int .i64 v41), .agg [.v (.int .u64 v42), .v (.int .u64 v43), .v (.int .i64 v44), .os 0 n38], .v (.int .i64 v45)]) [.arr 5 l37 n38 false], .dec true, .dec true, .dec true, .dec true, .dec false]) (hrun := by kernel_rfl) (hps := pc (k_palinglaw09_works h8) <| pc (h9) <| pc (h10) <| pc (k_vxlan_Wrap h12) <| pc (im5 l13) <| pc (h15) <| pc ((rfl : ((List.length l13) : Nat) = (List.length l13))) <| pc (h16) <| pc (k_ether_Take h18) <| pc (im5 l19) <| pc ((rfl : ((List.length l13) : Nat) = (List.length l13))) <| pc (k_mac_IsHost h26) <| pc (k_mac_IsHost h28) <| pc ((show (20 : Int) ≠ 0 from by decide)) <| pc (And.intro (rfl : ((List.length l13) : Nat) = (List.length l13)) (lin_ob h29)) <| pc (And.intro (rfl : ((List.length l13) : Nat) = (List.length l13)) (obn5 h31)) <| pc ((show (8 : Int) ≠ 0 from by decide)) <| pc (of_decide_eq_true h32) <| pc (And.intro (rfl : ((List.length l13) : Nat) = (List.length l13)) (lin_ob h29)) <| pc (st_ob (e := 5) (n := (List.length l13)) (l := l13) (i := (Int.toNat (wr_i64 (14 + (Int.tmod (wr_i64 a5) 20))))) (bits_xor .u8 x30 (wr_u8 (1 * 2 ^ (min (Int.toNat (Int.tmod a6 8)) 8))) : Int) [.v (.int .u8 (bits_xor .u8 x30 (wr_u8 (1 * 2 ^ (min (Int.toNat (Int.tmod a6 8)) 8)))))] (obn5 h34) rfl) <| pc (k_vxlan_Unwrap h36) <| pc (im5 l37) <| pc ((rfl : ((List.length l13) : Nat) = (List.length l13))) <| pc (h46) <| pc (h47) <| pc (h48) <| pc (h49) <| pc (h50) <| pn)
                    · injection h with h; subst h; exact runFn_sound mixedOrders Try.func6 rfl (keep := none) (π := [.callv (.v (.bool r7)), .dec false, .dec false, .callo (.tup [.os 0 (List.length l13), .v (.int .i64 v14)]) [.arr 5 l13 (List.length l13) false], .dec false, .dec false, .callo (.tup [.agg [.v (.int .u64 v21), .v (.int .u64 v22), .v (.int .i64 v23), .os 0 n20], .v (.int .i64 v24)]) [.arr 5 l19 n20 false], .callv (.tup [.v (.int .u32 r25.1), .v (.bool r25.2)]), .callv (.tup [.v (.int .u32 r27.1), .v (.bool r27.2)]), .row (c5 x30), .row (c5 x33), .obj [] (.arr 5 (List.set l13 (Int.toNat (wr_i64 (14 + (Int.tmod (wr_i64 a5) 20)))) (bits_xor .u8 x30 (wr_u8 (1 * 2 ^ (min (Int.toNat (Int.tmod a6 8)) 8))) : Int)) (List.length l13) false), .callo (.tup [.v (.int .u32 v39), .v (.int .u32 v40), .v (.int .i64 v41), .agg [.v (.int .u64 v42), .v (.int .u64 v43), .v (.int .i64 v44), .os 0 n38], .v (.int .i64 v45)]) [.arr 5 l37 n38 false], .dec true, .dec true, .dec true, .dec false]) (hrun := by kernel_rfl) (hps := pc (k_palinglaw09_works h8) <| pc (h9) <| pc (h10) <| pc (k_vxlan_Wrap h12) <| pc (im5 l13) <| pc (h15) <| pc ((rfl : ((List.length l13) : Nat) = (List.length l13))) <| pc (h16) <| pc (k_ether_Take h18) <| pc (im5 l19) <| pc ((rfl : ((List.length l13) : Nat) = (List.length l13))) <| pc (k_mac_IsHost h26) <| pc (k_mac_IsHost h28) <| pc ((show (20 : Int) ≠ 0 from by decide)) <| pc (And.intro (rfl : ((List.length l13) : Nat) = (List.length l13)) (lin_ob h29)) <| pc (And.intro (rfl : ((List.length l13) : Nat) = (List.length l13)) (obn5 h31)) <| pc ((show (8 : Int) ≠ 0 from by decide)) <| pc (of_decide_eq_true h32) <| pc (And.intro (rfl : ((List.length l13) : Nat) = (List.length l13)) (lin_ob h29)) <| pc (st_ob (e := 5) (n := (List.length l13)) (l := l13) (i := (Int.toNat (wr_i64 (14 + (Int.tmod (wr_i64 a5) 20))))) (bits_xor .u8 x30 (wr_u8 (1 * 2 ^ (min (Int.toNat (Int.tmod a6 8)) 8))) : Int) [.v (.int .u8 (bits_xor .u8 x30 (wr_u8 (1 * 2 ^ (min (Int.toNat (Int.tmod a6 8)) 8)))))] (obn5 h34) rfl) <| pc (k_vxlan_Unwrap h36) <| pc (im5 l37) <| pc ((rfl : ((List.length l13) : Nat) = (List.length l13))) <| pc (h46) <| pc (h47) <| pc (h48) <| pc (h49) <| pn)
                  · injection h with h; subst h; exact runFn_sound mixedOrders Try.func6 rfl (keep := none) (π := [.callv (.v (.bool r7)), .dec false, .dec false, .callo (.tup [.os 0 (List.length l13), .v (.int .i64 v14)]) [.arr 5 l13 (List.length l13) false], .dec false, .dec false, .callo (.tup [.agg [.v (.int .u64 v21), .v (.int .u64 v22), .v (.int .i64 v23), .os 0 n20], .v (.int .i64 v24)]) [.arr 5 l19 n20 false], .callv (.tup [.v (.int .u32 r25.1), .v (.bool r25.2)]), .callv (.tup [.v (.int .u32 r27.1), .v (.bool r27.2)]), .row (c5 x30), .row (c5 x33), .obj [] (.arr 5 (List.set l13 (Int.toNat (wr_i64 (14 + (Int.tmod (wr_i64 a5) 20)))) (bits_xor .u8 x30 (wr_u8 (1 * 2 ^ (min (Int.toNat (Int.tmod a6 8)) 8))) : Int)) (List.length l13) false), .callo (.tup [.v (.int .u32 v39), .v (.int .u32 v40), .v (.int .i64 v41), .agg [.v (.int .u64 v42), .v (.int .u64 v43), .v (.int .i64 v44), .os 0 n38], .v (.int .i64 v45)]) [.arr 5 l37 n38 false], .dec true, .dec true, .dec false]) (hrun := by kernel_rfl) (hps := pc (k_palinglaw09_works h8) <| pc (h9) <| pc (h10) <| pc (k_vxlan_Wrap h12) <| pc (im5 l13) <| pc (h15) <| pc ((rfl : ((List.length l13) : Nat) = (List.length l13))) <| pc (h16) <| pc (k_ether_Take h18) <| pc (im5 l19) <| pc ((rfl : ((List.length l13) : Nat) = (List.length l13))) <| pc (k_mac_IsHost h26) <| pc (k_mac_IsHost h28) <| pc ((show (20 : Int) ≠ 0 from by decide)) <| pc (And.intro (rfl : ((List.length l13) : Nat) = (List.length l13)) (lin_ob h29)) <| pc (And.intro (rfl : ((List.length l13) : Nat) = (List.length l13)) (obn5 h31)) <| pc ((show (8 : Int) ≠ 0 from by decide)) <| pc (of_decide_eq_true h32) <| pc (And.intro (rfl : ((List.length l13) : Nat) = (List.length l13)) (lin_ob h29)) <| pc (st_ob (e := 5) (n := (List.length l13)) (l := l13) (i := (Int.toNat (wr_i64 (14 + (Int.tmod (wr_i64 a5) 20))))) (bits_xor .u8 x30 (wr_u8 (1 * 2 ^ (min (Int.toNat (Int.tmod a6 8)) 8))) : Int) [.v (.int .u8 (bits_xor .u8 x30 (wr_u8 (1 * 2 ^ (min (Int.toNat (Int.tmod a6 8)) 8)))))] (obn5 h34) rfl) <| pc (k_vxlan_Unwrap h36) <| pc (im5 l37) <| pc ((rfl : ((List.length l13) : Nat) = (List.length l13))) <| pc (h46) <| pc (h47) <| pc (h48) <| pn)
                · injection h with h; subst h; exact runFn_sound mixedOrders Try.func6 rfl (keep := none) (π := [.callv (.v (.bool r7)), .dec false, .dec false, .callo (.tup [.os 0 (List.length l13), .v (.int .i64 v14)]) [.arr 5 l13 (List.length l13) false], .dec false, .dec false, .callo (.tup [.agg [.v (.int .u64 v21), .v (.int .u64 v22), .v (.int .i64 v23), .os 0 n20], .v (.int .i64 v24)]) [.arr 5 l19 n20 false], .callv (.tup [.v (.int .u32 r25.1), .v (.bool r25.2)]), .callv (.tup [.v (.int .u32 r27.1), .v (.bool r27.2)]), .row (c5 x30), .row (c5 x33), .obj [] (.arr 5 (List.set l13 (Int.toNat (wr_i64 (14 + (Int.tmod (wr_i64 a5) 20)))) (bits_xor .u8 x30 (wr_u8 (1 * 2 ^ (min (Int.toNat (Int.tmod a6 8)) 8))) : Int)) (List.length l13) false), .callo (.tup [.v (.int .u32 v39), .v (.int .u32 v40), .v (.int .i64 v41), .agg [.v (.int .u64 v42), .v (.int .u64 v43), .v (.int .i64 v44), .os 0 n38], .v (.int .i64 v45)]) [.arr 5 l37 n38 false], .dec true, .dec false]) (hrun := by kernel_rfl) (hps := pc (k_palinglaw09_works h8) <| pc (h9) <| pc (h10) <| pc (k_vxlan_Wrap h12) <| pc (im5 l13) <| pc (h15) <| pc ((rfl : ((List.length l13) : Nat) = (List.length l13))) <| pc (h16) <| pc (k_ether_Take h18) <| pc (im5 l19) <| pc ((rfl : ((List.length l13) : Nat) = (List.length l13))) <| pc (k_mac_IsHost h26) <| pc (k_mac_IsHost h28) <| pc ((show (20 : Int) ≠ 0 from by decide)) <| pc (And.intro (rfl : ((List.length l13) : Nat) = (List.length l13)) (lin_ob h29)) <| pc (And.intro (rfl : ((List.length l13) : Nat) = (List.length l13)) (obn5 h31)) <| pc ((show (8 : Int) ≠ 0 from by decide)) <| pc (of_decide_eq_true h32) <| pc (And.intro (rfl : ((List.length l13) : Nat) = (List.length l13)) (lin_ob h29)) <| pc (st_ob (e := 5) (n := (List.length l13)) (l := l13) (i := (Int.toNat (wr_i64 (14 + (Int.tmod (wr_i64 a5) 20))))) (bits_xor .u8 x30 (wr_u8 (1 * 2 ^ (min (Int.toNat (Int.tmod a6 8)) 8))) : Int) [.v (.int .u8 (bits_xor .u8 x30 (wr_u8 (1 * 2 ^ (min (Int.toNat (Int.tmod a6 8)) 8)))))] (obn5 h34) rfl) <| pc (k_vxlan_Unwrap h36) <| pc (im5 l37) <| pc ((rfl : ((List.length l13) : Nat) = (List.length l13))) <| pc (h46) <| pc (h47) <| pn)
              · injection h with h; subst h; exact runFn_sound mixedOrders Try.func6 rfl (keep := none) (π := [.callv (.v (.bool r7)), .dec false, .dec false, .callo (.tup [.os 0 (List.length l13), .v (.int .i64 v14)]) [.arr 5 l13 (List.length l13) false], .dec false, .dec false, .callo (.tup [.agg [.v (.int .u64 v21), .v (.int .u64 v22), .v (.int .i64 v23), .os 0 n20], .v (.int .i64 v24)]) [.arr 5 l19 n20 false], .callv (.tup [.v (.int .u32 r25.1), .v (.bool r25.2)]), .callv (.tup [.v (.int .u32 r27.1), .v (.bool r27.2)]), .row (c5 x30), .row (c5 x33), .obj [] (.arr 5 (List.set l13 (Int.toNat (wr_i64 (14 + (Int.tmod (wr_i64 a5) 20)))) (bits_xor .u8 x30 (wr_u8 (1 * 2 ^ (min (Int.toNat (Int.tmod a6 8)) 8))) : Int)) (List.length l13) false), .callo (.tup [.v (.int .u32 v39), .v (.int .u32 v40), .v (.int .i64 v41), .agg [.v (.int .u64 v42), .v (.int .u64 v43), .v (.int .i64 v44), .os 0 n38], .v (.int .i64 v45)]) [.arr 5 l37 n38 false], .dec false]) (hrun := by kernel_rfl) (hps := pc (k_palinglaw09_works h8) <| pc (h9) <| pc (h10) <| pc (k_vxlan_Wrap h12) <| pc (im5 l13) <| pc (h15) <| pc ((rfl : ((List.length l13) : Nat) = (List.length l13))) <| pc (h16) <| pc (k_ether_Take h18) <| pc (im5 l19) <| pc ((rfl : ((List.length l13) : Nat) = (List.length l13))) <| pc (k_mac_IsHost h26) <| pc (k_mac_IsHost h28) <| pc ((show (20 : Int) ≠ 0 from by decide)) <| pc (And.intro (rfl : ((List.length l13) : Nat) = (List.length l13)) (lin_ob h29)) <| pc (And.intro (rfl : ((List.length l13) : Nat) = (List.length l13)) (obn5 h31)) <| pc ((show (8 : Int) ≠ 0 from by decide)) <| pc (of_decide_eq_true h32) <| pc (And.intro (rfl : ((List.length l13) : Nat) = (List.length l13)) (lin_ob h29)) <| pc (st_ob (e := 5) (n := (List.length l13)) (l := l13) (i := (Int.toNat (wr_i64 (14 + (Int.tmod (wr_i64 a5) 20))))) (bits_xor .u8 x30 (wr_u8 (1 * 2 ^ (min (Int.toNat (Int.tmod a6 8)) 8))) : Int) [.v (.int .u8 (bits_xor .u8 x30 (wr_u8 (1 * 2 ^ (min (Int.toNat (Int.tmod a6 8)) 8)))))] (obn5 h34) rfl) <| pc (k_vxlan_Unwrap h36) <| pc (im5 l37) <| pc ((rfl : ((List.length l13) : Nat) = (List.length l13))) <| pc (h46) <| pn)
            · cases h
          · cases h

end Go.Eng
