/- Part of the proof of LabelsTells: printed mirrors of the functions, or their contracts. No conditions. -/
import Derived.Test.YtlinloabahbioaaGreatMAK3
set_option linter.unusedVariables false
set_option maxRecDepth 100000
namespace Go.Eng
open Go Go.Proofs
theorem k_palingref23_Right_J2 {a1 : Api_Net} {a2 : List Int} {v7 : Int} {r : Unit ⊕ Unit} (h : palingref23_Right_J2 a1 a2 v7 = some r) :
    ExecOK Tryz.prog UU 0 58 (subC (codeOf Tryz.f41) [1, 1, 0, 1, 0, 0, 1, 0, 0, 0]) [(1, .sl 3 a2), (2, .op 0 1 0 0), (4, .v (.bool false)), (5, .v (.int .i64 v7))] [.box 31 (c31 a1) false] ((fun r => match r with | Sum.inl _ => .ret | Sum.inr _ => .nor) r) ((fun r => match r with | Sum.inl _ => [(4, .v (.bool false))] | Sum.inr _ => [(1, .sl 3 a2), (2, .op 0 1 0 0), (4, .v (.bool false)), (5, .v (.int .i64 v7))]) r) ((fun r => match r with | Sum.inl _ => [] | Sum.inr _ => [.box 31 (c31 a1) false]) r) := by
  unfold palingref23_Right_J2 at h
  obtain ⟨x9, h10, h⟩ := bind_out h
  rcases ite_out h with ⟨h11, h⟩ | ⟨h11, h⟩
  · obtain ⟨x12, h13, h⟩ := bind_out h
    rcases ite_out h with ⟨h14, h⟩ | ⟨h14, h⟩
    · injection h with h; subst h; exact runLp_sound mixedOrders (live := [4]) (ids := []) (π := [.row (c65 x9), .dec true, .row (c3 x12), .dec true]) (hx := by kernel_rfl) (hps := pc (ob65 h10) <| pc (h11) <| pc (ob3 h13) <| pc (h14) <| pn)
    · injection h with h; subst h; exact runLp_sound mixedOrders (live := [1, 2, 4, 5]) (ids := [0]) (π := [.row (c65 x9), .dec true, .row (c3 x12), .dec false]) (hx := by kernel_rfl) (hps := pc (ob65 h10) <| pc (h11) <| pc (ob3 h13) <| pc (h14) <| pn)
  · injection h with h; subst h; exact runLp_sound mixedOrders (live := [1, 2, 4, 5]) (ids := [0]) (π := [.row (c65 x9), .dec false]) (hx := by kernel_rfl) (hps := pc (ob65 h10) <| pc (h11) <| pn)

theorem k_palingref23_Right_L1 {a1 : Api_Net} {a2 : List Int} : LoopOK Tryz.prog UU 0 58 (subC (codeOf Tryz.f41) [1, 1, 0, 1, 0, 0]) (ρ := Unit ⊕ Unit) (palingref23_Right_L1 a1 a2)
    (fun v7 : Int => ([(1, .sl 3 a2), (2, .op 0 1 0 0), (4, .v (.bool false)), (5, .v (.int .i64 v7))] : Fr DD)) (fun v7 : Int => ([.box 31 (c31 a1) false] : Heap DD)) (fun r => match r with | Sum.inl _ => .ret | Sum.inr _ => .exit 0) (fun r => match r with | Sum.inl _ => [(4, .v (.bool false))] | Sum.inr _ => [(4, .v (.bool false))]) (fun r => match r with | Sum.inl _ => [] | Sum.inr _ => []) := by
  refine loop_sound3 (fun s q h => ?_) (fun r => ?_)
  · replace h : palingref23_Right_L1 a1 a2 s = some q := h; revert h; revert s; intro v7 h
    unfold palingref23_Right_L1 at h
    rcases ite_out h with ⟨h8, h⟩ | ⟨h8, h⟩
    · obtain ⟨r16, h15, h⟩ := bind_out h
      rcases r16 with _ | _
      · injection h with h; subst h; exact runLp_sound mixedOrders (live := [4]) (ids := []) (π := [.dec true, .skp, .cut [1, 2, 4, 5] [0] .ret [(4, .v (.bool false))] []]) (hx := by kernel_rfl) (hps := pc (h8) <| pc (k_palingref23_Right_J2 h15) <| pn)
      · obtain ⟨x17, h18, h⟩ := bind_out h
        rcases ite_out h with ⟨h19, h⟩ | ⟨h19, h⟩
        · obtain ⟨x20, h21, h⟩ := bind_out h
          rcases ite_out h with ⟨h22, h⟩ | ⟨h22, h⟩
          · injection h with h; subst h; exact runLp_sound mixedOrders (live := [4]) (ids := []) (π := [.dec true, .skp, .cut [1, 2, 4, 5] [0] .nor [(1, .sl 3 a2), (2, .op 0 1 0 0), (4, .v (.bool false)), (5, .v (.int .i64 v7))] [.box 31 (c31 a1) false], .row (c65 x17), .dec true, .row (c3 x20), .dec true]) (hx := by kernel_rfl) (hps := pc (h8) <| pc (k_palingref23_Right_J2 h15) <| pc (ob65 h18) <| pc (h19) <| pc (ob3 h21) <| pc (h22) <| pn)
          · obtain ⟨x23, h24, h⟩ := bind_out h
            rcases ite_out h with ⟨h25, h⟩ | ⟨h25, h⟩
            · injection h with h; subst h; exact runLp_sound mixedOrders (live := [4]) (ids := []) (π := [.dec true, .skp, .cut [1, 2, 4, 5] [0] .nor [(1, .sl 3 a2), (2, .op 0 1 0 0), (4, .v (.bool false)), (5, .v (.int .i64 v7))] [.box 31 (c31 a1) false], .row (c65 x17), .dec true, .row (c3 x20), .dec false, .row (c3 x23), .dec true]) (hx := by kernel_rfl) (hps := pc (h8) <| pc (k_palingref23_Right_J2 h15) <| pc (ob65 h18) <| pc (h19) <| pc (ob3 h21) <| pc (h22) <| pc (ob3 h24) <| pc (h25) <| pn)
            · injection h with h; subst h; exact runLp_sound mixedOrders (live := [1, 2, 4, 5]) (ids := [0]) (π := [.dec true, .skp, .cut [1, 2, 4, 5] [0] .nor [(1, .sl 3 a2), (2, .op 0 1 0 0), (4, .v (.bool false)), (5, .v (.int .i64 v7))] [.box 31 (c31 a1) false], .row (c65 x17), .dec true, .row (c3 x20), .dec false, .row (c3 x23), .dec false]) (hx := by kernel_rfl) (hps := pc (h8) <| pc (k_palingref23_Right_J2 h15) <| pc (ob65 h18) <| pc (h19) <| pc (ob3 h21) <| pc (h22) <| pc (ob3 h24) <| pc (h25) <| pn)
        · injection h with h; subst h; exact runLp_sound mixedOrders (live := [1, 2, 4, 5]) (ids := [0]) (π := [.dec true, .skp, .cut [1, 2, 4, 5] [0] .nor [(1, .sl 3 a2), (2, .op 0 1 0 0), (4, .v (.bool false)), (5, .v (.int .i64 v7))] [.box 31 (c31 a1) false], .row (c65 x17), .dec false]) (hx := by kernel_rfl) (hps := pc (h8) <| pc (k_palingref23_Right_J2 h15) <| pc (ob65 h18) <| pc (h19) <| pn)
    · injection h with h; subst h; exact runLp_sound mixedOrders (live := [4]) (ids := []) (π := [.dec false]) (hx := by kernel_rfl) (hps := pc (h8) <| pn)
  · rcases r with _ | _ <;> exact Ex.noConfusion

theorem k_palingref23_Right {a1 : Api_Net} {a2 : List Int} {r : Bool} (h : palingref23_Right a1 a2 = some r) :
    CallsOK Tryz.prog UU 41 [.agg (c31 a1), .sl 3 a2] [] (.v (.bool r)) [] := by
  unfold palingref23_Right at h
  rcases ite_out h with ⟨h3, h⟩ | ⟨h3, h⟩
  · injection h with h; subst h; exact runFn_sound mixedOrders Tryz.func41 rfl (keep := none) (π := [.dec true]) (hrun := by kernel_rfl) (hps := pc (h3) <| pn)
  · obtain ⟨r4, h5, h⟩ := bind_out h
    rcases ite_out h with ⟨h6, h⟩ | ⟨h6, h⟩
    · injection h with h; subst h; exact runFn_sound mixedOrders Tryz.func41 rfl (keep := none) (π := [.dec false, .callv (.v (.bool r4)), .dec true]) (hrun := by kernel_rfl) (hps := pc (h3) <| pc (k_palingref15_Right h5) <| pc (h6) <| pn)
    · obtain ⟨r27, h26, h⟩ := bind_out h
      rcases r27 with _ | _
      · injection h with h; subst h; exact runFn_sound mixedOrders Tryz.func41 rfl (keep := none) (π := [.dec false, .callv (.v (.bool r4)), .dec false, .sum [1, 2, 4, 5] [0] .ret [(4, .v (.bool false))] []]) (hrun := by kernel_rfl) (hps := pc (h3) <| pc (k_palingref15_Right h5) <| pc (h6) <| pc (k_palingref23_Right_L1 _ _ h26) <| pn)
      · injection h with h; subst h; exact runFn_sound mixedOrders Tryz.func41 rfl (keep := none) (π := [.dec false, .callv (.v (.bool r4)), .dec false, .sum [1, 2, 4, 5] [0] (.exit 0) [(4, .v (.bool false))] []]) (hrun := by kernel_rfl) (hps := pc (h3) <| pc (k_palingref15_Right h5) <| pc (h6) <| pc (k_palingref23_Right_L1 _ _ h26) <| pn)

theorem k_palingref23_Of_L1 {a1 : List Int} {a2 : Int} : LoopOK Tryz.prog UU 0 24 (subC (codeOf Tryz.f42) [1, 1, 0, 1, 0, 0]) (fun s : (List Int) × Int => match s with | (l3, v4) => palingref23_Of_L1 a1 a2 l3 v4)
    (fun s : (List Int) × Int => (match s with | (l3, v4) => [(0, .sl 3 a1), (1, .v (.int .i64 a2)), (4, .os 0 0), (5, .os 1 (List.length l3)), (6, .v (.int .i64 v4))] : Fr DD)) (fun s : (List Int) × Int => (match s with | (l3, v4) => [.n 3, .arr 3 l3 (List.length l3) false] : Heap DD)) (fun r => match r with | l12 => .exit 0) (fun r => match r with | l12 => [(4, .os 0 0), (5, .os 1 (List.length l12))]) (fun r => match r with | l12 => [.n 3, .arr 3 l12 (List.length l12) false]) := by
  refine loop_sound3 (fun s q h => ?_) (fun r => ?_)
  · obtain ⟨l3, v4⟩ := s; replace h : palingref23_Of_L1 a1 a2 l3 v4 = some q := h
    unfold palingref23_Of_L1 at h
    rcases ite_out h with ⟨h5, h⟩ | ⟨h5, h⟩
    · obtain ⟨x6, h7, h⟩ := bind_out h
      rcases ite_out h with ⟨h8, h⟩ | ⟨h8, h⟩
      · rcases ite_out h with ⟨h9, h⟩ | ⟨h9, h⟩
        · injection h with h; subst h; exact runLp_sound mixedOrders (live := [0, 1, 4, 5, 6]) (ids := [0, 1]) (π := [.dec true, .row (c3 x6), .dec true, .obj [] (.arr 3 [v4] (List.length [v4]) false), .obj [] (.arr 3 (l3 ++ [v4]) (List.length (l3 ++ [v4])) false)]) (hx := by kernel_rfl) (hps := pc (h5) <| pc (ob3 h7) <| pc (h8) <| pc (bs_ob 3 [v4]) <| pc (app_ob 3 (n := (List.length l3)) (l := l3) (xs := [v4]) h9) <| pc ((rfl : ((List.length [v4]) : Nat) = (List.length [v4]))) <| pn)
        · cases h
      · injection h with h; subst h; exact runLp_sound mixedOrders (live := [0, 1, 4, 5, 6]) (ids := [0, 1]) (π := [.dec true, .row (c3 x6), .dec false]) (hx := by kernel_rfl) (hps := pc (h5) <| pc (ob3 h7) <| pc (h8) <| pn)
    · injection h with h; subst h; exact runLp_sound mixedOrders (live := [4, 5]) (ids := [0, 1]) (π := [.dec false]) (hx := by kernel_rfl) (hps := pc (h5) <| pn)
  · exact Ex.noConfusion

theorem k_palingref23_Of {a1 : List Int} {a2 : Int} {r : ((List Int))} (h : palingref23_Of a1 a2 = some r) :
    CallsOK Tryz.prog UU 42 [.sl 3 a1, .v (.int .i64 a2)] [] ((fun r => match r with | l15 => .os 0 (List.length l15)) r) ((fun r => match r with | l15 => [.arr 3 l15 (List.length l15) false]) r) := by
  unfold palingref23_Of at h
  obtain ⟨l12, h13, h⟩ := bind_out h
  injection h with h; subst h; exact runFn_sound mixedOrders Tryz.func42 rfl (keep := some [1]) (π := [.sum [0, 1, 4, 5, 6] [0, 1] (.exit 0) [(4, .os 0 0), (5, .os 1 (List.length l12))] [.n 3, .arr 3 l12 (List.length l12) false]]) (hrun := by kernel_rfl) (hps := pc (k_palingref23_Of_L1 _ _ h13) <| pn)

theorem k_palingref15_Members_L1 {a1 : Api_Net} {x6 : Api_Domain} : LoopOK Tryz.prog UU 0 50 (subC (codeOf Tryz.f46) [1, 1, 1, 1, 0, 1, 0, 0]) (fun s : (List Int) × Int => match s with | (l8, v9) => palingref15_Members_L1 a1 x6 l8 v9)
    (fun s : (List Int) × Int => (match s with | (l8, v9) => [(2, .op 0 1 0 0), (4, .os 1 0), (5, .os 2 (List.length l8)), (6, .op 3 1 0 0), (7, .v (.int .i64 v9))] : Fr DD)) (fun s : (List Int) × Int => (match s with | (l8, v9) => [.box 31 (c31 a1) false, .n 3, .arr 3 l8 (List.length l8) false, .box 67 (c67 x6) false] : Heap DD)) (fun r => match r with | l22 => .exit 0) (fun r => match r with | l22 => [(4, .os 0 0), (5, .os 1 (List.length l22))]) (fun r => match r with | l22 => [.n 3, .arr 3 l22 (List.length l22) false]) := by
  refine loop_sound3 (fun s q h => ?_) (fun r => ?_)
  · obtain ⟨l8, v9⟩ := s; replace h : palingref15_Members_L1 a1 x6 l8 v9 = some q := h
    unfold palingref15_Members_L1 at h
    rcases ite_out h with ⟨h10, h⟩ | ⟨h10, h⟩
    · obtain ⟨x11, h12, h⟩ := bind_out h
      rcases ite_out h with ⟨h13, h⟩ | ⟨h13, h⟩
      · obtain ⟨x14, h15, h⟩ := bind_out h
        obtain ⟨r16, h17, h⟩ := bind_out h
        rcases ite_out h with ⟨h18, h⟩ | ⟨h18, h⟩
        · rcases ite_out h with ⟨h19, h⟩ | ⟨h19, h⟩
          · injection h with h; subst h; exact runLp_sound mixedOrders (live := [2, 4, 5, 6, 7]) (ids := [0, 1, 2, 3]) (π := [.dec true, .row (c65 x11), .dec true, .row (c65 x14), .callv (.v (.bool r16)), .dec true, .obj [] (.arr 3 [v9] (List.length [v9]) false), .obj [] (.arr 3 (l8 ++ [v9]) (List.length (l8 ++ [v9])) false)]) (hx := by kernel_rfl) (hps := pc (h10) <| pc (ob65 h12) <| pc (h13) <| pc (ob65 h15) <| pc (k_palingref15_Member h17) <| pc (h18) <| pc (bs_ob 3 [v9]) <| pc (app_ob 3 (n := (List.length l8)) (l := l8) (xs := [v9]) h19) <| pc ((rfl : ((List.length [v9]) : Nat) = (List.length [v9]))) <| pn)
          · cases h
        · injection h with h; subst h; exact runLp_sound mixedOrders (live := [2, 4, 5, 6, 7]) (ids := [0, 1, 2, 3]) (π := [.dec true, .row (c65 x11), .dec true, .row (c65 x14), .callv (.v (.bool r16)), .dec false]) (hx := by kernel_rfl) (hps := pc (h10) <| pc (ob65 h12) <| pc (h13) <| pc (ob65 h15) <| pc (k_palingref15_Member h17) <| pc (h18) <| pn)
      · injection h with h; subst h; exact runLp_sound mixedOrders (live := [2, 4, 5, 6, 7]) (ids := [0, 1, 2, 3]) (π := [.dec true, .row (c65 x11), .dec false]) (hx := by kernel_rfl) (hps := pc (h10) <| pc (ob65 h12) <| pc (h13) <| pn)
    · injection h with h; subst h; exact runLp_sound mixedOrders (live := [4, 5]) (ids := [1, 2]) (π := [.dec false]) (hx := by kernel_rfl) (hps := pc (h10) <| pn)
  · exact Ex.noConfusion

theorem k_palingref15_Members {a1 : Api_Net} {a2 : Int} {r : ((List Int))} (h : palingref15_Members a1 a2 = some r) :
    CallsOK Tryz.prog UU 46 [.agg (c31 a1), .v (.int .i64 a2)] [] ((fun r => match r with | l25 => .os 0 (List.length l25)) r) ((fun r => match r with | l25 => [.arr 3 l25 (List.length l25) false]) r) := by
  unfold palingref15_Members at h
  obtain ⟨r3, h4, h⟩ := bind_out h
  rcases ite_out h with ⟨h5, h⟩ | ⟨h5, h⟩
  · injection h with h; subst h; exact runFn_sound mixedOrders Tryz.func46 rfl (keep := some [3]) (π := [.callv (.v (.bool r3)), .dec true]) (hrun := by kernel_rfl) (hps := pc (k_palingref15_Place h4) <| pc (h5) <| pn)
  · obtain ⟨x6, h7, h⟩ := bind_out h
    obtain ⟨l22, h23, h⟩ := bind_out h
    injection h with h; subst h; exact runFn_sound mixedOrders Tryz.func46 rfl (keep := some [1]) (π := [.callv (.v (.bool r3)), .dec false, .row (c67 x6), .sum [2, 4, 5, 6, 7] [0, 1, 2, 4] (.exit 0) [(4, .os 0 0), (5, .os 1 (List.length l22))] [.n 3, .arr 3 l22 (List.length l22) false]]) (hrun := by kernel_rfl) (hps := pc (k_palingref15_Place h4) <| pc (h5) <| pc (ob67 h7) <| pc (k_palingref15_Members_L1 _ _ h23) <| pn)

theorem k_palingref17_Other_L1 {a1 : Api_Net} {a2 : Int} : LoopOK Tryz.prog UU 0 41 (subC (codeOf Tryz.f200) [1, 0, 1, 0, 0]) (ρ := Int ⊕ Unit) (palingref17_Other_L1 a1 a2)
    (fun v3 : Int => ([(1, .v (.int .i64 a2)), (2, .op 0 1 0 0), (4, .z), (5, .v (.int .i64 v3))] : Fr DD)) (fun v3 : Int => ([.box 31 (c31 a1) false] : Heap DD)) (fun r => match r with | Sum.inl v16 => .ret | Sum.inr _ => .exit 0) (fun r => match r with | Sum.inl v16 => [(4, .v (.int .i64 v16))] | Sum.inr _ => [(4, .z)]) (fun r => match r with | Sum.inl v16 => [] | Sum.inr _ => []) := by
  refine loop_sound3 (fun s q h => ?_) (fun r => ?_)
  · replace h : palingref17_Other_L1 a1 a2 s = some q := h; revert h; revert s; intro v3 h
    unfold palingref17_Other_L1 at h
    rcases ite_out h with ⟨h4, h⟩ | ⟨h4, h⟩
    · obtain ⟨x5, h6, h⟩ := bind_out h
      rcases ite_out h with ⟨h7, h⟩ | ⟨h7, h⟩
      · obtain ⟨x8, h9, h⟩ := bind_out h
        injection h with h; subst h; exact runLp_sound mixedOrders (live := [4]) (ids := []) (π := [.dec true, .row (c92 x5), .dec true, .row (c92 x8)]) (hx := by kernel_rfl) (hps := pc (h4) <| pc (ob92 h6) <| pc (h7) <| pc (ob92 h9) <| pn)
      · obtain ⟨x10, h11, h⟩ := bind_out h
        rcases ite_out h with ⟨h12, h⟩ | ⟨h12, h⟩
        · obtain ⟨x13, h14, h⟩ := bind_out h
          injection h with h; subst h; exact runLp_sound mixedOrders (live := [4]) (ids := []) (π := [.dec true, .row (c92 x5), .dec false, .row (c92 x10), .dec true, .row (c92 x13)]) (hx := by kernel_rfl) (hps := pc (h4) <| pc (ob92 h6) <| pc (h7) <| pc (ob92 h11) <| pc (h12) <| pc (ob92 h14) <| pn)
        · injection h with h; subst h; exact runLp_sound mixedOrders (live := [1, 2, 4, 5]) (ids := [0]) (π := [.dec true, .row (c92 x5), .dec false, .row (c92 x10), .dec false]) (hx := by kernel_rfl) (hps := pc (h4) <| pc (ob92 h6) <| pc (h7) <| pc (ob92 h11) <| pc (h12) <| pn)
    · injection h with h; subst h; exact runLp_sound mixedOrders (live := [4]) (ids := []) (π := [.dec false]) (hx := by kernel_rfl) (hps := pc (h4) <| pn)
  · rcases r with _ | _ <;> exact Ex.noConfusion

theorem k_palingref17_Other {a1 : Api_Net} {a2 : Int} {r : Int} (h : palingref17_Other a1 a2 = some r) :
    CallsOK Tryz.prog UU 200 [.agg (c31 a1), .v (.int .i64 a2)] [] (.v (.int .i64 r)) [] := by
  unfold palingref17_Other at h
  obtain ⟨r18, h17, h⟩ := bind_out h
  rcases r18 with v16 | _
  · injection h with h; subst h; exact runFn_sound mixedOrders Tryz.func200 rfl (keep := none) (π := [.sum [1, 2, 4, 5] [0] .ret [(4, .v (.int .i64 v16))] []]) (hrun := by kernel_rfl) (hps := pc (k_palingref17_Other_L1 _ _ h17) <| pn)
  · injection h with h; subst h; exact runFn_sound mixedOrders Tryz.func200 rfl (keep := none) (π := [.sum [1, 2, 4, 5] [0] (.exit 0) [(4, .z)] []]) (hrun := by kernel_rfl) (hps := pc (k_palingref17_Other_L1 _ _ h17) <| pn)

theorem k_palingref17_Cross_J1 {a3 : Int} {r4 : Int} {x8 : Api_Port} {x10 : Api_Port} {r : Unit ⊕ Unit} (h : palingref17_Cross_J1 a3 r4 x8 x10 = some r) :
    ExecOK Tryz.prog UU 0 55 (subC (codeOf Tryz.f175) [1, 1, 1, 1, 0]) [(2, .v (.int .i64 a3)), (6, .z), (7, .z), (8, .v (.bool false)), (9, .v (.int .i64 r4)), (10, .op 0 1 0 0), (11, .op 1 1 0 0)] [.box 65 (c65 x8) false, .box 65 (c65 x10) false] ((fun r => match r with | Sum.inl _ => .ret | Sum.inr _ => .nor) r) ((fun r => match r with | Sum.inl _ => [(6, .v (.int .i64 r4)), (7, .v (.int .i64 x10.native)), (8, .v (.bool true))] | Sum.inr _ => [(2, .v (.int .i64 a3)), (6, .z), (7, .z), (8, .v (.bool false)), (9, .v (.int .i64 r4)), (10, .op 0 1 0 0), (11, .op 1 1 0 0)]) r) ((fun r => match r with | Sum.inl _ => [] | Sum.inr _ => [.box 65 (c65 x8) false, .box 65 (c65 x10) false]) r) := by
  unfold palingref17_Cross_J1 at h
  rcases ite_out h with ⟨h12, h⟩ | ⟨h12, h⟩
  · rcases ite_out h with ⟨h13, h⟩ | ⟨h13, h⟩
    · injection h with h; subst h; exact runLp_sound mixedOrders (live := [6, 7, 8]) (ids := []) (π := [.dec true, .dec true]) (hx := by kernel_rfl) (hps := pc (h12) <| pc (h13) <| pn)
    · injection h with h; subst h; exact runLp_sound mixedOrders (live := [2, 6, 7, 8, 9, 10, 11]) (ids := [0, 1]) (π := [.dec true, .dec false]) (hx := by kernel_rfl) (hps := pc (h12) <| pc (h13) <| pn)
  · injection h with h; subst h; exact runLp_sound mixedOrders (live := [2, 6, 7, 8, 9, 10, 11]) (ids := [0, 1]) (π := [.dec false]) (hx := by kernel_rfl) (hps := pc (h12) <| pn)

theorem k_palingref17_Cross {a1 : Api_Net} {a2 : Int} {a3 : Int} {r : Int × Int × Bool} (h : palingref17_Cross a1 a2 a3 = some r) :
    CallsOK Tryz.prog UU 175 [.agg (c31 a1), .v (.int .i64 a2), .v (.int .i64 a3)] [] (.tup [.v (.int .i64 r.1), .v (.int .i64 r.2.1), .v (.bool r.2.2)]) [] := by
  unfold palingref17_Cross at h
  obtain ⟨r4, h5, h⟩ := bind_out h
  rcases ite_out h with ⟨h6, h⟩ | ⟨h6, h⟩
  · injection h with h; subst h; exact runFn_sound mixedOrders Tryz.func175 rfl (keep := none) (π := [.callv (.v (.int .i64 r4)), .dec true]) (hrun := by kernel_rfl) (hps := pc (k_palingref17_Other h5) <| pc (h6) <| pn)
  · rcases ite_out h with ⟨h7, h⟩ | ⟨h7, h⟩
    · injection h with h; subst h; exact runFn_sound mixedOrders Tryz.func175 rfl (keep := none) (π := [.callv (.v (.int .i64 r4)), .dec false, .dec true]) (hrun := by kernel_rfl) (hps := pc (k_palingref17_Other h5) <| pc (h6) <| pc (h7) <| pn)
    · obtain ⟨x8, h9, h⟩ := bind_out h
      obtain ⟨x10, h11, h⟩ := bind_out h
      obtain ⟨r15, h14, h⟩ := bind_out h
      rcases r15 with _ | _
      · injection h with h; subst h; exact runFn_sound mixedOrders Tryz.func175 rfl (keep := none) (π := [.callv (.v (.int .i64 r4)), .dec false, .dec false, .row (c65 x8), .row (c65 x10), .cut [2, 6, 7, 8, 9, 10, 11] [1, 3] .ret [(6, .v (.int .i64 r4)), (7, .v (.int .i64 x10.native)), (8, .v (.bool true))] []]) (hrun := by kernel_rfl) (hps := pc (k_palingref17_Other h5) <| pc (h6) <| pc (h7) <| pc (ob65 h9) <| pc (ob65 h11) <| pc (k_palingref17_Cross_J1 h14) <| pn)
      · obtain ⟨r16, h17, h⟩ := bind_out h
        rcases ite_out h with ⟨h18, h⟩ | ⟨h18, h⟩
        · obtain ⟨r19, h20, h⟩ := bind_out h
          rcases ite_out h with ⟨h21, h⟩ | ⟨h21, h⟩
          · injection h with h; subst h; exact runFn_sound mixedOrders Tryz.func175 rfl (keep := none) (π := [.callv (.v (.int .i64 r4)), .dec false, .dec false, .row (c65 x8), .row (c65 x10), .cut [2, 6, 7, 8, 9, 10, 11] [1, 3] .nor [(2, .v (.int .i64 a3)), (6, .z), (7, .z), (8, .v (.bool false)), (9, .v (.int .i64 r4)), (10, .op 0 1 0 0), (11, .op 1 1 0 0)] [.box 65 (c65 x8) false, .box 65 (c65 x10) false], .callv (.v (.bool r16)), .dec true, .callv (.v (.bool r19)), .dec true]) (hrun := by kernel_rfl) (hps := pc (k_palingref17_Other h5) <| pc (h6) <| pc (h7) <| pc (ob65 h9) <| pc (ob65 h11) <| pc (k_palingref17_Cross_J1 h14) <| pc (k_palingref15_In h17) <| pc (h18) <| pc (k_palingref15_In h20) <| pc (h21) <| pn)
          · injection h with h; subst h; exact runFn_sound mixedOrders Tryz.func175 rfl (keep := none) (π := [.callv (.v (.int .i64 r4)), .dec false, .dec false, .row (c65 x8), .row (c65 x10), .cut [2, 6, 7, 8, 9, 10, 11] [1, 3] .nor [(2, .v (.int .i64 a3)), (6, .z), (7, .z), (8, .v (.bool false)), (9, .v (.int .i64 r4)), (10, .op 0 1 0 0), (11, .op 1 1 0 0)] [.box 65 (c65 x8) false, .box 65 (c65 x10) false], .callv (.v (.bool r16)), .dec true, .callv (.v (.bool r19)), .dec false]) (hrun := by kernel_rfl) (hps := pc (k_palingref17_Other h5) <| pc (h6) <| pc (h7) <| pc (ob65 h9) <| pc (ob65 h11) <| pc (k_palingref17_Cross_J1 h14) <| pc (k_palingref15_In h17) <| pc (h18) <| pc (k_palingref15_In h20) <| pc (h21) <| pn)
        · injection h with h; subst h; exact runFn_sound mixedOrders Tryz.func175 rfl (keep := none) (π := [.callv (.v (.int .i64 r4)), .dec false, .dec false, .row (c65 x8), .row (c65 x10), .cut [2, 6, 7, 8, 9, 10, 11] [1, 3] .nor [(2, .v (.int .i64 a3)), (6, .z), (7, .z), (8, .v (.bool false)), (9, .v (.int .i64 r4)), (10, .op 0 1 0 0), (11, .op 1 1 0 0)] [.box 65 (c65 x8) false, .box 65 (c65 x10) false], .callv (.v (.bool r16)), .dec false]) (hrun := by kernel_rfl) (hps := pc (k_palingref17_Other h5) <| pc (h6) <| pc (h7) <| pc (ob65 h9) <| pc (ob65 h11) <| pc (k_palingref17_Cross_J1 h14) <| pc (k_palingref15_In h17) <| pc (h18) <| pn)

theorem k_palingref17_Domain {a1 : Api_Net} {a2 : Int} {a3 : Int} {r : Int × Bool} (h : palingref17_Domain a1 a2 a3 = some r) :
    CallsOK Tryz.prog UU 147 [.agg (c31 a1), .v (.int .i64 a2), .v (.int .i64 a3)] [] (.tup [.v (.int .i64 r.1), .v (.bool r.2)]) [] := by
  unfold palingref17_Domain at h
  obtain ⟨r4, h5, h⟩ := bind_out h
  rcases ite_out h with ⟨h6, h⟩ | ⟨h6, h⟩
  · injection h with h; subst h; exact runFn_sound mixedOrders Tryz.func147 rfl (keep := none) (π := [.callv (.tup [.v (.int .i64 r4.1), .v (.int .i64 r4.2.1), .v (.bool r4.2.2)]), .dec true]) (hrun := by kernel_rfl) (hps := pc (k_palingref17_Cross h5) <| pc (h6) <| pn)
  · obtain ⟨x7, h8, h⟩ := bind_out h
    obtain ⟨r9, h10, h⟩ := bind_out h
    injection h with h; subst h; exact runFn_sound mixedOrders Tryz.func147 rfl (keep := none) (π := [.callv (.tup [.v (.int .i64 r4.1), .v (.int .i64 r4.2.1), .v (.bool r4.2.2)]), .dec false, .row (c65 x7), .callv (.v (.int .i64 r9))]) (hrun := by kernel_rfl) (hps := pc (k_palingref17_Cross h5) <| pc (h6) <| pc (ob65 h8) <| pc (k_palingref15_At h10) <| pn)

theorem k_palingref35_Hops_L1 {a1 : Api_Net} {a2 : Int} {l5 : List Int} : LoopOK Tryz.prog UU 0 70 (subC (codeOf Tryz.f90) [1, 1, 1, 0, 1, 0, 0]) (fun s : (List Palingref35_Hop) × Int => match s with | (l6, v7) => palingref35_Hops_L1 a1 a2 l5 l6 v7)
    (fun s : (List Palingref35_Hop) × Int => (match s with | (l6, v7) => [(1, .v (.int .i64 a2)), (2, .op 0 1 0 0), (4, .os 1 0), (5, .os 2 (List.length l6)), (6, .os 3 (List.length l5)), (7, .v (.int .i64 v7))] : Fr DD)) (fun s : (List Palingref35_Hop) × Int => (match s with | (l6, v7) => [.box 31 (c31 a1) false, .n 135, .arr 135 l6 (List.length l6) false, .arr 3 l5 (List.length l5) false] : Heap DD)) (fun r => match r with | l24 => .exit 0) (fun r => match r with | l24 => [(1, .v (.int .i64 a2)), (2, .op 0 1 0 0), (4, .os 1 0), (5, .os 2 (List.length l24))]) (fun r => match r with | l24 => [.box 31 (c31 a1) false, .n 135, .arr 135 l24 (List.length l24) false]) := by
  refine loop_sound3 (fun s q h => ?_) (fun r => ?_)
  · obtain ⟨l6, v7⟩ := s; replace h : palingref35_Hops_L1 a1 a2 l5 l6 v7 = some q := h
    unfold palingref35_Hops_L1 at h
    rcases ite_out h with ⟨h8, h⟩ | ⟨h8, h⟩
    · rcases ite_out h with ⟨h9, h⟩ | ⟨h9, h⟩
      · obtain ⟨x10, h11, h⟩ := bind_out h
        obtain ⟨x12, h13, h⟩ := bind_out h
        obtain ⟨r14, h15, h⟩ := bind_out h
        rcases ite_out h with ⟨h16, h⟩ | ⟨h16, h⟩
        · obtain ⟨x17, h18, h⟩ := bind_out h
          rcases ite_out h with ⟨h19, h⟩ | ⟨h19, h⟩
          · injection h with h; subst h; exact runLp_sound mixedOrders (live := [1, 2, 4, 5, 6, 7]) (ids := [0, 1, 2, 3]) (π := [.dec true, .row (c3 x10), .row (c67 x12), .callv (.tup [.v (.int .i64 r14.1), .v (.bool r14.2)]), .dec true, .row (c3 x17), .obj [] (.arr 135 [(⟨1, x17, r14.1, 0⟩ : Palingref35_Hop)] (List.length [(⟨1, x17, r14.1, 0⟩ : Palingref35_Hop)]) false), .obj [] (.arr 135 (l6 ++ [(⟨1, x17, r14.1, 0⟩ : Palingref35_Hop)]) (List.length (l6 ++ [(⟨1, x17, r14.1, 0⟩ : Palingref35_Hop)])) false)]) (hx := by kernel_rfl) (hps := pc ((rfl : ((List.length l5) : Nat) = (List.length l5))) <| pc (h8) <| pc (And.intro (rfl : ((List.length l5) : Nat) = (List.length l5)) (lin_ob h9)) <| pc (And.intro (rfl : ((List.length l5) : Nat) = (List.length l5)) (obn3 h11)) <| pc (ob67 h13) <| pc (k_palingref17_Domain h15) <| pc (h16) <| pc (And.intro (rfl : ((List.length l5) : Nat) = (List.length l5)) (lin_ob h9)) <| pc (And.intro (rfl : ((List.length l5) : Nat) = (List.length l5)) (obn3 h18)) <| pc (bs_ob 135 [(⟨1, x17, r14.1, 0⟩ : Palingref35_Hop)]) <| pc (app_ob 135 (n := (List.length l6)) (l := l6) (xs := [(⟨1, x17, r14.1, 0⟩ : Palingref35_Hop)]) h19) <| pc ((rfl : ((List.length [(⟨1, x17, r14.1, 0⟩ : Palingref35_Hop)]) : Nat) = (List.length [(⟨1, x17, r14.1, 0⟩ : Palingref35_Hop)]))) <| pn)
          · cases h
        · injection h with h; subst h; exact runLp_sound mixedOrders (live := [1, 2, 4, 5, 6, 7]) (ids := [0, 1, 2, 3]) (π := [.dec true, .row (c3 x10), .row (c67 x12), .callv (.tup [.v (.int .i64 r14.1), .v (.bool r14.2)]), .dec false]) (hx := by kernel_rfl) (hps := pc ((rfl : ((List.length l5) : Nat) = (List.length l5))) <| pc (h8) <| pc (And.intro (rfl : ((List.length l5) : Nat) = (List.length l5)) (lin_ob h9)) <| pc (And.intro (rfl : ((List.length l5) : Nat) = (List.length l5)) (obn3 h11)) <| pc (ob67 h13) <| pc (k_palingref17_Domain h15) <| pc (h16) <| pn)
      · cases h
    · injection h with h; subst h; exact runLp_sound mixedOrders (live := [1, 2, 4, 5]) (ids := [0, 1, 2]) (π := [.dec false]) (hx := by kernel_rfl) (hps := pc ((rfl : ((List.length l5) : Nat) = (List.length l5))) <| pc (h8) <| pn)
  · exact Ex.noConfusion

theorem k_palingref35_Hops_L2 {a1 : Api_Net} {a2 : Int} : LoopOK Tryz.prog UU 0 70 (subC (codeOf Tryz.f90) [1, 1, 1, 1, 0, 1, 0, 0]) (fun s : (List Palingref35_Hop) × Int => match s with | (l27, v28) => palingref35_Hops_L2 a1 a2 l27 v28)
    (fun s : (List Palingref35_Hop) × Int => (match s with | (l27, v28) => [(1, .v (.int .i64 a2)), (2, .op 0 1 0 0), (4, .os 1 0), (5, .os 2 (List.length l27)), (10, .v (.int .i64 v28))] : Fr DD)) (fun s : (List Palingref35_Hop) × Int => (match s with | (l27, v28) => [.box 31 (c31 a1) false, .n 135, .arr 135 l27 (List.length l27) false] : Heap DD)) (fun r => match r with | l39 => .exit 2) (fun r => match r with | l39 => [(4, .os 0 0), (5, .os 1 (List.length l39))]) (fun r => match r with | l39 => [.n 135, .arr 135 l39 (List.length l39) false]) := by
  refine loop_sound3 (fun s q h => ?_) (fun r => ?_)
  · obtain ⟨l27, v28⟩ := s; replace h : palingref35_Hops_L2 a1 a2 l27 v28 = some q := h
    unfold palingref35_Hops_L2 at h
    obtain ⟨x29, h30, h⟩ := bind_out h
    rcases ite_out h with ⟨h31, h⟩ | ⟨h31, h⟩
    · obtain ⟨x32, h33, h⟩ := bind_out h
      obtain ⟨x34, h35, h⟩ := bind_out h
      rcases ite_out h with ⟨h36, h⟩ | ⟨h36, h⟩
      · injection h with h; subst h; exact runLp_sound mixedOrders (live := [1, 2, 4, 5, 10]) (ids := [0, 1, 2]) (π := [.row (c67 x29), .dec true, .row (c67 x32), .row (c3 x34), .obj [] (.arr 135 [(⟨2, 0, x34, 0⟩ : Palingref35_Hop)] (List.length [(⟨2, 0, x34, 0⟩ : Palingref35_Hop)]) false), .obj [] (.arr 135 (l27 ++ [(⟨2, 0, x34, 0⟩ : Palingref35_Hop)]) (List.length (l27 ++ [(⟨2, 0, x34, 0⟩ : Palingref35_Hop)])) false)]) (hx := by kernel_rfl) (hps := pc (ob67 h30) <| pc (h31) <| pc (ob67 h33) <| pc (ob3 h35) <| pc (bs_ob 135 [(⟨2, 0, x34, 0⟩ : Palingref35_Hop)]) <| pc (app_ob 135 (n := (List.length l27)) (l := l27) (xs := [(⟨2, 0, x34, 0⟩ : Palingref35_Hop)]) h36) <| pc ((rfl : ((List.length [(⟨2, 0, x34, 0⟩ : Palingref35_Hop)]) : Nat) = (List.length [(⟨2, 0, x34, 0⟩ : Palingref35_Hop)]))) <| pn)
      · cases h
    · injection h with h; subst h; exact runLp_sound mixedOrders (live := [4, 5]) (ids := [1, 2]) (π := [.row (c67 x29), .dec false]) (hx := by kernel_rfl) (hps := pc (ob67 h30) <| pc (h31) <| pn)
  · exact Ex.noConfusion

theorem k_palingref35_Hops {a1 : Api_Net} {a2 : Int} {r : ((List Palingref35_Hop))} (h : palingref35_Hops a1 a2 = some r) :
    CallsOK Tryz.prog UU 90 [.agg (c31 a1), .v (.int .i64 a2)] [] ((fun r => match r with | l42 => .os 0 (List.length l42)) r) ((fun r => match r with | l42 => [.arr 135 l42 (List.length l42) false]) r) := by
  unfold palingref35_Hops at h
  obtain ⟨l5, h4, h⟩ := bind_out h
  obtain ⟨l24, h25, h⟩ := bind_out h
  obtain ⟨l39, h40, h⟩ := bind_out h
  injection h with h; subst h; exact runFn_sound mixedOrders Tryz.func90 rfl (keep := some [1]) (π := [.callo (.os 0 (List.length l5)) [.arr 3 l5 (List.length l5) false], .sum [1, 2, 4, 5, 6, 7] [0, 1, 2, 3] (.exit 0) [(1, .v (.int .i64 a2)), (2, .op 0 1 0 0), (4, .os 1 0), (5, .os 2 (List.length l24))] [.box 31 (c31 a1) false, .n 135, .arr 135 l24 (List.length l24) false], .sum [1, 2, 4, 5, 10] [0, 1, 2] (.exit 2) [(4, .os 0 0), (5, .os 1 (List.length l39))] [.n 135, .arr 135 l39 (List.length l39) false]]) (hrun := by kernel_rfl) (hps := pc (k_palingref15_Members h4) <| pc (im3 l5) <| pc (k_palingref35_Hops_L1 _ _ h25) <| pc (k_palingref35_Hops_L2 _ _ h40) <| pn)

theorem k_palingref02_Right {a1 : Api_Prefix} {r : Bool} (h : palingref02_Right a1 = some r) :
    CallsOK Tryz.prog UU 201 [.agg (c163 a1)] [] (.v (.bool r)) [] := by
  unfold palingref02_Right at h
  rcases ite_out h with ⟨h2, h⟩ | ⟨h2, h⟩
  · injection h with h; subst h; exact runFn_sound mixedOrders Tryz.func201 rfl (keep := none) (π := [.dec true]) (hrun := by kernel_rfl) (hps := pc (h2) <| pn)
  · injection h with h; subst h; exact runFn_sound mixedOrders Tryz.func201 rfl (keep := none) (π := [.dec false]) (hrun := by kernel_rfl) (hps := pc (h2) <| pn)

theorem k_palingref02_size_L1 : LoopOK Tryz.prog UU 0 14 (subC (codeOf Tryz.f202) [1, 1, 0, 1, 0, 0]) (fun s : Int × Int => match s with | (v2, v3) => palingref02_size_L1 v2 v3)
    (fun s : Int × Int => (match s with | (v2, v3) => [(2, .z), (3, .v (.int .i64 v2)), (4, .v (.int .i64 v3))] : Fr DD)) (fun s : Int × Int => (match s with | (v2, v3) => [] : Heap DD)) (fun r => match r with | v6 => .exit 0) (fun r => match r with | v6 => [(2, .z), (3, .v (.int .i64 v6))]) (fun r => match r with | v6 => []) := by
  refine loop_sound3 (fun s q h => ?_) (fun r => ?_)
  · obtain ⟨v2, v3⟩ := s; replace h : palingref02_size_L1 v2 v3 = some q := h
    unfold palingref02_size_L1 at h
    rcases ite_out h with ⟨h4, h⟩ | ⟨h4, h⟩
    · injection h with h; subst h; exact runLp_sound mixedOrders (live := [2, 3, 4]) (ids := []) (π := [.dec true]) (hx := by kernel_rfl) (hps := pc (h4) <| pn)
    · injection h with h; subst h; exact runLp_sound mixedOrders (live := [2, 3]) (ids := []) (π := [.dec false]) (hx := by kernel_rfl) (hps := pc (h4) <| pn)
  · exact Ex.noConfusion

theorem k_palingref02_size {a1 : Api_Prefix} {r : Int} (h : palingref02_size a1 = some r) :
    CallsOK Tryz.prog UU 202 [.agg (c163 a1)] [] (.v (.int .i64 r)) [] := by
  unfold palingref02_size at h
  obtain ⟨v6, h7, h⟩ := bind_out h
  injection h with h; subst h; exact runFn_sound mixedOrders Tryz.func202 rfl (keep := none) (π := [.sum [2, 3, 4] [] (.exit 0) [(2, .z), (3, .v (.int .i64 v6))] []]) (hrun := by kernel_rfl) (hps := pc (k_palingref02_size_L1 _ _ h7) <| pn)

theorem k_palingref02_First {a1 : Api_Prefix} {r : Int} (h : palingref02_First a1 = some r) :
    CallsOK Tryz.prog UU 176 [.agg (c163 a1)] [] (.v (.int .u32 r)) [] := by
  unfold palingref02_First at h
  obtain ⟨r2, h3, h⟩ := bind_out h
  rcases ite_out h with ⟨h4, h⟩ | ⟨h4, h⟩
  · injection h with h; subst h; exact runFn_sound mixedOrders Tryz.func176 rfl (keep := none) (π := [.callv (.v (.bool r2)), .dec true]) (hrun := by kernel_rfl) (hps := pc (k_palingref02_Right h3) <| pc (h4) <| pn)
  · obtain ⟨r5, h6, h⟩ := bind_out h
    rcases ite_out h with ⟨h7, h⟩ | ⟨h7, h⟩
    · obtain ⟨r8, h9, h⟩ := bind_out h
      injection h with h; subst h; exact runFn_sound mixedOrders Tryz.func176 rfl (keep := none) (π := [.callv (.v (.bool r2)), .dec false, .callv (.v (.int .i64 r5)), .callv (.v (.int .i64 r8))]) (hrun := by kernel_rfl) (hps := pc (k_palingref02_Right h3) <| pc (h4) <| pc (k_palingref02_size h6) <| pc (ne0_ob h7) <| pc (k_palingref02_size h9) <| pn)
    · cases h

theorem k_palingref02_Last {a1 : Api_Prefix} {r : Int} (h : palingref02_Last a1 = some r) :
    CallsOK Tryz.prog UU 177 [.agg (c163 a1)] [] (.v (.int .u32 r)) [] := by
  unfold palingref02_Last at h
  obtain ⟨r2, h3, h⟩ := bind_out h
  rcases ite_out h with ⟨h4, h⟩ | ⟨h4, h⟩
  · injection h with h; subst h; exact runFn_sound mixedOrders Tryz.func177 rfl (keep := none) (π := [.callv (.v (.bool r2)), .dec true]) (hrun := by kernel_rfl) (hps := pc (k_palingref02_Right h3) <| pc (h4) <| pn)
  · obtain ⟨r5, h6, h⟩ := bind_out h
    obtain ⟨r7, h8, h⟩ := bind_out h
    injection h with h; subst h; exact runFn_sound mixedOrders Tryz.func177 rfl (keep := none) (π := [.callv (.v (.bool r2)), .dec false, .callv (.v (.int .u32 r5)), .callv (.v (.int .i64 r7))]) (hrun := by kernel_rfl) (hps := pc (k_palingref02_Right h3) <| pc (h4) <| pc (k_palingref02_First h6) <| pc (k_palingref02_size h8) <| pn)

theorem k_palingref30_device {a1 : Api_Net} {a2 : Int} {r : Int} (h : palingref30_device a1 a2 = some r) :
    CallsOK Tryz.prog UU 224 [.agg (c31 a1), .v (.int .i64 a2)] [] (.v (.int .i64 r)) [] := by
  unfold palingref30_device at h
  obtain ⟨x3, h4, h⟩ := bind_out h
  obtain ⟨x5, h6, h⟩ := bind_out h
  injection h with h; subst h; exact runFn_sound mixedOrders Tryz.func224 rfl (keep := none) (π := [.row (c165 x3), .row (c67 x5)]) (hrun := by kernel_rfl) (hps := pc (ob165 h4) <| pc (ob67 h6) <| pn)

theorem k_palingref02_Has {a1 : Api_Prefix} {a2 : Int} {r : Bool} (h : palingref02_Has a1 a2 = some r) :
    CallsOK Tryz.prog UU 225 [.agg (c163 a1), .v (.int .u32 a2)] [] (.v (.bool r)) [] := by
  unfold palingref02_Has at h
  obtain ⟨r3, h4, h⟩ := bind_out h
  rcases ite_out h with ⟨h5, h⟩ | ⟨h5, h⟩
  · obtain ⟨r6, h7, h⟩ := bind_out h
    rcases ite_out h with ⟨h8, h⟩ | ⟨h8, h⟩
    · obtain ⟨r9, h10, h⟩ := bind_out h
      injection h with h; subst h; exact runFn_sound mixedOrders Tryz.func225 rfl (keep := none) (π := [.callv (.v (.bool r3)), .dec true, .callv (.v (.int .u32 r6)), .dec true, .callv (.v (.int .u32 r9))]) (hrun := by kernel_rfl) (hps := pc (k_palingref02_Right h4) <| pc (h5) <| pc (k_palingref02_First h7) <| pc (h8) <| pc (k_palingref02_Last h10) <| pn)
    · injection h with h; subst h; exact runFn_sound mixedOrders Tryz.func225 rfl (keep := none) (π := [.callv (.v (.bool r3)), .dec true, .callv (.v (.int .u32 r6)), .dec false]) (hrun := by kernel_rfl) (hps := pc (k_palingref02_Right h4) <| pc (h5) <| pc (k_palingref02_First h7) <| pc (h8) <| pn)
  · injection h with h; subst h; exact runFn_sound mixedOrders Tryz.func225 rfl (keep := none) (π := [.callv (.v (.bool r3)), .dec false]) (hrun := by kernel_rfl) (hps := pc (k_palingref02_Right h4) <| pc (h5) <| pn)

theorem k_palingref20_Leaks_L1 {a1 : Api_Net} {a2 : Int} {a3 : Int} : LoopOK Tryz.prog UU 0 67 (subC (codeOf Tryz.f226) [1, 1, 1, 0, 1, 0, 0]) (ρ := Unit ⊕ Unit) (palingref20_Leaks_L1 a1 a2 a3)
    (fun v11 : Int => ([(1, .v (.int .i64 a2)), (2, .v (.int .i64 a3)), (3, .op 0 1 0 0), (6, .v (.bool false)), (7, .v (.int .i64 v11))] : Fr DD)) (fun v11 : Int => ([.box 31 (c31 a1) false] : Heap DD)) (fun r => match r with | Sum.inl _ => .ret | Sum.inr _ => .exit 0) (fun r => match r with | Sum.inl _ => [(6, .v (.bool true))] | Sum.inr _ => [(6, .v (.bool false))]) (fun r => match r with | Sum.inl _ => [] | Sum.inr _ => []) := by
  refine loop_sound3 (fun s q h => ?_) (fun r => ?_)
  · replace h : palingref20_Leaks_L1 a1 a2 a3 s = some q := h; revert h; revert s; intro v11 h
    unfold palingref20_Leaks_L1 at h
    obtain ⟨x12, h13, h⟩ := bind_out h
    rcases ite_out h with ⟨h14, h⟩ | ⟨h14, h⟩
    · obtain ⟨x15, h16, h⟩ := bind_out h
      obtain ⟨x17, h18, h⟩ := bind_out h
      rcases ite_out h with ⟨h19, h⟩ | ⟨h19, h⟩
      · obtain ⟨x20, h21, h⟩ := bind_out h
        obtain ⟨x22, h23, h⟩ := bind_out h
        obtain ⟨x24, h25, h⟩ := bind_out h
        obtain ⟨r26, h27, h⟩ := bind_out h
        rcases ite_out h with ⟨h28, h⟩ | ⟨h28, h⟩
        · injection h with h; subst h; exact runLp_sound mixedOrders (live := [6]) (ids := []) (π := [.row (c71 x12), .dec true, .row (c71 x15), .row (c71 x17), .dec true, .row (c71 x20), .row (c71 x22), .row (c3 x24), .callv (.v (.bool r26)), .dec true]) (hx := by kernel_rfl) (hps := pc (ob71 h13) <| pc (h14) <| pc (ob71 h16) <| pc (ob71 h18) <| pc (h19) <| pc (ob71 h21) <| pc (ob71 h23) <| pc (ob3 h25) <| pc (k_palingref15_In h27) <| pc (h28) <| pn)
        · injection h with h; subst h; exact runLp_sound mixedOrders (live := [1, 2, 3, 6, 7]) (ids := [0]) (π := [.row (c71 x12), .dec true, .row (c71 x15), .row (c71 x17), .dec true, .row (c71 x20), .row (c71 x22), .row (c3 x24), .callv (.v (.bool r26)), .dec false]) (hx := by kernel_rfl) (hps := pc (ob71 h13) <| pc (h14) <| pc (ob71 h16) <| pc (ob71 h18) <| pc (h19) <| pc (ob71 h21) <| pc (ob71 h23) <| pc (ob3 h25) <| pc (k_palingref15_In h27) <| pc (h28) <| pn)
      · injection h with h; subst h; exact runLp_sound mixedOrders (live := [1, 2, 3, 6, 7]) (ids := [0]) (π := [.row (c71 x12), .dec true, .row (c71 x15), .row (c71 x17), .dec false]) (hx := by kernel_rfl) (hps := pc (ob71 h13) <| pc (h14) <| pc (ob71 h16) <| pc (ob71 h18) <| pc (h19) <| pn)
    · injection h with h; subst h; exact runLp_sound mixedOrders (live := [6]) (ids := []) (π := [.row (c71 x12), .dec false]) (hx := by kernel_rfl) (hps := pc (ob71 h13) <| pc (h14) <| pn)
  · rcases r with _ | _ <;> exact Ex.noConfusion

theorem k_palingref20_Leaks {a1 : Api_Net} {a2 : Int} {a3 : Int} {r : Bool} (h : palingref20_Leaks a1 a2 a3 = some r) :
    CallsOK Tryz.prog UU 226 [.agg (c31 a1), .v (.int .i64 a2), .v (.int .i64 a3)] [] (.v (.bool r)) [] := by
  unfold palingref20_Leaks at h
  obtain ⟨r4, h5, h⟩ := bind_out h
  rcases ite_out h with ⟨h6, h⟩ | ⟨h6, h⟩
  · injection h with h; subst h; exact runFn_sound mixedOrders Tryz.func226 rfl (keep := none) (π := [.callv (.v (.bool r4)), .dec true]) (hrun := by kernel_rfl) (hps := pc (k_palingref15_Place h5) <| pc (h6) <| pn)
  · obtain ⟨r7, h8, h⟩ := bind_out h
    rcases ite_out h with ⟨h9, h⟩ | ⟨h9, h⟩
    · injection h with h; subst h; exact runFn_sound mixedOrders Tryz.func226 rfl (keep := none) (π := [.callv (.v (.bool r4)), .dec false, .callv (.v (.bool r7)), .dec true]) (hrun := by kernel_rfl) (hps := pc (k_palingref15_Place h5) <| pc (h6) <| pc (k_palingref15_Place h8) <| pc (h9) <| pn)
    · rcases ite_out h with ⟨h10, h⟩ | ⟨h10, h⟩
      · injection h with h; subst h; exact runFn_sound mixedOrders Tryz.func226 rfl (keep := none) (π := [.callv (.v (.bool r4)), .dec false, .callv (.v (.bool r7)), .dec false, .dec true]) (hrun := by kernel_rfl) (hps := pc (k_palingref15_Place h5) <| pc (h6) <| pc (k_palingref15_Place h8) <| pc (h9) <| pc (h10) <| pn)
      · obtain ⟨r30, h29, h⟩ := bind_out h
        rcases r30 with _ | _
        · injection h with h; subst h; exact runFn_sound mixedOrders Tryz.func226 rfl (keep := none) (π := [.callv (.v (.bool r4)), .dec false, .callv (.v (.bool r7)), .dec false, .dec false, .sum [1, 2, 3, 6, 7] [0] .ret [(6, .v (.bool true))] []]) (hrun := by kernel_rfl) (hps := pc (k_palingref15_Place h5) <| pc (h6) <| pc (k_palingref15_Place h8) <| pc (h9) <| pc (h10) <| pc (k_palingref20_Leaks_L1 _ _ h29) <| pn)
        · injection h with h; subst h; exact runFn_sound mixedOrders Tryz.func226 rfl (keep := none) (π := [.callv (.v (.bool r4)), .dec false, .callv (.v (.bool r7)), .dec false, .dec false, .sum [1, 2, 3, 6, 7] [0] (.exit 0) [(6, .v (.bool false))] []]) (hrun := by kernel_rfl) (hps := pc (k_palingref15_Place h5) <| pc (h6) <| pc (k_palingref15_Place h8) <| pc (h9) <| pc (h10) <| pc (k_palingref20_Leaks_L1 _ _ h29) <| pn)

theorem k_palingref30_better {a1 : Api_Net} {a2 : Int} {a3 : Int} {a4 : Int} {r : Bool} (h : palingref30_better a1 a2 a3 a4 = some r) :
    CallsOK Tryz.prog UU 227 [.agg (c31 a1), .v (.int .i64 a2), .v (.int .i64 a3), .v (.int .i64 a4)] [] (.v (.bool r)) [] := by
  unfold palingref30_better at h
  obtain ⟨x5, h6, h⟩ := bind_out h
  obtain ⟨x7, h8, h⟩ := bind_out h
  rcases ite_out h with ⟨h9, h⟩ | ⟨h9, h⟩
  · obtain ⟨x10, h11, h⟩ := bind_out h
    obtain ⟨x12, h13, h⟩ := bind_out h
    injection h with h; subst h; exact runFn_sound mixedOrders Tryz.func227 rfl (keep := none) (π := [.row (c165 x5), .row (c165 x7), .dec true, .row (c165 x10), .row (c165 x12)]) (hrun := by kernel_rfl) (hps := pc (ob165 h6) <| pc (ob165 h8) <| pc (h9) <| pc (ob165 h11) <| pc (ob165 h13) <| pn)
  · obtain ⟨x14, h15, h⟩ := bind_out h
    obtain ⟨x16, h17, h⟩ := bind_out h
    rcases ite_out h with ⟨h18, h⟩ | ⟨h18, h⟩
    · obtain ⟨x19, h20, h⟩ := bind_out h
      obtain ⟨x21, h22, h⟩ := bind_out h
      injection h with h; subst h; exact runFn_sound mixedOrders Tryz.func227 rfl (keep := none) (π := [.row (c165 x5), .row (c165 x7), .dec false, .row (c165 x14), .row (c165 x16), .dec true, .row (c165 x19), .row (c165 x21)]) (hrun := by kernel_rfl) (hps := pc (ob165 h6) <| pc (ob165 h8) <| pc (h9) <| pc (ob165 h15) <| pc (ob165 h17) <| pc (h18) <| pc (ob165 h20) <| pc (ob165 h22) <| pn)
    · injection h with h; subst h; exact runFn_sound mixedOrders Tryz.func227 rfl (keep := none) (π := [.row (c165 x5), .row (c165 x7), .dec false, .row (c165 x14), .row (c165 x16), .dec false]) (hrun := by kernel_rfl) (hps := pc (ob165 h6) <| pc (ob165 h8) <| pc (h9) <| pc (ob165 h15) <| pc (ob165 h17) <| pc (h18) <| pn)

theorem k_palingref30_Lookup_L1 {a1 : Api_Net} {a2 : Int} {a3 : Int} : LoopOK Tryz.prog UU 0 78 (subC (codeOf Tryz.f203) [1, 1, 1, 0, 1, 0, 0]) (fun s : Int × Int => match s with | (v7, v8) => palingref30_Lookup_L1 a1 a2 a3 v7 v8)
    (fun s : Int × Int => (match s with | (v7, v8) => [(1, .v (.int .i64 a2)), (2, .v (.int .u32 a3)), (3, .op 0 1 0 0), (6, .z), (7, .v (.bool false)), (8, .v (.int .i64 v7)), (9, .v (.int .i64 v8))] : Fr DD)) (fun s : Int × Int => (match s with | (v7, v8) => [.box 31 (c31 a1) false] : Heap DD)) (fun r => match r with | Sum.inl _ => .ret | Sum.inr v35 => .exit 0) (fun r => match r with | Sum.inl _ => [(6, .z), (7, .v (.bool false))] | Sum.inr v35 => [(6, .z), (7, .v (.bool false)), (8, .v (.int .i64 v35))]) (fun r => match r with | Sum.inl _ => [] | Sum.inr v35 => []) := by
  refine loop_sound3 (fun s q h => ?_) (fun r => ?_)
  · obtain ⟨v7, v8⟩ := s; replace h : palingref30_Lookup_L1 a1 a2 a3 v7 v8 = some q := h
    unfold palingref30_Lookup_L1 at h
    rcases ite_out h with ⟨h9, h⟩ | ⟨h9, h⟩
    · obtain ⟨r10, h11, h⟩ := bind_out h
      obtain ⟨r12, h13, h⟩ := bind_out h
      rcases ite_out h with ⟨h14, h⟩ | ⟨h14, h⟩
      · injection h with h; subst h; exact runLp_sound mixedOrders (live := [1, 2, 3, 6, 7, 8, 9]) (ids := [0]) (π := [.dec true, .callv (.v (.int .i64 r10)), .callv (.v (.int .i64 r12)), .dec true]) (hx := by kernel_rfl) (hps := pc (h9) <| pc (k_palingref30_device h11) <| pc (k_palingref30_device h13) <| pc (h14) <| pn)
      · obtain ⟨x15, h16, h⟩ := bind_out h
        rcases ite_out h with ⟨h17, h⟩ | ⟨h17, h⟩
        · injection h with h; subst h; exact runLp_sound mixedOrders (live := [6, 7]) (ids := []) (π := [.dec true, .callv (.v (.int .i64 r10)), .callv (.v (.int .i64 r12)), .dec false, .row (c165 x15), .dec true]) (hx := by kernel_rfl) (hps := pc (h9) <| pc (k_palingref30_device h11) <| pc (k_palingref30_device h13) <| pc (h14) <| pc (ob165 h16) <| pc (h17) <| pn)
        · obtain ⟨x18, h19, h⟩ := bind_out h
          obtain ⟨r20, h21, h⟩ := bind_out h
          rcases ite_out h with ⟨h22, h⟩ | ⟨h22, h⟩
          · injection h with h; subst h; exact runLp_sound mixedOrders (live := [1, 2, 3, 6, 7, 8, 9]) (ids := [0]) (π := [.dec true, .callv (.v (.int .i64 r10)), .callv (.v (.int .i64 r12)), .dec false, .row (c165 x15), .dec false, .row (c165 x18), .callv (.v (.bool r20)), .dec true]) (hx := by kernel_rfl) (hps := pc (h9) <| pc (k_palingref30_device h11) <| pc (k_palingref30_device h13) <| pc (h14) <| pc (ob165 h16) <| pc (h17) <| pc (ob165 h19) <| pc (k_palingref02_Has h21) <| pc (h22) <| pn)
          · obtain ⟨x23, h24, h⟩ := bind_out h
            obtain ⟨x25, h26, h⟩ := bind_out h
            obtain ⟨r27, h28, h⟩ := bind_out h
            rcases ite_out h with ⟨h29, h⟩ | ⟨h29, h⟩
            · injection h with h; subst h; exact runLp_sound mixedOrders (live := [1, 2, 3, 6, 7, 8, 9]) (ids := [0]) (π := [.dec true, .callv (.v (.int .i64 r10)), .callv (.v (.int .i64 r12)), .dec false, .row (c165 x15), .dec false, .row (c165 x18), .callv (.v (.bool r20)), .dec false, .row (c165 x23), .row (c165 x25), .callv (.v (.bool r27)), .dec true]) (hx := by kernel_rfl) (hps := pc (h9) <| pc (k_palingref30_device h11) <| pc (k_palingref30_device h13) <| pc (h14) <| pc (ob165 h16) <| pc (h17) <| pc (ob165 h19) <| pc (k_palingref02_Has h21) <| pc (h22) <| pc (ob165 h24) <| pc (ob165 h26) <| pc (k_palingref20_Leaks h28) <| pc (h29) <| pn)
            · rcases ite_out h with ⟨h30, h⟩ | ⟨h30, h⟩
              · injection h with h; subst h; exact runLp_sound mixedOrders (live := [1, 2, 3, 6, 7, 8, 9]) (ids := [0]) (π := [.dec true, .callv (.v (.int .i64 r10)), .callv (.v (.int .i64 r12)), .dec false, .row (c165 x15), .dec false, .row (c165 x18), .callv (.v (.bool r20)), .dec false, .row (c165 x23), .row (c165 x25), .callv (.v (.bool r27)), .dec false, .dec true]) (hx := by kernel_rfl) (hps := pc (h9) <| pc (k_palingref30_device h11) <| pc (k_palingref30_device h13) <| pc (h14) <| pc (ob165 h16) <| pc (h17) <| pc (ob165 h19) <| pc (k_palingref02_Has h21) <| pc (h22) <| pc (ob165 h24) <| pc (ob165 h26) <| pc (k_palingref20_Leaks h28) <| pc (h29) <| pc (h30) <| pn)
              · obtain ⟨r31, h32, h⟩ := bind_out h
                rcases ite_out h with ⟨h33, h⟩ | ⟨h33, h⟩
                · injection h with h; subst h; exact runLp_sound mixedOrders (live := [1, 2, 3, 6, 7, 8, 9]) (ids := [0]) (π := [.dec true, .callv (.v (.int .i64 r10)), .callv (.v (.int .i64 r12)), .dec false, .row (c165 x15), .dec false, .row (c165 x18), .callv (.v (.bool r20)), .dec false, .row (c165 x23), .row (c165 x25), .callv (.v (.bool r27)), .dec false, .dec false, .callv (.v (.bool r31)), .dec true]) (hx := by kernel_rfl) (hps := pc (h9) <| pc (k_palingref30_device h11) <| pc (k_palingref30_device h13) <| pc (h14) <| pc (ob165 h16) <| pc (h17) <| pc (ob165 h19) <| pc (k_palingref02_Has h21) <| pc (h22) <| pc (ob165 h24) <| pc (ob165 h26) <| pc (k_palingref20_Leaks h28) <| pc (h29) <| pc (h30) <| pc (k_palingref30_better h32) <| pc (h33) <| pn)
                · injection h with h; subst h; exact runLp_sound mixedOrders (live := [1, 2, 3, 6, 7, 8, 9]) (ids := [0]) (π := [.dec true, .callv (.v (.int .i64 r10)), .callv (.v (.int .i64 r12)), .dec false, .row (c165 x15), .dec false, .row (c165 x18), .callv (.v (.bool r20)), .dec false, .row (c165 x23), .row (c165 x25), .callv (.v (.bool r27)), .dec false, .dec false, .callv (.v (.bool r31)), .dec false]) (hx := by kernel_rfl) (hps := pc (h9) <| pc (k_palingref30_device h11) <| pc (k_palingref30_device h13) <| pc (h14) <| pc (ob165 h16) <| pc (h17) <| pc (ob165 h19) <| pc (k_palingref02_Has h21) <| pc (h22) <| pc (ob165 h24) <| pc (ob165 h26) <| pc (k_palingref20_Leaks h28) <| pc (h29) <| pc (h30) <| pc (k_palingref30_better h32) <| pc (h33) <| pn)
    · injection h with h; subst h; exact runLp_sound mixedOrders (live := [6, 7, 8]) (ids := []) (π := [.dec false]) (hx := by kernel_rfl) (hps := pc (h9) <| pn)
  · rcases r with _ | _ <;> exact Ex.noConfusion

theorem k_palingref30_Lookup {a1 : Api_Net} {a2 : Int} {a3 : Int} {r : Int × Bool} (h : palingref30_Lookup a1 a2 a3 = some r) :
    CallsOK Tryz.prog UU 203 [.agg (c31 a1), .v (.int .i64 a2), .v (.int .u32 a3)] [] (.tup [.v (.int .i64 r.1), .v (.bool r.2)]) [] := by
  unfold palingref30_Lookup at h
  obtain ⟨r4, h5, h⟩ := bind_out h
  rcases ite_out h with ⟨h6, h⟩ | ⟨h6, h⟩
  · injection h with h; subst h; exact runFn_sound mixedOrders Tryz.func203 rfl (keep := none) (π := [.callv (.v (.bool r4)), .dec true]) (hrun := by kernel_rfl) (hps := pc (k_palingref15_Place h5) <| pc (h6) <| pn)
  · obtain ⟨r37, h36, h⟩ := bind_out h
    rcases r37 with _ | v35
    · injection h with h; subst h; exact runFn_sound mixedOrders Tryz.func203 rfl (keep := none) (π := [.callv (.v (.bool r4)), .dec false, .sum [1, 2, 3, 6, 7, 8, 9] [0] .ret [(6, .z), (7, .v (.bool false))] []]) (hrun := by kernel_rfl) (hps := pc (k_palingref15_Place h5) <| pc (h6) <| pc (k_palingref30_Lookup_L1 _ _ h36) <| pn)
    · rcases ite_out h with ⟨h38, h⟩ | ⟨h38, h⟩
      · injection h with h; subst h; exact runFn_sound mixedOrders Tryz.func203 rfl (keep := none) (π := [.callv (.v (.bool r4)), .dec false, .sum [1, 2, 3, 6, 7, 8, 9] [0] (.exit 0) [(6, .z), (7, .v (.bool false)), (8, .v (.int .i64 v35))] [], .dec true]) (hrun := by kernel_rfl) (hps := pc (k_palingref15_Place h5) <| pc (h6) <| pc (k_palingref30_Lookup_L1 _ _ h36) <| pc (h38) <| pn)
      · injection h with h; subst h; exact runFn_sound mixedOrders Tryz.func203 rfl (keep := none) (π := [.callv (.v (.bool r4)), .dec false, .sum [1, 2, 3, 6, 7, 8, 9] [0] (.exit 0) [(6, .z), (7, .v (.bool false)), (8, .v (.int .i64 v35))] [], .dec false]) (hrun := by kernel_rfl) (hps := pc (k_palingref15_Place h5) <| pc (h6) <| pc (k_palingref30_Lookup_L1 _ _ h36) <| pc (h38) <| pn)

theorem k_palingref36_taken_L1 {a1 : Api_Net} {a2 : Int} : LoopOK Tryz.prog UU 0 22 (subC (codeOf Tryz.f204) [1, 0, 1, 0, 0]) (ρ := Unit ⊕ Unit) (palingref36_taken_L1 a1 a2)
    (fun v3 : Int => ([(1, .v (.int .u32 a2)), (2, .op 0 1 0 0), (4, .v (.bool false)), (5, .v (.int .i64 v3))] : Fr DD)) (fun v3 : Int => ([.box 31 (c31 a1) false] : Heap DD)) (fun r => match r with | Sum.inl _ => .ret | Sum.inr _ => .exit 0) (fun r => match r with | Sum.inl _ => [(4, .v (.bool true))] | Sum.inr _ => [(4, .v (.bool false))]) (fun r => match r with | Sum.inl _ => [] | Sum.inr _ => []) := by
  refine loop_sound3 (fun s q h => ?_) (fun r => ?_)
  · replace h : palingref36_taken_L1 a1 a2 s = some q := h; revert h; revert s; intro v3 h
    unfold palingref36_taken_L1 at h
    rcases ite_out h with ⟨h4, h⟩ | ⟨h4, h⟩
    · obtain ⟨x5, h6, h⟩ := bind_out h
      rcases ite_out h with ⟨h7, h⟩ | ⟨h7, h⟩
      · injection h with h; subst h; exact runLp_sound mixedOrders (live := [4]) (ids := []) (π := [.dec true, .row (c165 x5), .dec true]) (hx := by kernel_rfl) (hps := pc (h4) <| pc (ob165 h6) <| pc (h7) <| pn)
      · injection h with h; subst h; exact runLp_sound mixedOrders (live := [1, 2, 4, 5]) (ids := [0]) (π := [.dec true, .row (c165 x5), .dec false]) (hx := by kernel_rfl) (hps := pc (h4) <| pc (ob165 h6) <| pc (h7) <| pn)
    · injection h with h; subst h; exact runLp_sound mixedOrders (live := [4]) (ids := []) (π := [.dec false]) (hx := by kernel_rfl) (hps := pc (h4) <| pn)
  · rcases r with _ | _ <;> exact Ex.noConfusion

theorem k_palingref36_taken {a1 : Api_Net} {a2 : Int} {r : Bool} (h : palingref36_taken a1 a2 = some r) :
    CallsOK Tryz.prog UU 204 [.agg (c31 a1), .v (.int .u32 a2)] [] (.v (.bool r)) [] := by
  unfold palingref36_taken at h
  obtain ⟨r9, h8, h⟩ := bind_out h
  rcases r9 with _ | _
  · injection h with h; subst h; exact runFn_sound mixedOrders Tryz.func204 rfl (keep := none) (π := [.sum [1, 2, 4, 5] [0] .ret [(4, .v (.bool true))] []]) (hrun := by kernel_rfl) (hps := pc (k_palingref36_taken_L1 _ _ h8) <| pn)
  · injection h with h; subst h; exact runFn_sound mixedOrders Tryz.func204 rfl (keep := none) (π := [.sum [1, 2, 4, 5] [0] (.exit 0) [(4, .v (.bool false))] []]) (hrun := by kernel_rfl) (hps := pc (k_palingref36_taken_L1 _ _ h8) <| pn)

theorem k_palingref36_Leads {a1 : Api_Net} {a2 : Int} {a3 : Int} {a4 : Int} {r : Bool} (h : palingref36_Leads a1 a2 a3 a4 = some r) :
    CallsOK Tryz.prog UU 178 [.agg (c31 a1), .v (.int .i64 a2), .v (.int .i64 a3), .v (.int .u32 a4)] [] (.v (.bool r)) [] := by
  unfold palingref36_Leads at h
  obtain ⟨r5, h6, h⟩ := bind_out h
  rcases ite_out h with ⟨h7, h⟩ | ⟨h7, h⟩
  · rcases ite_out h with ⟨h8, h⟩ | ⟨h8, h⟩
    · obtain ⟨r9, h10, h⟩ := bind_out h
      injection h with h; subst h; exact runFn_sound mixedOrders Tryz.func178 rfl (keep := none) (π := [.callv (.tup [.v (.int .i64 r5.1), .v (.bool r5.2)]), .dec true, .dec true, .callv (.v (.bool r9))]) (hrun := by kernel_rfl) (hps := pc (k_palingref30_Lookup h6) <| pc (h7) <| pc (h8) <| pc (k_palingref36_taken h10) <| pn)
    · injection h with h; subst h; exact runFn_sound mixedOrders Tryz.func178 rfl (keep := none) (π := [.callv (.tup [.v (.int .i64 r5.1), .v (.bool r5.2)]), .dec true, .dec false]) (hrun := by kernel_rfl) (hps := pc (k_palingref30_Lookup h6) <| pc (h7) <| pc (h8) <| pn)
  · injection h with h; subst h; exact runFn_sound mixedOrders Tryz.func178 rfl (keep := none) (π := [.callv (.tup [.v (.int .i64 r5.1), .v (.bool r5.2)]), .dec false]) (hrun := by kernel_rfl) (hps := pc (k_palingref30_Lookup h6) <| pc (h7) <| pn)

theorem k_palingref36_Address_L1 {a1 : Api_Net} {a2 : Int} {a3 : Int} : LoopOK Tryz.prog UU 0 98 (subC (codeOf Tryz.f148) [1, 1, 1, 1, 0, 1, 0, 0]) (fun s : (List Int) × Int => match s with | (l14, v15) => palingref36_Address_L1 a1 a2 a3 l14 v15)
    (fun s : (List Int) × Int => (match s with | (l14, v15) => [(1, .v (.int .i64 a2)), (2, .v (.int .i64 a3)), (3, .op 0 1 0 0), (6, .v (.int .u32 0)), (7, .v (.bool false)), (8, .v (.int .i64 (-1))), (9, .os 1 (List.length l14)), (10, .v (.int .i64 v15))] : Fr DD)) (fun s : (List Int) × Int => (match s with | (l14, v15) => [.box 31 (c31 a1) false, .arr 3 l14 (List.length l14) false] : Heap DD)) (fun r => match r with | l31 => .exit 0) (fun r => match r with | l31 => [(1, .v (.int .i64 a2)), (2, .v (.int .i64 a3)), (3, .op 0 1 0 0), (6, .v (.int .u32 0)), (7, .v (.bool false)), (8, .v (.int .i64 (-1))), (9, .os 1 (List.length l31))]) (fun r => match r with | l31 => [.box 31 (c31 a1) false, .arr 3 l31 (List.length l31) false]) := by
  refine loop_sound3 (fun s q h => ?_) (fun r => ?_)
  · obtain ⟨l14, v15⟩ := s; replace h : palingref36_Address_L1 a1 a2 a3 l14 v15 = some q := h
    unfold palingref36_Address_L1 at h
    rcases ite_out h with ⟨h16, h⟩ | ⟨h16, h⟩
    · obtain ⟨x17, h18, h⟩ := bind_out h
      obtain ⟨x19, h20, h⟩ := bind_out h
      obtain ⟨r21, h22, h⟩ := bind_out h
      rcases ite_out h with ⟨h23, h⟩ | ⟨h23, h⟩
      · injection h with h; subst h; exact runLp_sound mixedOrders (live := [1, 2, 3, 6, 7, 8, 9, 10]) (ids := [0, 1]) (π := [.dec true, .row (c165 x17), .row (c165 x19), .callv (.v (.int .u32 r21)), .obj [] (.arr 3 [(wr_i64 ((wr_i64 x17.net.addr) + 1) : Int), (wr_i64 ((wr_i64 r21) + 1) : Int)] (List.length [(wr_i64 ((wr_i64 x17.net.addr) + 1) : Int), (wr_i64 ((wr_i64 r21) + 1) : Int)]) false), .obj [] (.arr 3 (l14 ++ [(wr_i64 ((wr_i64 x17.net.addr) + 1) : Int), (wr_i64 ((wr_i64 r21) + 1) : Int)]) (List.length (l14 ++ [(wr_i64 ((wr_i64 x17.net.addr) + 1) : Int), (wr_i64 ((wr_i64 r21) + 1) : Int)])) false)]) (hx := by kernel_rfl) (hps := pc (h16) <| pc (ob165 h18) <| pc (ob165 h20) <| pc (k_palingref02_Last h22) <| pc (bs_ob 3 [(wr_i64 ((wr_i64 x17.net.addr) + 1) : Int), (wr_i64 ((wr_i64 r21) + 1) : Int)]) <| pc (app_ob 3 (n := (List.length l14)) (l := l14) (xs := [(wr_i64 ((wr_i64 x17.net.addr) + 1) : Int), (wr_i64 ((wr_i64 r21) + 1) : Int)]) h23) <| pn)
      · cases h
    · injection h with h; subst h; exact runLp_sound mixedOrders (live := [1, 2, 3, 6, 7, 8, 9]) (ids := [0, 1]) (π := [.dec false]) (hx := by kernel_rfl) (hps := pc (h16) <| pn)
  · exact Ex.noConfusion

theorem k_palingref36_Address_L2 {a1 : Api_Net} {a2 : Int} {a3 : Int} {l31 : List Int} : LoopOK Tryz.prog UU 0 98 (subC (codeOf Tryz.f148) [1, 1, 1, 1, 1, 0, 1, 0, 0]) (fun s : Int × Int => match s with | (v34, v35) => palingref36_Address_L2 a1 a2 a3 l31 v34 v35)
    (fun s : Int × Int => (match s with | (v34, v35) => [(1, .v (.int .i64 a2)), (2, .v (.int .i64 a3)), (3, .op 0 1 0 0), (6, .v (.int .u32 0)), (7, .v (.bool false)), (8, .v (.int .i64 v34)), (9, .os 1 (List.length l31)), (11, .v (.int .i64 v35))] : Fr DD)) (fun s : Int × Int => (match s with | (v34, v35) => [.box 31 (c31 a1) false, .arr 3 l31 (List.length l31) false] : Heap DD)) (fun r => match r with | v50 => .exit 2) (fun r => match r with | v50 => [(6, .v (.int .u32 0)), (7, .v (.bool false)), (8, .v (.int .i64 v50))]) (fun r => match r with | v50 => []) := by
  refine loop_sound3 (fun s q h => ?_) (fun r => ?_)
  · obtain ⟨v34, v35⟩ := s; replace h : palingref36_Address_L2 a1 a2 a3 l31 v34 v35 = some q := h
    unfold palingref36_Address_L2 at h
    rcases ite_out h with ⟨h36, h⟩ | ⟨h36, h⟩
    · rcases ite_out h with ⟨h37, h⟩ | ⟨h37, h⟩
      · obtain ⟨x38, h39, h⟩ := bind_out h
        rcases ite_out h with ⟨h40, h⟩ | ⟨h40, h⟩
        · rcases ite_out h with ⟨h41, h⟩ | ⟨h41, h⟩
          · obtain ⟨r42, h43, h⟩ := bind_out h
            rcases ite_out h with ⟨h44, h⟩ | ⟨h44, h⟩
            · injection h with h; subst h; exact runLp_sound mixedOrders (live := [1, 2, 3, 6, 7, 8, 9, 11]) (ids := [0, 1]) (π := [.dec true, .row (c3 x38), .dec true, .dec true, .callv (.v (.bool r42)), .dec true]) (hx := by kernel_rfl) (hps := pc ((rfl : ((List.length l31) : Nat) = (List.length l31))) <| pc (h36) <| pc (And.intro (rfl : ((List.length l31) : Nat) = (List.length l31)) (lin_ob h37)) <| pc (And.intro (rfl : ((List.length l31) : Nat) = (List.length l31)) (obn3 h39)) <| pc (h40) <| pc (h41) <| pc (k_palingref36_Leads h43) <| pc (h44) <| pn)
            · injection h with h; subst h; exact runLp_sound mixedOrders (live := [1, 2, 3, 6, 7, 8, 9, 11]) (ids := [0, 1]) (π := [.dec true, .row (c3 x38), .dec true, .dec true, .callv (.v (.bool r42)), .dec false]) (hx := by kernel_rfl) (hps := pc ((rfl : ((List.length l31) : Nat) = (List.length l31))) <| pc (h36) <| pc (And.intro (rfl : ((List.length l31) : Nat) = (List.length l31)) (lin_ob h37)) <| pc (And.intro (rfl : ((List.length l31) : Nat) = (List.length l31)) (obn3 h39)) <| pc (h40) <| pc (h41) <| pc (k_palingref36_Leads h43) <| pc (h44) <| pn)
          · rcases ite_out h with ⟨h45, h⟩ | ⟨h45, h⟩
            · obtain ⟨r46, h47, h⟩ := bind_out h
              rcases ite_out h with ⟨h48, h⟩ | ⟨h48, h⟩
              · injection h with h; subst h; exact runLp_sound mixedOrders (live := [1, 2, 3, 6, 7, 8, 9, 11]) (ids := [0, 1]) (π := [.dec true, .row (c3 x38), .dec true, .dec false, .dec true, .callv (.v (.bool r46)), .dec true]) (hx := by kernel_rfl) (hps := pc ((rfl : ((List.length l31) : Nat) = (List.length l31))) <| pc (h36) <| pc (And.intro (rfl : ((List.length l31) : Nat) = (List.length l31)) (lin_ob h37)) <| pc (And.intro (rfl : ((List.length l31) : Nat) = (List.length l31)) (obn3 h39)) <| pc (h40) <| pc (h41) <| pc (h45) <| pc (k_palingref36_Leads h47) <| pc (h48) <| pn)
              · injection h with h; subst h; exact runLp_sound mixedOrders (live := [1, 2, 3, 6, 7, 8, 9, 11]) (ids := [0, 1]) (π := [.dec true, .row (c3 x38), .dec true, .dec false, .dec true, .callv (.v (.bool r46)), .dec false]) (hx := by kernel_rfl) (hps := pc ((rfl : ((List.length l31) : Nat) = (List.length l31))) <| pc (h36) <| pc (And.intro (rfl : ((List.length l31) : Nat) = (List.length l31)) (lin_ob h37)) <| pc (And.intro (rfl : ((List.length l31) : Nat) = (List.length l31)) (obn3 h39)) <| pc (h40) <| pc (h41) <| pc (h45) <| pc (k_palingref36_Leads h47) <| pc (h48) <| pn)
            · injection h with h; subst h; exact runLp_sound mixedOrders (live := [1, 2, 3, 6, 7, 8, 9, 11]) (ids := [0, 1]) (π := [.dec true, .row (c3 x38), .dec true, .dec false, .dec false]) (hx := by kernel_rfl) (hps := pc ((rfl : ((List.length l31) : Nat) = (List.length l31))) <| pc (h36) <| pc (And.intro (rfl : ((List.length l31) : Nat) = (List.length l31)) (lin_ob h37)) <| pc (And.intro (rfl : ((List.length l31) : Nat) = (List.length l31)) (obn3 h39)) <| pc (h40) <| pc (h41) <| pc (h45) <| pn)
        · injection h with h; subst h; exact runLp_sound mixedOrders (live := [1, 2, 3, 6, 7, 8, 9, 11]) (ids := [0, 1]) (π := [.dec true, .row (c3 x38), .dec false]) (hx := by kernel_rfl) (hps := pc ((rfl : ((List.length l31) : Nat) = (List.length l31))) <| pc (h36) <| pc (And.intro (rfl : ((List.length l31) : Nat) = (List.length l31)) (lin_ob h37)) <| pc (And.intro (rfl : ((List.length l31) : Nat) = (List.length l31)) (obn3 h39)) <| pc (h40) <| pn)
      · cases h
    · injection h with h; subst h; exact runLp_sound mixedOrders (live := [6, 7, 8]) (ids := []) (π := [.dec false]) (hx := by kernel_rfl) (hps := pc ((rfl : ((List.length l31) : Nat) = (List.length l31))) <| pc (h36) <| pn)
  · exact Ex.noConfusion

theorem k_palingref36_Address {a1 : Api_Net} {a2 : Int} {a3 : Int} {r : Int × Bool} (h : palingref36_Address a1 a2 a3 = some r) :
    CallsOK Tryz.prog UU 148 [.agg (c31 a1), .v (.int .i64 a2), .v (.int .i64 a3)] [] (.tup [.v (.int .u32 r.1), .v (.bool r.2)]) [] := by
  unfold palingref36_Address at h
  obtain ⟨r4, h5, h⟩ := bind_out h
  rcases ite_out h with ⟨h6, h⟩ | ⟨h6, h⟩
  · injection h with h; subst h; exact runFn_sound mixedOrders Tryz.func148 rfl (keep := none) (π := [.callv (.v (.bool r4)), .dec true]) (hrun := by kernel_rfl) (hps := pc (k_palingref15_Place h5) <| pc (h6) <| pn)
  · obtain ⟨r7, h8, h⟩ := bind_out h
    rcases ite_out h with ⟨h9, h⟩ | ⟨h9, h⟩
    · injection h with h; subst h; exact runFn_sound mixedOrders Tryz.func148 rfl (keep := none) (π := [.callv (.v (.bool r4)), .dec false, .callv (.v (.bool r7)), .dec true]) (hrun := by kernel_rfl) (hps := pc (k_palingref15_Place h5) <| pc (h6) <| pc (k_palingref15_Place h8) <| pc (h9) <| pn)
    · obtain ⟨x10, h11, h⟩ := bind_out h
      obtain ⟨r12, h13, h⟩ := bind_out h
      obtain ⟨l31, h32, h⟩ := bind_out h
      obtain ⟨v50, h51, h⟩ := bind_out h
      rcases ite_out h with ⟨h53, h⟩ | ⟨h53, h⟩
      · injection h with h; subst h; exact runFn_sound mixedOrders Tryz.func148 rfl (keep := none) (π := [.callv (.v (.bool r4)), .dec false, .callv (.v (.bool r7)), .dec false, .row (c165 x10), .callv (.v (.int .u32 r12)), .obj [] (.arr 3 [(wr_i64 r12 : Int)] (List.length [(wr_i64 r12 : Int)]) false), .sum [1, 2, 3, 6, 7, 8, 9, 10] [0, 1] (.exit 0) [(1, .v (.int .i64 a2)), (2, .v (.int .i64 a3)), (3, .op 0 1 0 0), (6, .v (.int .u32 0)), (7, .v (.bool false)), (8, .v (.int .i64 (-1))), (9, .os 1 (List.length l31))] [.box 31 (c31 a1) false, .arr 3 l31 (List.length l31) false], .sum [1, 2, 3, 6, 7, 8, 9, 11] [0, 1] (.exit 2) [(6, .v (.int .u32 0)), (7, .v (.bool false)), (8, .v (.int .i64 v50))] [], .dec true]) (hrun := by kernel_rfl) (hps := pc (k_palingref15_Place h5) <| pc (h6) <| pc (k_palingref15_Place h8) <| pc (h9) <| pc (ob165 h11) <| pc (k_palingref02_First h13) <| pc (bs_ob 3 [(wr_i64 r12 : Int)]) <| pc (k_palingref36_Address_L1 _ _ h32) <| pc (k_palingref36_Address_L2 _ _ h51) <| pc (h53) <| pn)
      · injection h with h; subst h; exact runFn_sound mixedOrders Tryz.func148 rfl (keep := none) (π := [.callv (.v (.bool r4)), .dec false, .callv (.v (.bool r7)), .dec false, .row (c165 x10), .callv (.v (.int .u32 r12)), .obj [] (.arr 3 [(wr_i64 r12 : Int)] (List.length [(wr_i64 r12 : Int)]) false), .sum [1, 2, 3, 6, 7, 8, 9, 10] [0, 1] (.exit 0) [(1, .v (.int .i64 a2)), (2, .v (.int .i64 a3)), (3, .op 0 1 0 0), (6, .v (.int .u32 0)), (7, .v (.bool false)), (8, .v (.int .i64 (-1))), (9, .os 1 (List.length l31))] [.box 31 (c31 a1) false, .arr 3 l31 (List.length l31) false], .sum [1, 2, 3, 6, 7, 8, 9, 11] [0, 1] (.exit 2) [(6, .v (.int .u32 0)), (7, .v (.bool false)), (8, .v (.int .i64 v50))] [], .dec false]) (hrun := by kernel_rfl) (hps := pc (k_palingref15_Place h5) <| pc (h6) <| pc (k_palingref15_Place h8) <| pc (h9) <| pc (ob165 h11) <| pc (k_palingref02_First h13) <| pc (bs_ob 3 [(wr_i64 r12 : Int)]) <| pc (k_palingref36_Address_L1 _ _ h32) <| pc (k_palingref36_Address_L2 _ _ h51) <| pc (h53) <| pn)

theorem k_palingref36_Routes_L1 {a1 : Api_Net} {a2 : Int} : LoopOK Tryz.prog UU 0 57 (subC (codeOf Tryz.f91) [1, 1, 1, 0, 1, 0, 0]) (fun s : (List Palingref36_Lead) × Int => match s with | (l9, v10) => palingref36_Routes_L1 a1 a2 l9 v10)
    (fun s : (List Palingref36_Lead) × Int => (match s with | (l9, v10) => [(1, .v (.int .i64 a2)), (2, .op 0 1 0 0), (4, .os 1 0), (5, .os 2 (List.length l9)), (6, .v (.int .i64 v10))] : Fr DD)) (fun s : (List Palingref36_Lead) × Int => (match s with | (l9, v10) => [.box 31 (c31 a1) false, .n 139, .arr 139 l9 (List.length l9) false] : Heap DD)) (fun r => match r with | l22 => .exit 0) (fun r => match r with | l22 => [(4, .os 0 0), (5, .os 1 (List.length l22))]) (fun r => match r with | l22 => [.n 139, .arr 139 l22 (List.length l22) false]) := by
  refine loop_sound3 (fun s q h => ?_) (fun r => ?_)
  · obtain ⟨l9, v10⟩ := s; replace h : palingref36_Routes_L1 a1 a2 l9 v10 = some q := h
    unfold palingref36_Routes_L1 at h
    rcases ite_out h with ⟨h11, h⟩ | ⟨h11, h⟩
    · obtain ⟨x12, h13, h⟩ := bind_out h
      obtain ⟨r14, h15, h⟩ := bind_out h
      rcases ite_out h with ⟨h16, h⟩ | ⟨h16, h⟩
      · obtain ⟨x17, h18, h⟩ := bind_out h
        rcases ite_out h with ⟨h19, h⟩ | ⟨h19, h⟩
        · injection h with h; subst h; exact runLp_sound mixedOrders (live := [1, 2, 4, 5, 6]) (ids := [0, 1, 2]) (π := [.dec true, .row (c67 x12), .callv (.tup [.v (.int .u32 r14.1), .v (.bool r14.2)]), .dec true, .row (c165 x17), .obj [] (.arr 139 [(⟨v10, x17.domain, r14.1⟩ : Palingref36_Lead)] (List.length [(⟨v10, x17.domain, r14.1⟩ : Palingref36_Lead)]) false), .obj [] (.arr 139 (l9 ++ [(⟨v10, x17.domain, r14.1⟩ : Palingref36_Lead)]) (List.length (l9 ++ [(⟨v10, x17.domain, r14.1⟩ : Palingref36_Lead)])) false)]) (hx := by kernel_rfl) (hps := pc (h11) <| pc (ob67 h13) <| pc (k_palingref36_Address h15) <| pc (h16) <| pc (ob165 h18) <| pc (bs_ob 139 [(⟨v10, x17.domain, r14.1⟩ : Palingref36_Lead)]) <| pc (app_ob 139 (n := (List.length l9)) (l := l9) (xs := [(⟨v10, x17.domain, r14.1⟩ : Palingref36_Lead)]) h19) <| pc ((rfl : ((List.length [(⟨v10, x17.domain, r14.1⟩ : Palingref36_Lead)]) : Nat) = (List.length [(⟨v10, x17.domain, r14.1⟩ : Palingref36_Lead)]))) <| pn)
        · cases h
      · injection h with h; subst h; exact runLp_sound mixedOrders (live := [1, 2, 4, 5, 6]) (ids := [0, 1, 2]) (π := [.dec true, .row (c67 x12), .callv (.tup [.v (.int .u32 r14.1), .v (.bool r14.2)]), .dec false]) (hx := by kernel_rfl) (hps := pc (h11) <| pc (ob67 h13) <| pc (k_palingref36_Address h15) <| pc (h16) <| pn)
    · injection h with h; subst h; exact runLp_sound mixedOrders (live := [4, 5]) (ids := [1, 2]) (π := [.dec false]) (hx := by kernel_rfl) (hps := pc (h11) <| pn)
  · exact Ex.noConfusion

theorem k_palingref36_Routes {a1 : Api_Net} {a2 : Int} {r : ((List Palingref36_Lead))} (h : palingref36_Routes a1 a2 = some r) :
    CallsOK Tryz.prog UU 91 [.agg (c31 a1), .v (.int .i64 a2)] [] ((fun r => match r with | l25 => .os 0 (List.length l25)) r) ((fun r => match r with | l25 => [.arr 139 l25 (List.length l25) false]) r) := by
  unfold palingref36_Routes at h
  obtain ⟨r3, h4, h⟩ := bind_out h
  rcases ite_out h with ⟨h5, h⟩ | ⟨h5, h⟩
  · injection h with h; subst h; exact runFn_sound mixedOrders Tryz.func91 rfl (keep := some [2]) (π := [.callv (.v (.bool r3)), .dec true]) (hrun := by kernel_rfl) (hps := pc (k_palingref15_Place h4) <| pc (h5) <| pn)
  · obtain ⟨x6, h7, h⟩ := bind_out h
    rcases ite_out h with ⟨h8, h⟩ | ⟨h8, h⟩
    · injection h with h; subst h; exact runFn_sound mixedOrders Tryz.func91 rfl (keep := some [2]) (π := [.callv (.v (.bool r3)), .dec false, .row (c67 x6), .dec true]) (hrun := by kernel_rfl) (hps := pc (k_palingref15_Place h4) <| pc (h5) <| pc (ob67 h7) <| pc (h8) <| pn)
    · obtain ⟨l22, h23, h⟩ := bind_out h
      injection h with h; subst h; exact runFn_sound mixedOrders Tryz.func91 rfl (keep := some [1]) (π := [.callv (.v (.bool r3)), .dec false, .row (c67 x6), .dec false, .sum [1, 2, 4, 5, 6] [0, 1, 2] (.exit 0) [(4, .os 0 0), (5, .os 1 (List.length l22))] [.n 139, .arr 139 l22 (List.length l22) false]]) (hrun := by kernel_rfl) (hps := pc (k_palingref15_Place h4) <| pc (h5) <| pc (ob67 h7) <| pc (h8) <| pc (k_palingref36_Routes_L1 _ _ h23) <| pn)

theorem k_palingref42_reached_L2 {a1 : Api_Net} {a2 : List Int} {a3 : Int} {v6 : Int} {l10 : List Int} : LoopOK Tryz.prog UU 0 174 (subC (codeOf Tryz.f43) [1, 1, 1, 0, 1, 0, 0, 1, 0, 0, 1, 1, 0, 0]) (fun s : (List Bool) × Int => match s with | (l11, v12) => palingref42_reached_L2 a1 a2 a3 v6 l10 l11 v12)
    (fun s : (List Bool) × Int => (match s with | (l11, v12) => [(1, .sl 3 a2), (2, .v (.int .i64 a3)), (3, .op 0 1 0 0), (6, .os 1 0), (7, .os 2 0), (8, .os 3 (Int.toNat (a1.domains.length : Int))), (9, .os 4 (Int.toNat (a1.domains.length : Int))), (10, .v (.int .i64 v6)), (11, .os 5 (List.length l10)), (12, .v (.int .i64 v12))] : Fr DD)) (fun s : (List Bool) × Int => (match s with | (l11, v12) => [.box 31 (c31 a1) false, .n 4, .n 4, .arr 4 l11 (Int.toNat (a1.domains.length : Int)) false, .arr 4 (List.replicate (Int.toNat (a1.domains.length : Int)) false) (Int.toNat (a1.domains.length : Int)) false, .arr 3 l10 (List.length l10) false] : Heap DD)) (fun r => match r with | l35 => .exit 2) (fun r => match r with | l35 => [(1, .sl 3 a2), (2, .v (.int .i64 a3)), (3, .op 0 1 0 0), (6, .os 1 0), (7, .os 2 0), (8, .os 3 (Int.toNat (a1.domains.length : Int))), (9, .os 4 (Int.toNat (a1.domains.length : Int))), (10, .v (.int .i64 v6))]) (fun r => match r with | l35 => [.box 31 (c31 a1) false, .n 4, .n 4, .arr 4 l35 (Int.toNat (a1.domains.length : Int)) false, .arr 4 (List.replicate (Int.toNat (a1.domains.length : Int)) false) (Int.toNat (a1.domains.length : Int)) false]) := by
  refine loop_sound3 (fun s q h => ?_) (fun r => ?_)
  · obtain ⟨l11, v12⟩ := s; replace h : palingref42_reached_L2 a1 a2 a3 v6 l10 l11 v12 = some q := h
    unfold palingref42_reached_L2 at h
    rcases ite_out h with ⟨h13, h⟩ | ⟨h13, h⟩
    · rcases ite_out h with ⟨h14, h⟩ | ⟨h14, h⟩
      · obtain ⟨x15, h16, h⟩ := bind_out h
        rcases ite_out h with ⟨h17, h⟩ | ⟨h17, h⟩
        · obtain ⟨x18, h19, h⟩ := bind_out h
          injection h with h; subst h; exact runLp_sound mixedOrders (live := [1, 2, 3, 6, 7, 8, 9, 10, 11, 12]) (ids := [0, 1, 2, 3, 4, 5]) (π := [.dec true, .row (c4 x15), .dec true, .row (c4 x18), .obj [] (.arr 4 (List.set l11 (Int.toNat v6) true) (Int.toNat (a1.domains.length : Int)) false)]) (hx := by kernel_rfl) (hps := pc ((rfl : ((List.length l10) : Nat) = (List.length l10))) <| pc (h13) <| pc (And.intro (rfl : ((Int.toNat (a1.domains.length : Int)) : Nat) = (Int.toNat (a1.domains.length : Int))) (lin_ob h14)) <| pc (And.intro (rfl : ((Int.toNat (a1.domains.length : Int)) : Nat) = (Int.toNat (a1.domains.length : Int))) (obn4 h16)) <| pc (h17) <| pc (And.intro (rfl : ((Int.toNat (a1.domains.length : Int)) : Nat) = (Int.toNat (a1.domains.length : Int))) (lin_ob h14)) <| pc (st_ob (e := 4) (n := (Int.toNat (a1.domains.length : Int))) (l := l11) (i := (Int.toNat v6)) true [.v (.bool true)] (obn4 h19) rfl) <| pn)
        · rcases ite_out h with ⟨h20, h⟩ | ⟨h20, h⟩
          · obtain ⟨x21, h22, h⟩ := bind_out h
            obtain ⟨x23, h24, h⟩ := bind_out h
            obtain ⟨x25, h26, h⟩ := bind_out h
            injection h with h; subst h; exact runLp_sound mixedOrders (live := [1, 2, 3, 6, 7, 8, 9, 10, 11, 12]) (ids := [0, 1, 2, 3, 4, 5]) (π := [.dec true, .row (c4 x15), .dec false, .row (c3 x21), .row (c3 x23), .row (c4 x25), .obj [] (.arr 4 (List.set l11 (Int.toNat v6) (x23 == a3)) (Int.toNat (a1.domains.length : Int)) false)]) (hx := by kernel_rfl) (hps := pc ((rfl : ((List.length l10) : Nat) = (List.length l10))) <| pc (h13) <| pc (And.intro (rfl : ((Int.toNat (a1.domains.length : Int)) : Nat) = (Int.toNat (a1.domains.length : Int))) (lin_ob h14)) <| pc (And.intro (rfl : ((Int.toNat (a1.domains.length : Int)) : Nat) = (Int.toNat (a1.domains.length : Int))) (obn4 h16)) <| pc (h17) <| pc (And.intro (rfl : ((List.length l10) : Nat) = (List.length l10)) (lin_ob h20)) <| pc (And.intro (rfl : ((List.length l10) : Nat) = (List.length l10)) (obn3 h22)) <| pc (ob3 h24) <| pc (And.intro (rfl : ((Int.toNat (a1.domains.length : Int)) : Nat) = (Int.toNat (a1.domains.length : Int))) (lin_ob h14)) <| pc (st_ob (e := 4) (n := (Int.toNat (a1.domains.length : Int))) (l := l11) (i := (Int.toNat v6)) (x23 == a3) [.v (.bool (x23 == a3))] (obn4 h26) rfl) <| pn)
          · cases h
      · cases h
    · injection h with h; subst h; exact runLp_sound mixedOrders (live := [1, 2, 3, 6, 7, 8, 9, 10]) (ids := [0, 1, 2, 3, 4]) (π := [.dec false]) (hx := by kernel_rfl) (hps := pc ((rfl : ((List.length l10) : Nat) = (List.length l10))) <| pc (h13) <| pn)
  · exact Ex.noConfusion

theorem k_palingref42_reached_L1 {a1 : Api_Net} {a2 : List Int} {a3 : Int} : LoopOK Tryz.prog UU 0 174 (subC (codeOf Tryz.f43) [1, 1, 1, 0, 1, 0, 0]) (fun s : (List Bool) × Int => match s with | (l5, v6) => palingref42_reached_L1 a1 a2 a3 l5 v6)
    (fun s : (List Bool) × Int => (match s with | (l5, v6) => [(1, .sl 3 a2), (2, .v (.int .i64 a3)), (3, .op 0 1 0 0), (6, .os 1 0), (7, .os 2 0), (8, .os 3 (Int.toNat (a1.domains.length : Int))), (9, .os 4 (Int.toNat (a1.domains.length : Int))), (10, .v (.int .i64 v6))] : Fr DD)) (fun s : (List Bool) × Int => (match s with | (l5, v6) => [.box 31 (c31 a1) false, .n 4, .n 4, .arr 4 l5 (Int.toNat (a1.domains.length : Int)) false, .arr 4 (List.replicate (Int.toNat (a1.domains.length : Int)) false) (Int.toNat (a1.domains.length : Int)) false] : Heap DD)) (fun r => match r with | l43 => .exit 0) (fun r => match r with | l43 => [(3, .op 0 1 0 0), (6, .os 1 0), (7, .os 2 0), (8, .os 3 (Int.toNat (a1.domains.length : Int))), (9, .os 4 (Int.toNat (a1.domains.length : Int)))]) (fun r => match r with | l43 => [.box 31 (c31 a1) false, .n 4, .n 4, .arr 4 l43 (Int.toNat (a1.domains.length : Int)) false, .arr 4 (List.replicate (Int.toNat (a1.domains.length : Int)) false) (Int.toNat (a1.domains.length : Int)) false]) := by
  refine loop_sound3 (fun s q h => ?_) (fun r => ?_)
  · obtain ⟨l5, v6⟩ := s; replace h : palingref42_reached_L1 a1 a2 a3 l5 v6 = some q := h
    unfold palingref42_reached_L1 at h
    rcases ite_out h with ⟨h7, h⟩ | ⟨h7, h⟩
    · obtain ⟨l10, h9, h⟩ := bind_out h
      obtain ⟨l35, h36, h⟩ := bind_out h
      injection h with h; subst h; exact runLp_sound mixedOrders (live := [1, 2, 3, 6, 7, 8, 9, 10]) (ids := [0, 1, 2, 3, 4]) (π := [.dec true, .callo (.os 0 (List.length l10)) [.arr 3 l10 (List.length l10) false], .sum [1, 2, 3, 6, 7, 8, 9, 10, 11, 12] [0, 1, 2, 3, 4, 5] (.exit 2) [(1, .sl 3 a2), (2, .v (.int .i64 a3)), (3, .op 0 1 0 0), (6, .os 1 0), (7, .os 2 0), (8, .os 3 (Int.toNat (a1.domains.length : Int))), (9, .os 4 (Int.toNat (a1.domains.length : Int))), (10, .v (.int .i64 v6))] [.box 31 (c31 a1) false, .n 4, .n 4, .arr 4 l35 (Int.toNat (a1.domains.length : Int)) false, .arr 4 (List.replicate (Int.toNat (a1.domains.length : Int)) false) (Int.toNat (a1.domains.length : Int)) false]]) (hx := by kernel_rfl) (hps := pc (h7) <| pc (k_palingref15_Members h9) <| pc (im3 l10) <| pc (k_palingref42_reached_L2 _ _ h36) <| pn)
    · injection h with h; subst h; exact runLp_sound mixedOrders (live := [3, 6, 7, 8, 9]) (ids := [0, 1, 2, 3, 4]) (π := [.dec false]) (hx := by kernel_rfl) (hps := pc (h7) <| pn)
  · exact Ex.noConfusion

theorem k_palingref42_reached_J6 {a1 : Api_Net} {v48 : Int} {v52 : Int} {l56 : List Palingref35_Hop} {l57 : List Bool} {l58 : List Bool} {v59 : Int} {r : (List Bool)} (h : palingref42_reached_J6 a1 v48 v52 l56 l57 l58 v59 = some r) :
    ExecOK Tryz.prog UU 0 174 (subC (codeOf Tryz.f43) [1, 1, 1, 1, 0, 1, 0, 0, 1, 0, 0, 0, 1, 0, 0, 1, 0, 0, 1, 1, 0, 0, 1, 0, 0, 0]) [(3, .op 0 1 0 0), (6, .os 1 0), (7, .os 2 0), (8, .os 3 (Int.toNat (a1.domains.length : Int))), (9, .os 4 (Int.toNat (a1.domains.length : Int))), (13, .v (.int .i64 v48)), (14, .v (.int .i64 v52)), (15, .os 5 (List.length l56)), (16, .v (.int .i64 v59))] [.box 31 (c31 a1) false, .n 4, .n 4, .arr 4 l57 (Int.toNat (a1.domains.length : Int)) false, .arr 4 l58 (Int.toNat (a1.domains.length : Int)) false, .arr 135 l56 (List.length l56) false] ((fun r => match r with | l88 => .nor) r) ((fun r => match r with | l88 => [(3, .op 0 1 0 0), (6, .os 1 0), (7, .os 2 0), (8, .os 3 (Int.toNat (a1.domains.length : Int))), (9, .os 4 (Int.toNat (a1.domains.length : Int))), (13, .v (.int .i64 v48)), (14, .v (.int .i64 v52)), (15, .os 5 (List.length l56)), (16, .v (.int .i64 v59))]) r) ((fun r => match r with | l88 => [.box 31 (c31 a1) false, .n 4, .n 4, .arr 4 l88 (Int.toNat (a1.domains.length : Int)) false, .arr 4 l58 (Int.toNat (a1.domains.length : Int)) false, .arr 135 l56 (List.length l56) false]) r) := by
  unfold palingref42_reached_J6 at h
  rcases ite_out h with ⟨h61, h⟩ | ⟨h61, h⟩
  · obtain ⟨x62, h63, h⟩ := bind_out h
    obtain ⟨x64, h65, h⟩ := bind_out h
    rcases ite_out h with ⟨h66, h⟩ | ⟨h66, h⟩
    · obtain ⟨x67, h68, h⟩ := bind_out h
      rcases ite_out h with ⟨h69, h⟩ | ⟨h69, h⟩
      · rcases ite_out h with ⟨h70, h⟩ | ⟨h70, h⟩
        · obtain ⟨x71, h72, h⟩ := bind_out h
          injection h with h; subst h; exact runLp_sound mixedOrders (live := [3, 6, 7, 8, 9, 13, 14, 15, 16]) (ids := [0, 1, 2, 3, 4, 5]) (π := [.row (c135 x62), .row (c135 x64), .row (c4 x67), .dec true, .row (c4 x71), .obj [] (.arr 4 (List.set l57 (Int.toNat x62.domain) true) (Int.toNat (a1.domains.length : Int)) false)]) (hx := by kernel_rfl) (hps := pc (And.intro (rfl : ((List.length l56) : Nat) = (List.length l56)) (lin_ob h61)) <| pc ((rfl : ((List.length l56) : Nat) = (List.length l56))) <| pc (And.intro (rfl : ((List.length l56) : Nat) = (List.length l56)) (obn135 h63)) <| pc (And.intro (rfl : ((List.length l56) : Nat) = (List.length l56)) (lin_ob h61)) <| pc ((rfl : ((List.length l56) : Nat) = (List.length l56))) <| pc (And.intro (rfl : ((List.length l56) : Nat) = (List.length l56)) (obn135 h65)) <| pc (And.intro (rfl : ((Int.toNat (a1.domains.length : Int)) : Nat) = (Int.toNat (a1.domains.length : Int))) (lin_ob h66)) <| pc (And.intro (rfl : ((Int.toNat (a1.domains.length : Int)) : Nat) = (Int.toNat (a1.domains.length : Int))) (obn4 h68)) <| pc (h69) <| pc (And.intro (rfl : ((Int.toNat (a1.domains.length : Int)) : Nat) = (Int.toNat (a1.domains.length : Int))) (lin_ob h70)) <| pc (st_ob (e := 4) (n := (Int.toNat (a1.domains.length : Int))) (l := l57) (i := (Int.toNat x62.domain)) true [.v (.bool true)] (obn4 h72) rfl) <| pn)
        · cases h
      · rcases ite_out h with ⟨h73, h⟩ | ⟨h73, h⟩
        · obtain ⟨x74, h75, h⟩ := bind_out h
          rcases ite_out h with ⟨h76, h⟩ | ⟨h76, h⟩
          · obtain ⟨x77, h78, h⟩ := bind_out h
            injection h with h; subst h; exact runLp_sound mixedOrders (live := [3, 6, 7, 8, 9, 13, 14, 15, 16]) (ids := [0, 1, 2, 3, 4, 5]) (π := [.row (c135 x62), .row (c135 x64), .row (c4 x67), .dec false, .row (c4 x74), .row (c4 x77), .obj [] (.arr 4 (List.set l57 (Int.toNat x62.domain) x74) (Int.toNat (a1.domains.length : Int)) false)]) (hx := by kernel_rfl) (hps := pc (And.intro (rfl : ((List.length l56) : Nat) = (List.length l56)) (lin_ob h61)) <| pc ((rfl : ((List.length l56) : Nat) = (List.length l56))) <| pc (And.intro (rfl : ((List.length l56) : Nat) = (List.length l56)) (obn135 h63)) <| pc (And.intro (rfl : ((List.length l56) : Nat) = (List.length l56)) (lin_ob h61)) <| pc ((rfl : ((List.length l56) : Nat) = (List.length l56))) <| pc (And.intro (rfl : ((List.length l56) : Nat) = (List.length l56)) (obn135 h65)) <| pc (And.intro (rfl : ((Int.toNat (a1.domains.length : Int)) : Nat) = (Int.toNat (a1.domains.length : Int))) (lin_ob h66)) <| pc (And.intro (rfl : ((Int.toNat (a1.domains.length : Int)) : Nat) = (Int.toNat (a1.domains.length : Int))) (obn4 h68)) <| pc (h69) <| pc (And.intro (rfl : ((Int.toNat (a1.domains.length : Int)) : Nat) = (Int.toNat (a1.domains.length : Int))) (lin_ob h73)) <| pc (And.intro (rfl : ((Int.toNat (a1.domains.length : Int)) : Nat) = (Int.toNat (a1.domains.length : Int))) (obn4 h75)) <| pc (And.intro (rfl : ((Int.toNat (a1.domains.length : Int)) : Nat) = (Int.toNat (a1.domains.length : Int))) (lin_ob h76)) <| pc (st_ob (e := 4) (n := (Int.toNat (a1.domains.length : Int))) (l := l57) (i := (Int.toNat x62.domain)) x74 [.v (.bool x74)] (obn4 h78) rfl) <| pn)
          · cases h
        · cases h
    · cases h
  · cases h

theorem k_palingref42_reached_L5 {a1 : Api_Net} {v48 : Int} {v52 : Int} {l56 : List Palingref35_Hop} : LoopOK Tryz.prog UU 0 174 (subC (codeOf Tryz.f43) [1, 1, 1, 1, 0, 1, 0, 0, 1, 0, 0, 0, 1, 0, 0, 1, 0, 0, 1, 1, 0, 0]) (fun s : (List Bool) × (List Bool) × Int => match s with | (l57, l58, v59) => palingref42_reached_L5 a1 v48 v52 l56 l57 l58 v59)
    (fun s : (List Bool) × (List Bool) × Int => (match s with | (l57, l58, v59) => [(3, .op 0 1 0 0), (6, .os 1 0), (7, .os 2 0), (8, .os 3 (Int.toNat (a1.domains.length : Int))), (9, .os 4 (Int.toNat (a1.domains.length : Int))), (13, .v (.int .i64 v48)), (14, .v (.int .i64 v52)), (15, .os 5 (List.length l56)), (16, .v (.int .i64 v59))] : Fr DD)) (fun s : (List Bool) × (List Bool) × Int => (match s with | (l57, l58, v59) => [.box 31 (c31 a1) false, .n 4, .n 4, .arr 4 l57 (Int.toNat (a1.domains.length : Int)) false, .arr 4 l58 (Int.toNat (a1.domains.length : Int)) false, .arr 135 l56 (List.length l56) false] : Heap DD)) (fun r => match r with | (l123, l124) => .exit 8) (fun r => match r with | (l123, l124) => [(3, .op 0 1 0 0), (6, .os 1 0), (7, .os 2 0), (8, .os 3 (Int.toNat (a1.domains.length : Int))), (9, .os 4 (Int.toNat (a1.domains.length : Int))), (13, .v (.int .i64 v48)), (14, .v (.int .i64 v52))]) (fun r => match r with | (l123, l124) => [.box 31 (c31 a1) false, .n 4, .n 4, .arr 4 l123 (Int.toNat (a1.domains.length : Int)) false, .arr 4 l124 (Int.toNat (a1.domains.length : Int)) false]) := by
  refine loop_sound3 (fun s q h => ?_) (fun r => ?_)
  · obtain ⟨l57, l58, v59⟩ := s; replace h : palingref42_reached_L5 a1 v48 v52 l56 l57 l58 v59 = some q := h
    unfold palingref42_reached_L5 at h
    rcases ite_out h with ⟨h60, h⟩ | ⟨h60, h⟩
    · obtain ⟨l88, h89, h⟩ := bind_out h
      rcases ite_out h with ⟨h91, h⟩ | ⟨h91, h⟩
      · obtain ⟨x92, h93, h⟩ := bind_out h
        obtain ⟨x94, h95, h⟩ := bind_out h
        rcases ite_out h with ⟨h96, h⟩ | ⟨h96, h⟩
        · obtain ⟨x97, h98, h⟩ := bind_out h
          rcases ite_out h with ⟨h99, h⟩ | ⟨h99, h⟩
          · rcases ite_out h with ⟨h100, h⟩ | ⟨h100, h⟩
            · obtain ⟨x101, h102, h⟩ := bind_out h
              injection h with h; subst h; exact runLp_sound mixedOrders (live := [3, 6, 7, 8, 9, 13, 14, 15, 16]) (ids := [0, 1, 2, 3, 4, 5]) (π := [.dec true, .skp, .cut [3, 6, 7, 8, 9, 13, 14, 15, 16] [0, 1, 2, 3, 4, 5] .nor [(3, .op 0 1 0 0), (6, .os 1 0), (7, .os 2 0), (8, .os 3 (Int.toNat (a1.domains.length : Int))), (9, .os 4 (Int.toNat (a1.domains.length : Int))), (13, .v (.int .i64 v48)), (14, .v (.int .i64 v52)), (15, .os 5 (List.length l56)), (16, .v (.int .i64 v59))] [.box 31 (c31 a1) false, .n 4, .n 4, .arr 4 l88 (Int.toNat (a1.domains.length : Int)) false, .arr 4 l58 (Int.toNat (a1.domains.length : Int)) false, .arr 135 l56 (List.length l56) false], .row (c135 x92), .row (c135 x94), .row (c4 x97), .dec true, .row (c4 x101), .obj [] (.arr 4 (List.set l58 (Int.toNat x92.domain) true) (Int.toNat (a1.domains.length : Int)) false)]) (hx := by kernel_rfl) (hps := pc ((rfl : ((List.length l56) : Nat) = (List.length l56))) <| pc (h60) <| pc (k_palingref42_reached_J6 h89) <| pc (And.intro (rfl : ((List.length l56) : Nat) = (List.length l56)) (lin_ob h91)) <| pc ((rfl : ((List.length l56) : Nat) = (List.length l56))) <| pc (And.intro (rfl : ((List.length l56) : Nat) = (List.length l56)) (obn135 h93)) <| pc (And.intro (rfl : ((List.length l56) : Nat) = (List.length l56)) (lin_ob h91)) <| pc ((rfl : ((List.length l56) : Nat) = (List.length l56))) <| pc (And.intro (rfl : ((List.length l56) : Nat) = (List.length l56)) (obn135 h95)) <| pc (And.intro (rfl : ((Int.toNat (a1.domains.length : Int)) : Nat) = (Int.toNat (a1.domains.length : Int))) (lin_ob h96)) <| pc (And.intro (rfl : ((Int.toNat (a1.domains.length : Int)) : Nat) = (Int.toNat (a1.domains.length : Int))) (obn4 h98)) <| pc (h99) <| pc (And.intro (rfl : ((Int.toNat (a1.domains.length : Int)) : Nat) = (Int.toNat (a1.domains.length : Int))) (lin_ob h100)) <| pc (st_ob (e := 4) (n := (Int.toNat (a1.domains.length : Int))) (l := l58) (i := (Int.toNat x92.domain)) true [.v (.bool true)] (obn4 h102) rfl) <| pn)
            · cases h
          · rcases ite_out h with ⟨h103, h⟩ | ⟨h103, h⟩
            · obtain ⟨x104, h105, h⟩ := bind_out h
              rcases ite_out h with ⟨h106, h⟩ | ⟨h106, h⟩
              · obtain ⟨x107, h108, h⟩ := bind_out h
                injection h with h; subst h; exact runLp_sound mixedOrders (live := [3, 6, 7, 8, 9, 13, 14, 15, 16]) (ids := [0, 1, 2, 3, 4, 5]) (π := [.dec true, .skp, .cut [3, 6, 7, 8, 9, 13, 14, 15, 16] [0, 1, 2, 3, 4, 5] .nor [(3, .op 0 1 0 0), (6, .os 1 0), (7, .os 2 0), (8, .os 3 (Int.toNat (a1.domains.length : Int))), (9, .os 4 (Int.toNat (a1.domains.length : Int))), (13, .v (.int .i64 v48)), (14, .v (.int .i64 v52)), (15, .os 5 (List.length l56)), (16, .v (.int .i64 v59))] [.box 31 (c31 a1) false, .n 4, .n 4, .arr 4 l88 (Int.toNat (a1.domains.length : Int)) false, .arr 4 l58 (Int.toNat (a1.domains.length : Int)) false, .arr 135 l56 (List.length l56) false], .row (c135 x92), .row (c135 x94), .row (c4 x97), .dec false, .row (c4 x104), .row (c4 x107), .obj [] (.arr 4 (List.set l58 (Int.toNat x92.domain) x104) (Int.toNat (a1.domains.length : Int)) false)]) (hx := by kernel_rfl) (hps := pc ((rfl : ((List.length l56) : Nat) = (List.length l56))) <| pc (h60) <| pc (k_palingref42_reached_J6 h89) <| pc (And.intro (rfl : ((List.length l56) : Nat) = (List.length l56)) (lin_ob h91)) <| pc ((rfl : ((List.length l56) : Nat) = (List.length l56))) <| pc (And.intro (rfl : ((List.length l56) : Nat) = (List.length l56)) (obn135 h93)) <| pc (And.intro (rfl : ((List.length l56) : Nat) = (List.length l56)) (lin_ob h91)) <| pc ((rfl : ((List.length l56) : Nat) = (List.length l56))) <| pc (And.intro (rfl : ((List.length l56) : Nat) = (List.length l56)) (obn135 h95)) <| pc (And.intro (rfl : ((Int.toNat (a1.domains.length : Int)) : Nat) = (Int.toNat (a1.domains.length : Int))) (lin_ob h96)) <| pc (And.intro (rfl : ((Int.toNat (a1.domains.length : Int)) : Nat) = (Int.toNat (a1.domains.length : Int))) (obn4 h98)) <| pc (h99) <| pc (And.intro (rfl : ((Int.toNat (a1.domains.length : Int)) : Nat) = (Int.toNat (a1.domains.length : Int))) (lin_ob h103)) <| pc (And.intro (rfl : ((Int.toNat (a1.domains.length : Int)) : Nat) = (Int.toNat (a1.domains.length : Int))) (obn4 h105)) <| pc (And.intro (rfl : ((Int.toNat (a1.domains.length : Int)) : Nat) = (Int.toNat (a1.domains.length : Int))) (lin_ob h106)) <| pc (st_ob (e := 4) (n := (Int.toNat (a1.domains.length : Int))) (l := l58) (i := (Int.toNat x92.domain)) x104 [.v (.bool x104)] (obn4 h108) rfl) <| pn)
              · cases h
            · cases h
        · cases h
      · cases h
    · injection h with h; subst h; exact runLp_sound mixedOrders (live := [3, 6, 7, 8, 9, 13, 14]) (ids := [0, 1, 2, 3, 4]) (π := [.dec false]) (hx := by kernel_rfl) (hps := pc ((rfl : ((List.length l56) : Nat) = (List.length l56))) <| pc (h60) <| pn)
  · exact Ex.noConfusion

theorem k_palingref42_reached_L4 {a1 : Api_Net} {v48 : Int} : LoopOK Tryz.prog UU 0 174 (subC (codeOf Tryz.f43) [1, 1, 1, 1, 0, 1, 0, 0, 1, 0, 0, 0, 1, 0, 0]) (fun s : (List Bool) × (List Bool) × Int => match s with | (l50, l51, v52) => palingref42_reached_L4 a1 v48 l50 l51 v52)
    (fun s : (List Bool) × (List Bool) × Int => (match s with | (l50, l51, v52) => [(3, .op 0 1 0 0), (6, .os 1 0), (7, .os 2 0), (8, .os 3 (Int.toNat (a1.domains.length : Int))), (9, .os 4 (Int.toNat (a1.domains.length : Int))), (13, .v (.int .i64 v48)), (14, .v (.int .i64 v52))] : Fr DD)) (fun s : (List Bool) × (List Bool) × Int => (match s with | (l50, l51, v52) => [.box 31 (c31 a1) false, .n 4, .n 4, .arr 4 l50 (Int.toNat (a1.domains.length : Int)) false, .arr 4 l51 (Int.toNat (a1.domains.length : Int)) false] : Heap DD)) (fun r => match r with | (l139, l140) => .exit 6) (fun r => match r with | (l139, l140) => [(3, .op 0 1 0 0), (6, .os 1 0), (7, .os 2 0), (8, .os 3 (Int.toNat (a1.domains.length : Int))), (9, .os 4 (Int.toNat (a1.domains.length : Int))), (13, .v (.int .i64 v48))]) (fun r => match r with | (l139, l140) => [.box 31 (c31 a1) false, .n 4, .n 4, .arr 4 l139 (Int.toNat (a1.domains.length : Int)) false, .arr 4 l140 (Int.toNat (a1.domains.length : Int)) false]) := by
  refine loop_sound3 (fun s q h => ?_) (fun r => ?_)
  · obtain ⟨l50, l51, v52⟩ := s; replace h : palingref42_reached_L4 a1 v48 l50 l51 v52 = some q := h
    unfold palingref42_reached_L4 at h
    rcases ite_out h with ⟨h53, h⟩ | ⟨h53, h⟩
    · obtain ⟨l56, h55, h⟩ := bind_out h
      obtain ⟨r126, h125, h⟩ := bind_out h
      obtain ⟨l123, l124⟩ := r126
      injection h with h; subst h; exact runLp_sound mixedOrders (live := [3, 6, 7, 8, 9, 13, 14]) (ids := [0, 1, 2, 3, 4]) (π := [.dec true, .callo (.os 0 (List.length l56)) [.arr 135 l56 (List.length l56) false], .sum [3, 6, 7, 8, 9, 13, 14, 15, 16] [0, 1, 2, 3, 4, 5] (.exit 8) [(3, .op 0 1 0 0), (6, .os 1 0), (7, .os 2 0), (8, .os 3 (Int.toNat (a1.domains.length : Int))), (9, .os 4 (Int.toNat (a1.domains.length : Int))), (13, .v (.int .i64 v48)), (14, .v (.int .i64 v52))] [.box 31 (c31 a1) false, .n 4, .n 4, .arr 4 l123 (Int.toNat (a1.domains.length : Int)) false, .arr 4 l124 (Int.toNat (a1.domains.length : Int)) false]]) (hx := by kernel_rfl) (hps := pc (h53) <| pc (k_palingref35_Hops h55) <| pc (im135 l56) <| pc (k_palingref42_reached_L5 _ _ h125) <| pn)
    · injection h with h; subst h; exact runLp_sound mixedOrders (live := [3, 6, 7, 8, 9, 13]) (ids := [0, 1, 2, 3, 4]) (π := [.dec false]) (hx := by kernel_rfl) (hps := pc (h53) <| pn)
  · exact Ex.noConfusion

theorem k_palingref42_reached_L8 {a1 : Api_Net} {v48 : Int} {l139 : List Bool} {v144 : Int} {l149 : List Palingref36_Lead} : LoopOK Tryz.prog UU 0 174 (subC (codeOf Tryz.f43) [1, 1, 1, 1, 0, 1, 0, 0, 1, 0, 0, 1, 1, 0, 0, 1, 0, 0, 1, 1, 0, 0]) (fun s : (List Bool) × Int => match s with | (l150, v151) => palingref42_reached_L8 a1 v48 l139 v144 l149 l150 v151)
    (fun s : (List Bool) × Int => (match s with | (l150, v151) => [(3, .op 0 1 0 0), (6, .os 1 0), (7, .os 2 0), (8, .os 3 (Int.toNat (a1.domains.length : Int))), (9, .os 4 (Int.toNat (a1.domains.length : Int))), (13, .v (.int .i64 v48)), (17, .v (.int .i64 v144)), (18, .os 5 (List.length l149)), (19, .v (.int .i64 v151))] : Fr DD)) (fun s : (List Bool) × Int => (match s with | (l150, v151) => [.box 31 (c31 a1) false, .n 4, .n 4, .arr 4 l139 (Int.toNat (a1.domains.length : Int)) false, .arr 4 l150 (Int.toNat (a1.domains.length : Int)) false, .arr 139 l149 (List.length l149) false] : Heap DD)) (fun r => match r with | l178 => .exit 12) (fun r => match r with | l178 => [(3, .op 0 1 0 0), (6, .os 1 0), (7, .os 2 0), (8, .os 3 (Int.toNat (a1.domains.length : Int))), (9, .os 4 (Int.toNat (a1.domains.length : Int))), (13, .v (.int .i64 v48)), (17, .v (.int .i64 v144))]) (fun r => match r with | l178 => [.box 31 (c31 a1) false, .n 4, .n 4, .arr 4 l139 (Int.toNat (a1.domains.length : Int)) false, .arr 4 l178 (Int.toNat (a1.domains.length : Int)) false]) := by
  refine loop_sound3 (fun s q h => ?_) (fun r => ?_)
  · obtain ⟨l150, v151⟩ := s; replace h : palingref42_reached_L8 a1 v48 l139 v144 l149 l150 v151 = some q := h
    unfold palingref42_reached_L8 at h
    rcases ite_out h with ⟨h152, h⟩ | ⟨h152, h⟩
    · rcases ite_out h with ⟨h153, h⟩ | ⟨h153, h⟩
      · obtain ⟨x154, h155, h⟩ := bind_out h
        obtain ⟨x156, h157, h⟩ := bind_out h
        rcases ite_out h with ⟨h158, h⟩ | ⟨h158, h⟩
        · obtain ⟨x159, h160, h⟩ := bind_out h
          rcases ite_out h with ⟨h161, h⟩ | ⟨h161, h⟩
          · rcases ite_out h with ⟨h162, h⟩ | ⟨h162, h⟩
            · obtain ⟨x163, h164, h⟩ := bind_out h
              injection h with h; subst h; exact runLp_sound mixedOrders (live := [3, 6, 7, 8, 9, 13, 17, 18, 19]) (ids := [0, 1, 2, 3, 4, 5]) (π := [.dec true, .row (c139 x154), .row (c139 x156), .row (c4 x159), .dec true, .row (c4 x163), .obj [] (.arr 4 (List.set l150 (Int.toNat x154.domain) true) (Int.toNat (a1.domains.length : Int)) false)]) (hx := by kernel_rfl) (hps := pc ((rfl : ((List.length l149) : Nat) = (List.length l149))) <| pc (h152) <| pc (And.intro (rfl : ((List.length l149) : Nat) = (List.length l149)) (lin_ob h153)) <| pc ((rfl : ((List.length l149) : Nat) = (List.length l149))) <| pc (And.intro (rfl : ((List.length l149) : Nat) = (List.length l149)) (obn139 h155)) <| pc (And.intro (rfl : ((List.length l149) : Nat) = (List.length l149)) (lin_ob h153)) <| pc ((rfl : ((List.length l149) : Nat) = (List.length l149))) <| pc (And.intro (rfl : ((List.length l149) : Nat) = (List.length l149)) (obn139 h157)) <| pc (And.intro (rfl : ((Int.toNat (a1.domains.length : Int)) : Nat) = (Int.toNat (a1.domains.length : Int))) (lin_ob h158)) <| pc (And.intro (rfl : ((Int.toNat (a1.domains.length : Int)) : Nat) = (Int.toNat (a1.domains.length : Int))) (obn4 h160)) <| pc (h161) <| pc (And.intro (rfl : ((Int.toNat (a1.domains.length : Int)) : Nat) = (Int.toNat (a1.domains.length : Int))) (lin_ob h162)) <| pc (st_ob (e := 4) (n := (Int.toNat (a1.domains.length : Int))) (l := l150) (i := (Int.toNat x154.domain)) true [.v (.bool true)] (obn4 h164) rfl) <| pn)
            · cases h
          · rcases ite_out h with ⟨h165, h⟩ | ⟨h165, h⟩
            · obtain ⟨x166, h167, h⟩ := bind_out h
              rcases ite_out h with ⟨h168, h⟩ | ⟨h168, h⟩
              · obtain ⟨x169, h170, h⟩ := bind_out h
                injection h with h; subst h; exact runLp_sound mixedOrders (live := [3, 6, 7, 8, 9, 13, 17, 18, 19]) (ids := [0, 1, 2, 3, 4, 5]) (π := [.dec true, .row (c139 x154), .row (c139 x156), .row (c4 x159), .dec false, .row (c4 x166), .row (c4 x169), .obj [] (.arr 4 (List.set l150 (Int.toNat x154.domain) x166) (Int.toNat (a1.domains.length : Int)) false)]) (hx := by kernel_rfl) (hps := pc ((rfl : ((List.length l149) : Nat) = (List.length l149))) <| pc (h152) <| pc (And.intro (rfl : ((List.length l149) : Nat) = (List.length l149)) (lin_ob h153)) <| pc ((rfl : ((List.length l149) : Nat) = (List.length l149))) <| pc (And.intro (rfl : ((List.length l149) : Nat) = (List.length l149)) (obn139 h155)) <| pc (And.intro (rfl : ((List.length l149) : Nat) = (List.length l149)) (lin_ob h153)) <| pc ((rfl : ((List.length l149) : Nat) = (List.length l149))) <| pc (And.intro (rfl : ((List.length l149) : Nat) = (List.length l149)) (obn139 h157)) <| pc (And.intro (rfl : ((Int.toNat (a1.domains.length : Int)) : Nat) = (Int.toNat (a1.domains.length : Int))) (lin_ob h158)) <| pc (And.intro (rfl : ((Int.toNat (a1.domains.length : Int)) : Nat) = (Int.toNat (a1.domains.length : Int))) (obn4 h160)) <| pc (h161) <| pc (And.intro (rfl : ((Int.toNat (a1.domains.length : Int)) : Nat) = (Int.toNat (a1.domains.length : Int))) (lin_ob h165)) <| pc (And.intro (rfl : ((Int.toNat (a1.domains.length : Int)) : Nat) = (Int.toNat (a1.domains.length : Int))) (obn4 h167)) <| pc (And.intro (rfl : ((Int.toNat (a1.domains.length : Int)) : Nat) = (Int.toNat (a1.domains.length : Int))) (lin_ob h168)) <| pc (st_ob (e := 4) (n := (Int.toNat (a1.domains.length : Int))) (l := l150) (i := (Int.toNat x154.domain)) x166 [.v (.bool x166)] (obn4 h170) rfl) <| pn)
              · cases h
            · cases h
        · cases h
      · cases h
    · injection h with h; subst h; exact runLp_sound mixedOrders (live := [3, 6, 7, 8, 9, 13, 17]) (ids := [0, 1, 2, 3, 4]) (π := [.dec false]) (hx := by kernel_rfl) (hps := pc ((rfl : ((List.length l149) : Nat) = (List.length l149))) <| pc (h152) <| pn)
  · exact Ex.noConfusion

theorem k_palingref42_reached_L7 {a1 : Api_Net} {v48 : Int} {l139 : List Bool} : LoopOK Tryz.prog UU 0 174 (subC (codeOf Tryz.f43) [1, 1, 1, 1, 0, 1, 0, 0, 1, 0, 0, 1, 1, 0, 0]) (fun s : (List Bool) × Int => match s with | (l143, v144) => palingref42_reached_L7 a1 v48 l139 l143 v144)
    (fun s : (List Bool) × Int => (match s with | (l143, v144) => [(3, .op 0 1 0 0), (6, .os 1 0), (7, .os 2 0), (8, .os 3 (Int.toNat (a1.domains.length : Int))), (9, .os 4 (Int.toNat (a1.domains.length : Int))), (13, .v (.int .i64 v48)), (17, .v (.int .i64 v144))] : Fr DD)) (fun s : (List Bool) × Int => (match s with | (l143, v144) => [.box 31 (c31 a1) false, .n 4, .n 4, .arr 4 l139 (Int.toNat (a1.domains.length : Int)) false, .arr 4 l143 (Int.toNat (a1.domains.length : Int)) false] : Heap DD)) (fun r => match r with | l187 => .exit 10) (fun r => match r with | l187 => [(3, .op 0 1 0 0), (6, .os 1 0), (7, .os 2 0), (8, .os 3 (Int.toNat (a1.domains.length : Int))), (9, .os 4 (Int.toNat (a1.domains.length : Int))), (13, .v (.int .i64 v48))]) (fun r => match r with | l187 => [.box 31 (c31 a1) false, .n 4, .n 4, .arr 4 l139 (Int.toNat (a1.domains.length : Int)) false, .arr 4 l187 (Int.toNat (a1.domains.length : Int)) false]) := by
  refine loop_sound3 (fun s q h => ?_) (fun r => ?_)
  · obtain ⟨l143, v144⟩ := s; replace h : palingref42_reached_L7 a1 v48 l139 l143 v144 = some q := h
    unfold palingref42_reached_L7 at h
    rcases ite_out h with ⟨h145, h⟩ | ⟨h145, h⟩
    · rcases ite_out h with ⟨h146, h⟩ | ⟨h146, h⟩
      · obtain ⟨l149, h148, h⟩ := bind_out h
        obtain ⟨l178, h179, h⟩ := bind_out h
        injection h with h; subst h; exact runLp_sound mixedOrders (live := [3, 6, 7, 8, 9, 13, 17]) (ids := [0, 1, 2, 3, 4]) (π := [.dec true, .dec true, .callo (.os 0 (List.length l149)) [.arr 139 l149 (List.length l149) false], .sum [3, 6, 7, 8, 9, 13, 17, 18, 19] [0, 1, 2, 3, 4, 5] (.exit 12) [(3, .op 0 1 0 0), (6, .os 1 0), (7, .os 2 0), (8, .os 3 (Int.toNat (a1.domains.length : Int))), (9, .os 4 (Int.toNat (a1.domains.length : Int))), (13, .v (.int .i64 v48)), (17, .v (.int .i64 v144))] [.box 31 (c31 a1) false, .n 4, .n 4, .arr 4 l139 (Int.toNat (a1.domains.length : Int)) false, .arr 4 l178 (Int.toNat (a1.domains.length : Int)) false]]) (hx := by kernel_rfl) (hps := pc (h145) <| pc (h146) <| pc (k_palingref36_Routes h148) <| pc (im139 l149) <| pc (k_palingref42_reached_L8 _ _ h179) <| pn)
      · injection h with h; subst h; exact runLp_sound mixedOrders (live := [3, 6, 7, 8, 9, 13]) (ids := [0, 1, 2, 3, 4]) (π := [.dec true, .dec false]) (hx := by kernel_rfl) (hps := pc (h145) <| pc (h146) <| pn)
    · injection h with h; subst h; exact runLp_sound mixedOrders (live := [3, 6, 7, 8, 9, 13]) (ids := [0, 1, 2, 3, 4]) (π := [.dec false]) (hx := by kernel_rfl) (hps := pc (h145) <| pn)
  · exact Ex.noConfusion

theorem k_palingref42_reached_L3 {a1 : Api_Net} : LoopOK Tryz.prog UU 0 174 (subC (codeOf Tryz.f43) [1, 1, 1, 1, 0, 1, 0, 0]) (fun s : (List Bool) × (List Bool) × Int => match s with | (l46, l47, v48) => palingref42_reached_L3 a1 l46 l47 v48)
    (fun s : (List Bool) × (List Bool) × Int => (match s with | (l46, l47, v48) => [(3, .op 0 1 0 0), (6, .os 1 0), (7, .os 2 0), (8, .os 3 (Int.toNat (a1.domains.length : Int))), (9, .os 4 (Int.toNat (a1.domains.length : Int))), (13, .v (.int .i64 v48))] : Fr DD)) (fun s : (List Bool) × (List Bool) × Int => (match s with | (l46, l47, v48) => [.box 31 (c31 a1) false, .n 4, .n 4, .arr 4 l46 (Int.toNat (a1.domains.length : Int)) false, .arr 4 l47 (Int.toNat (a1.domains.length : Int)) false] : Heap DD)) (fun r => match r with | (l198, l199) => .exit 4) (fun r => match r with | (l198, l199) => [(6, .os 0 0), (7, .os 1 0), (8, .os 2 (Int.toNat (a1.domains.length : Int))), (9, .os 3 (Int.toNat (a1.domains.length : Int)))]) (fun r => match r with | (l198, l199) => [.n 4, .n 4, .arr 4 l198 (Int.toNat (a1.domains.length : Int)) false, .arr 4 l199 (Int.toNat (a1.domains.length : Int)) false]) := by
  refine loop_sound3 (fun s q h => ?_) (fun r => ?_)
  · obtain ⟨l46, l47, v48⟩ := s; replace h : palingref42_reached_L3 a1 l46 l47 v48 = some q := h
    unfold palingref42_reached_L3 at h
    rcases ite_out h with ⟨h49, h⟩ | ⟨h49, h⟩
    · obtain ⟨r142, h141, h⟩ := bind_out h
      obtain ⟨l139, l140⟩ := r142
      obtain ⟨l187, h188, h⟩ := bind_out h
      injection h with h; subst h; exact runLp_sound mixedOrders (live := [3, 6, 7, 8, 9, 13]) (ids := [0, 1, 2, 3, 4]) (π := [.dec true, .sum [3, 6, 7, 8, 9, 13, 14] [0, 1, 2, 3, 4] (.exit 6) [(3, .op 0 1 0 0), (6, .os 1 0), (7, .os 2 0), (8, .os 3 (Int.toNat (a1.domains.length : Int))), (9, .os 4 (Int.toNat (a1.domains.length : Int))), (13, .v (.int .i64 v48))] [.box 31 (c31 a1) false, .n 4, .n 4, .arr 4 l139 (Int.toNat (a1.domains.length : Int)) false, .arr 4 l140 (Int.toNat (a1.domains.length : Int)) false], .sum [3, 6, 7, 8, 9, 13, 17] [0, 1, 2, 3, 4] (.exit 10) [(3, .op 0 1 0 0), (6, .os 1 0), (7, .os 2 0), (8, .os 3 (Int.toNat (a1.domains.length : Int))), (9, .os 4 (Int.toNat (a1.domains.length : Int))), (13, .v (.int .i64 v48))] [.box 31 (c31 a1) false, .n 4, .n 4, .arr 4 l139 (Int.toNat (a1.domains.length : Int)) false, .arr 4 l187 (Int.toNat (a1.domains.length : Int)) false]]) (hx := by kernel_rfl) (hps := pc (h49) <| pc (k_palingref42_reached_L4 _ _ h141) <| pc (k_palingref42_reached_L7 _ _ h188) <| pn)
    · injection h with h; subst h; exact runLp_sound mixedOrders (live := [6, 7, 8, 9]) (ids := [1, 2, 3, 4]) (π := [.dec false]) (hx := by kernel_rfl) (hps := pc (h49) <| pn)
  · exact Ex.noConfusion

theorem k_palingref42_reached {a1 : Api_Net} {a2 : List Int} {a3 : Int} {r : ((List Bool) × (List Bool))} (h : palingref42_reached a1 a2 a3 = some r) :
    CallsOK Tryz.prog UU 43 [.agg (c31 a1), .sl 3 a2, .v (.int .i64 a3)] [] ((fun r => match r with | (l202, l203) => .tup [.os 0 (Int.toNat (a1.domains.length : Int)), .os 1 (Int.toNat (a1.domains.length : Int))]) r) ((fun r => match r with | (l202, l203) => [.arr 4 l202 (Int.toNat (a1.domains.length : Int)) false, .arr 4 l203 (Int.toNat (a1.domains.length : Int)) false]) r) := by
  unfold palingref42_reached at h
  rcases ite_out h with ⟨h4, h⟩ | ⟨h4, h⟩
  · obtain ⟨l43, h44, h⟩ := bind_out h
    obtain ⟨r201, h200, h⟩ := bind_out h
    obtain ⟨l198, l199⟩ := r201
    injection h with h; subst h; exact runFn_sound mixedOrders Tryz.func43 rfl (keep := some [2, 3]) (π := [.obj [] (.arr 4 (List.replicate (Int.toNat (a1.domains.length : Int)) false) (Int.toNat (a1.domains.length : Int)) false), .obj [] (.arr 4 (List.replicate (Int.toNat (a1.domains.length : Int)) false) (Int.toNat (a1.domains.length : Int)) false), .sum [1, 2, 3, 6, 7, 8, 9, 10] [0, 1, 2, 3, 4] (.exit 0) [(3, .op 0 1 0 0), (6, .os 1 0), (7, .os 2 0), (8, .os 3 (Int.toNat (a1.domains.length : Int))), (9, .os 4 (Int.toNat (a1.domains.length : Int)))] [.box 31 (c31 a1) false, .n 4, .n 4, .arr 4 l43 (Int.toNat (a1.domains.length : Int)) false, .arr 4 (List.replicate (Int.toNat (a1.domains.length : Int)) false) (Int.toNat (a1.domains.length : Int)) false], .sum [3, 6, 7, 8, 9, 13] [0, 1, 2, 3, 4] (.exit 4) [(6, .os 0 0), (7, .os 1 0), (8, .os 2 (Int.toNat (a1.domains.length : Int))), (9, .os 3 (Int.toNat (a1.domains.length : Int)))] [.n 4, .n 4, .arr 4 l198 (Int.toNat (a1.domains.length : Int)) false, .arr 4 l199 (Int.toNat (a1.domains.length : Int)) false]]) (hrun := by kernel_rfl) (hps := pc (mk_ob 4 false h4) <| pc ((rfl : ((Int.toNat (a1.domains.length : Int)) : Nat) = (Int.toNat (a1.domains.length : Int)))) <| pc (mk_ob 4 false h4) <| pc ((rfl : ((Int.toNat (a1.domains.length : Int)) : Nat) = (Int.toNat (a1.domains.length : Int)))) <| pc (k_palingref42_reached_L1 _ _ h44) <| pc (k_palingref42_reached_L3 _ _ h200) <| pn)
  · cases h

theorem k_palingref42_powers {r : (Unit)} (h : palingref42_powers = some r) :
    CallsOK Tryz.prog UU 44 [] [] ((fun r => match r with | _ => .os 0 (List.length [(1 : Int), (2 : Int), (4 : Int), (8 : Int), (16 : Int), (32 : Int), (64 : Int), (128 : Int), (256 : Int), (512 : Int)])) r) ((fun r => match r with | _ => [.arr 3 [(1 : Int), (2 : Int), (4 : Int), (8 : Int), (16 : Int), (32 : Int), (64 : Int), (128 : Int), (256 : Int), (512 : Int)] (List.length [(1 : Int), (2 : Int), (4 : Int), (8 : Int), (16 : Int), (32 : Int), (64 : Int), (128 : Int), (256 : Int), (512 : Int)]) false]) r) := by
  unfold palingref42_powers at h
  injection h with h; subst h; exact runFn_sound mixedOrders Tryz.func44 rfl (keep := some [1]) (π := [.obj [] (.arr 3 [(1 : Int), (2 : Int), (4 : Int), (8 : Int), (16 : Int), (32 : Int), (64 : Int), (128 : Int), (256 : Int), (512 : Int)] (List.length [(1 : Int), (2 : Int), (4 : Int), (8 : Int), (16 : Int), (32 : Int), (64 : Int), (128 : Int), (256 : Int), (512 : Int)]) false)]) (hrun := by kernel_rfl) (hps := pc (bs_ob 3 [(1 : Int), (2 : Int), (4 : Int), (8 : Int), (16 : Int), (32 : Int), (64 : Int), (128 : Int), (256 : Int), (512 : Int)]) <| pn)

end Go.Eng
