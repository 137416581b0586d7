/- Part of the proof of LeaveMeshes: printed mirrors of the functions, or their contracts. No conditions. -/
import Derived.Test.YtakijieekhbhfaaGreatMAK2
set_option linter.unusedVariables false
set_option maxRecDepth 100000
namespace Go.Eng
open Go Go.Proofs
theorem k_palingref15_Member {a1 : Api_Port} {a2 : Int} {r : Bool} (h : palingref15_Member a1 a2 = some r) :
    CallsOK Tryz.prog UU 82 [.agg (c59 a1), .v (.int .i64 a2)] [] (.v (.bool r)) [] := by
  unfold palingref15_Member at h
  rcases ite_out h with ⟨h3, h⟩ | ⟨h3, h⟩
  · rcases ite_out h with ⟨h4, h⟩ | ⟨h4, h⟩
    · injection h with h; subst h; exact runFn_sound mixedOrders Tryz.func82 rfl (keep := none) (π := [.dec true, .dec true]) (hrun := by kernel_rfl) (hps := pc (h3) <| pc (h4) <| pn)
    · obtain ⟨r5, h6, h⟩ := bind_out h
      injection h with h; subst h; exact runFn_sound mixedOrders Tryz.func82 rfl (keep := none) (π := [.dec true, .dec false, .callv (.v (.bool r5))]) (hrun := by kernel_rfl) (hps := pc (h3) <| pc (h4) <| pc (k_palingref15_In h6) <| pn)
  · injection h with h; subst h; exact runFn_sound mixedOrders Tryz.func82 rfl (keep := none) (π := [.dec false]) (hrun := by kernel_rfl) (hps := pc (h3) <| pn)

theorem k_palingref15_rest_L1 {a1 : Api_Net} : LoopOK Tryz.prog UU 0 192 (subC (codeOf Tryz.f25) [1, 0, 1, 0, 0]) (ρ := Unit ⊕ Unit) (palingref15_rest_L1 a1)
    (fun v2 : Int => ([(1, .op 0 1 0 0), (2, .v (.bool false)), (3, .v (.int .i64 v2))] : Fr DD)) (fun v2 : Int => ([.box 31 (c31 a1) false] : Heap DD)) (fun r => match r with | Sum.inl _ => .ret | Sum.inr _ => .exit 0) (fun r => match r with | Sum.inl _ => [(2, .v (.bool false))] | Sum.inr _ => [(1, .op 0 1 0 0), (2, .v (.bool false))]) (fun r => match r with | Sum.inl _ => [] | Sum.inr _ => [.box 31 (c31 a1) false]) := by
  refine loop_sound3 (fun s q h => ?_) (fun r => ?_)
  · replace h : palingref15_rest_L1 a1 s = some q := h; revert h; revert s; intro v2 h
    unfold palingref15_rest_L1 at h
    rcases ite_out h with ⟨h3, h⟩ | ⟨h3, h⟩
    · obtain ⟨x4, h5, h⟩ := bind_out h
      obtain ⟨r6, h7, h⟩ := bind_out h
      rcases ite_out h with ⟨h8, h⟩ | ⟨h8, h⟩
      · injection h with h; subst h; exact runLp_sound mixedOrders (live := [2]) (ids := []) (π := [.dec true, .row (c120 x4), .callv (.v (.bool r6)), .dec true]) (hx := by kernel_rfl) (hps := pc (h3) <| pc (ob120 h5) <| pc (k_palingref15_Place h7) <| pc (h8) <| pn)
      · obtain ⟨r9, h10, h⟩ := bind_out h
        rcases ite_out h with ⟨h11, h⟩ | ⟨h11, h⟩
        · injection h with h; subst h; exact runLp_sound mixedOrders (live := [2]) (ids := []) (π := [.dec true, .row (c120 x4), .callv (.v (.bool r6)), .dec false, .callv (.v (.bool r9)), .dec true]) (hx := by kernel_rfl) (hps := pc (h3) <| pc (ob120 h5) <| pc (k_palingref15_Place h7) <| pc (h8) <| pc (k_palingref15_Place h10) <| pc (h11) <| pn)
        · obtain ⟨x12, h13, h⟩ := bind_out h
          obtain ⟨x14, h15, h⟩ := bind_out h
          rcases ite_out h with ⟨h16, h⟩ | ⟨h16, h⟩
          · injection h with h; subst h; exact runLp_sound mixedOrders (live := [2]) (ids := []) (π := [.dec true, .row (c120 x4), .callv (.v (.bool r6)), .dec false, .callv (.v (.bool r9)), .dec false, .row (c61 x12), .row (c59 x14), .dec true]) (hx := by kernel_rfl) (hps := pc (h3) <| pc (ob120 h5) <| pc (k_palingref15_Place h7) <| pc (h8) <| pc (k_palingref15_Place h10) <| pc (h11) <| pc (ob61 h13) <| pc (ob59 h15) <| pc (h16) <| pn)
          · obtain ⟨x17, h18, h⟩ := bind_out h
            obtain ⟨r19, h20, h⟩ := bind_out h
            rcases ite_out h with ⟨h21, h⟩ | ⟨h21, h⟩
            · injection h with h; subst h; exact runLp_sound mixedOrders (live := [2]) (ids := []) (π := [.dec true, .row (c120 x4), .callv (.v (.bool r6)), .dec false, .callv (.v (.bool r9)), .dec false, .row (c61 x12), .row (c59 x14), .dec false, .row (c59 x17), .callv (.v (.bool r19)), .dec true]) (hx := by kernel_rfl) (hps := pc (h3) <| pc (ob120 h5) <| pc (k_palingref15_Place h7) <| pc (h8) <| pc (k_palingref15_Place h10) <| pc (h11) <| pc (ob61 h13) <| pc (ob59 h15) <| pc (h16) <| pc (ob59 h18) <| pc (k_palingref15_Member h20) <| pc (h21) <| pn)
            · injection h with h; subst h; exact runLp_sound mixedOrders (live := [1, 2, 3]) (ids := [0]) (π := [.dec true, .row (c120 x4), .callv (.v (.bool r6)), .dec false, .callv (.v (.bool r9)), .dec false, .row (c61 x12), .row (c59 x14), .dec false, .row (c59 x17), .callv (.v (.bool r19)), .dec false]) (hx := by kernel_rfl) (hps := pc (h3) <| pc (ob120 h5) <| pc (k_palingref15_Place h7) <| pc (h8) <| pc (k_palingref15_Place h10) <| pc (h11) <| pc (ob61 h13) <| pc (ob59 h15) <| pc (h16) <| pc (ob59 h18) <| pc (k_palingref15_Member h20) <| pc (h21) <| pn)
    · injection h with h; subst h; exact runLp_sound mixedOrders (live := [1, 2]) (ids := [0]) (π := [.dec false]) (hx := by kernel_rfl) (hps := pc (h3) <| pn)
  · rcases r with _ | _ <;> exact Ex.noConfusion

theorem k_palingref15_rest_L2 {a1 : Api_Net} : LoopOK Tryz.prog UU 0 192 (subC (codeOf Tryz.f25) [1, 1, 0, 1, 0, 0]) (ρ := Unit ⊕ Unit) (palingref15_rest_L2 a1)
    (fun v24 : Int => ([(1, .op 0 1 0 0), (2, .v (.bool false)), (6, .v (.int .i64 v24))] : Fr DD)) (fun v24 : Int => ([.box 31 (c31 a1) false] : Heap DD)) (fun r => match r with | Sum.inl _ => .ret | Sum.inr _ => .exit 2) (fun r => match r with | Sum.inl _ => [(2, .v (.bool false))] | Sum.inr _ => [(1, .op 0 1 0 0), (2, .v (.bool false))]) (fun r => match r with | Sum.inl _ => [] | Sum.inr _ => [.box 31 (c31 a1) false]) := by
  refine loop_sound3 (fun s q h => ?_) (fun r => ?_)
  · replace h : palingref15_rest_L2 a1 s = some q := h; revert h; revert s; intro v24 h
    unfold palingref15_rest_L2 at h
    rcases ite_out h with ⟨h25, h⟩ | ⟨h25, h⟩
    · obtain ⟨x26, h27, h⟩ := bind_out h
      obtain ⟨r28, h29, h⟩ := bind_out h
      rcases ite_out h with ⟨h30, h⟩ | ⟨h30, h⟩
      · injection h with h; subst h; exact runLp_sound mixedOrders (live := [2]) (ids := []) (π := [.dec true, .row (c64 x26), .callv (.v (.bool r28)), .dec true]) (hx := by kernel_rfl) (hps := pc (h25) <| pc (ob64 h27) <| pc (k_palingref15_Place h29) <| pc (h30) <| pn)
      · obtain ⟨x31, h32, h⟩ := bind_out h
        rcases ite_out h with ⟨h33, h⟩ | ⟨h33, h⟩
        · injection h with h; subst h; exact runLp_sound mixedOrders (live := [2]) (ids := []) (π := [.dec true, .row (c64 x26), .callv (.v (.bool r28)), .dec false, .row (c64 x31), .dec true]) (hx := by kernel_rfl) (hps := pc (h25) <| pc (ob64 h27) <| pc (k_palingref15_Place h29) <| pc (h30) <| pc (ob64 h32) <| pc (h33) <| pn)
        · injection h with h; subst h; exact runLp_sound mixedOrders (live := [1, 2, 6]) (ids := [0]) (π := [.dec true, .row (c64 x26), .callv (.v (.bool r28)), .dec false, .row (c64 x31), .dec false]) (hx := by kernel_rfl) (hps := pc (h25) <| pc (ob64 h27) <| pc (k_palingref15_Place h29) <| pc (h30) <| pc (ob64 h32) <| pc (h33) <| pn)
    · injection h with h; subst h; exact runLp_sound mixedOrders (live := [1, 2]) (ids := [0]) (π := [.dec false]) (hx := by kernel_rfl) (hps := pc (h25) <| pn)
  · rcases r with _ | _ <;> exact Ex.noConfusion

theorem k_palingref15_rest_L3 {a1 : Api_Net} : LoopOK Tryz.prog UU 0 192 (subC (codeOf Tryz.f25) [1, 1, 1, 0, 1, 0, 0]) (ρ := Unit ⊕ Unit) (palingref15_rest_L3 a1)
    (fun v36 : Int => ([(1, .op 0 1 0 0), (2, .v (.bool false)), (7, .v (.int .i64 v36))] : Fr DD)) (fun v36 : Int => ([.box 31 (c31 a1) false] : Heap DD)) (fun r => match r with | Sum.inl _ => .ret | Sum.inr _ => .exit 4) (fun r => match r with | Sum.inl _ => [(2, .v (.bool false))] | Sum.inr _ => [(1, .op 0 1 0 0), (2, .v (.bool false))]) (fun r => match r with | Sum.inl _ => [] | Sum.inr _ => [.box 31 (c31 a1) false]) := by
  refine loop_sound3 (fun s q h => ?_) (fun r => ?_)
  · replace h : palingref15_rest_L3 a1 s = some q := h; revert h; revert s; intro v36 h
    unfold palingref15_rest_L3 at h
    rcases ite_out h with ⟨h37, h⟩ | ⟨h37, h⟩
    · obtain ⟨x38, h39, h⟩ := bind_out h
      obtain ⟨r40, h41, h⟩ := bind_out h
      rcases ite_out h with ⟨h42, h⟩ | ⟨h42, h⟩
      · injection h with h; subst h; exact runLp_sound mixedOrders (live := [2]) (ids := []) (π := [.dec true, .row (c66 x38), .callv (.v (.bool r40)), .dec true]) (hx := by kernel_rfl) (hps := pc (h37) <| pc (ob66 h39) <| pc (k_palingref15_Place h41) <| pc (h42) <| pn)
      · obtain ⟨r43, h44, h⟩ := bind_out h
        rcases ite_out h with ⟨h45, h⟩ | ⟨h45, h⟩
        · injection h with h; subst h; exact runLp_sound mixedOrders (live := [2]) (ids := []) (π := [.dec true, .row (c66 x38), .callv (.v (.bool r40)), .dec false, .callv (.v (.bool r43)), .dec true]) (hx := by kernel_rfl) (hps := pc (h37) <| pc (ob66 h39) <| pc (k_palingref15_Place h41) <| pc (h42) <| pc (k_palingref15_rising h44) <| pc (h45) <| pn)
        · obtain ⟨r46, h47, h⟩ := bind_out h
          rcases ite_out h with ⟨h48, h⟩ | ⟨h48, h⟩
          · injection h with h; subst h; exact runLp_sound mixedOrders (live := [2]) (ids := []) (π := [.dec true, .row (c66 x38), .callv (.v (.bool r40)), .dec false, .callv (.v (.bool r43)), .dec false, .callv (.v (.bool r46)), .dec true]) (hx := by kernel_rfl) (hps := pc (h37) <| pc (ob66 h39) <| pc (k_palingref15_Place h41) <| pc (h42) <| pc (k_palingref15_rising h44) <| pc (h45) <| pc (k_palingref15_rising h47) <| pc (h48) <| pn)
          · injection h with h; subst h; exact runLp_sound mixedOrders (live := [1, 2, 7]) (ids := [0]) (π := [.dec true, .row (c66 x38), .callv (.v (.bool r40)), .dec false, .callv (.v (.bool r43)), .dec false, .callv (.v (.bool r46)), .dec false]) (hx := by kernel_rfl) (hps := pc (h37) <| pc (ob66 h39) <| pc (k_palingref15_Place h41) <| pc (h42) <| pc (k_palingref15_rising h44) <| pc (h45) <| pc (k_palingref15_rising h47) <| pc (h48) <| pn)
    · injection h with h; subst h; exact runLp_sound mixedOrders (live := [1, 2]) (ids := [0]) (π := [.dec false]) (hx := by kernel_rfl) (hps := pc (h37) <| pn)
  · rcases r with _ | _ <;> exact Ex.noConfusion

theorem k_palingref15_rest_L4 {a1 : Api_Net} : LoopOK Tryz.prog UU 0 192 (subC (codeOf Tryz.f25) [1, 1, 1, 1, 0, 1, 0, 0]) (ρ := Unit ⊕ Unit) (palingref15_rest_L4 a1)
    (fun v51 : Int => ([(1, .op 0 1 0 0), (2, .v (.bool false)), (9, .v (.int .i64 v51))] : Fr DD)) (fun v51 : Int => ([.box 31 (c31 a1) false] : Heap DD)) (fun r => match r with | Sum.inl _ => .ret | Sum.inr _ => .exit 6) (fun r => match r with | Sum.inl _ => [(2, .v (.bool false))] | Sum.inr _ => [(2, .v (.bool false))]) (fun r => match r with | Sum.inl _ => [] | Sum.inr _ => []) := by
  refine loop_sound3 (fun s q h => ?_) (fun r => ?_)
  · replace h : palingref15_rest_L4 a1 s = some q := h; revert h; revert s; intro v51 h
    unfold palingref15_rest_L4 at h
    rcases ite_out h with ⟨h52, h⟩ | ⟨h52, h⟩
    · obtain ⟨x53, h54, h⟩ := bind_out h
      obtain ⟨r55, h56, h⟩ := bind_out h
      rcases ite_out h with ⟨h57, h⟩ | ⟨h57, h⟩
      · injection h with h; subst h; exact runLp_sound mixedOrders (live := [2]) (ids := []) (π := [.dec true, .row (c76 x53), .callv (.v (.bool r55)), .dec true]) (hx := by kernel_rfl) (hps := pc (h52) <| pc (ob76 h54) <| pc (k_palingref15_Place h56) <| pc (h57) <| pn)
      · obtain ⟨r58, h59, h⟩ := bind_out h
        rcases ite_out h with ⟨h60, h⟩ | ⟨h60, h⟩
        · injection h with h; subst h; exact runLp_sound mixedOrders (live := [2]) (ids := []) (π := [.dec true, .row (c76 x53), .callv (.v (.bool r55)), .dec false, .callv (.v (.bool r58)), .dec true]) (hx := by kernel_rfl) (hps := pc (h52) <| pc (ob76 h54) <| pc (k_palingref15_Place h56) <| pc (h57) <| pc (k_palingref15_Place h59) <| pc (h60) <| pn)
        · rcases ite_out h with ⟨h61, h⟩ | ⟨h61, h⟩
          · injection h with h; subst h; exact runLp_sound mixedOrders (live := [2]) (ids := []) (π := [.dec true, .row (c76 x53), .callv (.v (.bool r55)), .dec false, .callv (.v (.bool r58)), .dec false, .dec true]) (hx := by kernel_rfl) (hps := pc (h52) <| pc (ob76 h54) <| pc (k_palingref15_Place h56) <| pc (h57) <| pc (k_palingref15_Place h59) <| pc (h60) <| pc (h61) <| pn)
          · rcases ite_out h with ⟨h62, h⟩ | ⟨h62, h⟩
            · injection h with h; subst h; exact runLp_sound mixedOrders (live := [2]) (ids := []) (π := [.dec true, .row (c76 x53), .callv (.v (.bool r55)), .dec false, .callv (.v (.bool r58)), .dec false, .dec false, .dec true]) (hx := by kernel_rfl) (hps := pc (h52) <| pc (ob76 h54) <| pc (k_palingref15_Place h56) <| pc (h57) <| pc (k_palingref15_Place h59) <| pc (h60) <| pc (h61) <| pc (h62) <| pn)
            · obtain ⟨x63, h64, h⟩ := bind_out h
              obtain ⟨x65, h66, h⟩ := bind_out h
              rcases ite_out h with ⟨h67, h⟩ | ⟨h67, h⟩
              · injection h with h; subst h; exact runLp_sound mixedOrders (live := [2]) (ids := []) (π := [.dec true, .row (c76 x53), .callv (.v (.bool r55)), .dec false, .callv (.v (.bool r58)), .dec false, .dec false, .dec false, .row (c61 x63), .row (c66 x65), .dec true]) (hx := by kernel_rfl) (hps := pc (h52) <| pc (ob76 h54) <| pc (k_palingref15_Place h56) <| pc (h57) <| pc (k_palingref15_Place h59) <| pc (h60) <| pc (h61) <| pc (h62) <| pc (ob61 h64) <| pc (ob66 h66) <| pc (h67) <| pn)
              · obtain ⟨x68, h69, h⟩ := bind_out h
                rcases ite_out h with ⟨h70, h⟩ | ⟨h70, h⟩
                · injection h with h; subst h; exact runLp_sound mixedOrders (live := [2]) (ids := []) (π := [.dec true, .row (c76 x53), .callv (.v (.bool r55)), .dec false, .callv (.v (.bool r58)), .dec false, .dec false, .dec false, .row (c61 x63), .row (c66 x65), .dec false, .row (c61 x68), .dec true]) (hx := by kernel_rfl) (hps := pc (h52) <| pc (ob76 h54) <| pc (k_palingref15_Place h56) <| pc (h57) <| pc (k_palingref15_Place h59) <| pc (h60) <| pc (h61) <| pc (h62) <| pc (ob61 h64) <| pc (ob66 h66) <| pc (h67) <| pc (ob61 h69) <| pc (h70) <| pn)
                · injection h with h; subst h; exact runLp_sound mixedOrders (live := [1, 2, 9]) (ids := [0]) (π := [.dec true, .row (c76 x53), .callv (.v (.bool r55)), .dec false, .callv (.v (.bool r58)), .dec false, .dec false, .dec false, .row (c61 x63), .row (c66 x65), .dec false, .row (c61 x68), .dec false]) (hx := by kernel_rfl) (hps := pc (h52) <| pc (ob76 h54) <| pc (k_palingref15_Place h56) <| pc (h57) <| pc (k_palingref15_Place h59) <| pc (h60) <| pc (h61) <| pc (h62) <| pc (ob61 h64) <| pc (ob66 h66) <| pc (h67) <| pc (ob61 h69) <| pc (h70) <| pn)
    · injection h with h; subst h; exact runLp_sound mixedOrders (live := [2]) (ids := []) (π := [.dec false]) (hx := by kernel_rfl) (hps := pc (h52) <| pn)
  · rcases r with _ | _ <;> exact Ex.noConfusion

theorem k_palingref15_rest {a1 : Api_Net} {r : Bool} (h : palingref15_rest a1 = some r) :
    CallsOK Tryz.prog UU 25 [.agg (c31 a1)] [] (.v (.bool r)) [] := by
  unfold palingref15_rest at h
  obtain ⟨r23, h22, h⟩ := bind_out h
  rcases r23 with _ | _
  · injection h with h; subst h; exact runFn_sound mixedOrders Tryz.func25 rfl (keep := none) (π := [.sum [1, 2, 3] [0] .ret [(2, .v (.bool false))] []]) (hrun := by kernel_rfl) (hps := pc (k_palingref15_rest_L1 _ _ h22) <| pn)
  · obtain ⟨r35, h34, h⟩ := bind_out h
    rcases r35 with _ | _
    · injection h with h; subst h; exact runFn_sound mixedOrders Tryz.func25 rfl (keep := none) (π := [.sum [1, 2, 3] [0] (.exit 0) [(1, .op 0 1 0 0), (2, .v (.bool false))] [.box 31 (c31 a1) false], .sum [1, 2, 6] [0] .ret [(2, .v (.bool false))] []]) (hrun := by kernel_rfl) (hps := pc (k_palingref15_rest_L1 _ _ h22) <| pc (k_palingref15_rest_L2 _ _ h34) <| pn)
    · obtain ⟨r50, h49, h⟩ := bind_out h
      rcases r50 with _ | _
      · injection h with h; subst h; exact runFn_sound mixedOrders Tryz.func25 rfl (keep := none) (π := [.sum [1, 2, 3] [0] (.exit 0) [(1, .op 0 1 0 0), (2, .v (.bool false))] [.box 31 (c31 a1) false], .sum [1, 2, 6] [0] (.exit 2) [(1, .op 0 1 0 0), (2, .v (.bool false))] [.box 31 (c31 a1) false], .sum [1, 2, 7] [0] .ret [(2, .v (.bool false))] []]) (hrun := by kernel_rfl) (hps := pc (k_palingref15_rest_L1 _ _ h22) <| pc (k_palingref15_rest_L2 _ _ h34) <| pc (k_palingref15_rest_L3 _ _ h49) <| pn)
      · obtain ⟨r72, h71, h⟩ := bind_out h
        rcases r72 with _ | _
        · injection h with h; subst h; exact runFn_sound mixedOrders Tryz.func25 rfl (keep := none) (π := [.sum [1, 2, 3] [0] (.exit 0) [(1, .op 0 1 0 0), (2, .v (.bool false))] [.box 31 (c31 a1) false], .sum [1, 2, 6] [0] (.exit 2) [(1, .op 0 1 0 0), (2, .v (.bool false))] [.box 31 (c31 a1) false], .sum [1, 2, 7] [0] (.exit 4) [(1, .op 0 1 0 0), (2, .v (.bool false))] [.box 31 (c31 a1) false], .sum [1, 2, 9] [0] .ret [(2, .v (.bool false))] []]) (hrun := by kernel_rfl) (hps := pc (k_palingref15_rest_L1 _ _ h22) <| pc (k_palingref15_rest_L2 _ _ h34) <| pc (k_palingref15_rest_L3 _ _ h49) <| pc (k_palingref15_rest_L4 _ _ h71) <| pn)
        · injection h with h; subst h; exact runFn_sound mixedOrders Tryz.func25 rfl (keep := none) (π := [.sum [1, 2, 3] [0] (.exit 0) [(1, .op 0 1 0 0), (2, .v (.bool false))] [.box 31 (c31 a1) false], .sum [1, 2, 6] [0] (.exit 2) [(1, .op 0 1 0 0), (2, .v (.bool false))] [.box 31 (c31 a1) false], .sum [1, 2, 7] [0] (.exit 4) [(1, .op 0 1 0 0), (2, .v (.bool false))] [.box 31 (c31 a1) false], .sum [1, 2, 9] [0] (.exit 6) [(2, .v (.bool false))] []]) (hrun := by kernel_rfl) (hps := pc (k_palingref15_rest_L1 _ _ h22) <| pc (k_palingref15_rest_L2 _ _ h34) <| pc (k_palingref15_rest_L3 _ _ h49) <| pc (k_palingref15_rest_L4 _ _ h71) <| pn)

theorem k_palingref15_Right {a1 : Api_Net} {r : Bool} (h : palingref15_Right a1 = some r) :
    CallsOK Tryz.prog UU 8 [.agg (c31 a1)] [] (.v (.bool r)) [] := by
  unfold palingref15_Right at h
  rcases ite_out h with ⟨h2, h⟩ | ⟨h2, h⟩
  · injection h with h; subst h; exact runFn_sound mixedOrders Tryz.func8 rfl (keep := none) (π := [.dec true]) (hrun := by kernel_rfl) (hps := pc (h2) <| pn)
  · rcases ite_out h with ⟨h3, h⟩ | ⟨h3, h⟩
    · injection h with h; subst h; exact runFn_sound mixedOrders Tryz.func8 rfl (keep := none) (π := [.dec false, .dec true]) (hrun := by kernel_rfl) (hps := pc (h2) <| pc (h3) <| pn)
    · rcases ite_out h with ⟨h4, h⟩ | ⟨h4, h⟩
      · injection h with h; subst h; exact runFn_sound mixedOrders Tryz.func8 rfl (keep := none) (π := [.dec false, .dec false, .dec true]) (hrun := by kernel_rfl) (hps := pc (h2) <| pc (h3) <| pc (h4) <| pn)
      · rcases ite_out h with ⟨h5, h⟩ | ⟨h5, h⟩
        · injection h with h; subst h; exact runFn_sound mixedOrders Tryz.func8 rfl (keep := none) (π := [.dec false, .dec false, .dec false, .dec true]) (hrun := by kernel_rfl) (hps := pc (h2) <| pc (h3) <| pc (h4) <| pc (h5) <| pn)
        · rcases ite_out h with ⟨h6, h⟩ | ⟨h6, h⟩
          · injection h with h; subst h; exact runFn_sound mixedOrders Tryz.func8 rfl (keep := none) (π := [.dec false, .dec false, .dec false, .dec false, .dec true]) (hrun := by kernel_rfl) (hps := pc (h2) <| pc (h3) <| pc (h4) <| pc (h5) <| pc (h6) <| pn)
          · rcases ite_out h with ⟨h7, h⟩ | ⟨h7, h⟩
            · injection h with h; subst h; exact runFn_sound mixedOrders Tryz.func8 rfl (keep := none) (π := [.dec false, .dec false, .dec false, .dec false, .dec false, .dec true]) (hrun := by kernel_rfl) (hps := pc (h2) <| pc (h3) <| pc (h4) <| pc (h5) <| pc (h6) <| pc (h7) <| pn)
            · rcases ite_out h with ⟨h8, h⟩ | ⟨h8, h⟩
              · injection h with h; subst h; exact runFn_sound mixedOrders Tryz.func8 rfl (keep := none) (π := [.dec false, .dec false, .dec false, .dec false, .dec false, .dec false, .dec true]) (hrun := by kernel_rfl) (hps := pc (h2) <| pc (h3) <| pc (h4) <| pc (h5) <| pc (h6) <| pc (h7) <| pc (h8) <| pn)
              · rcases ite_out h with ⟨h9, h⟩ | ⟨h9, h⟩
                · injection h with h; subst h; exact runFn_sound mixedOrders Tryz.func8 rfl (keep := none) (π := [.dec false, .dec false, .dec false, .dec false, .dec false, .dec false, .dec false, .dec true]) (hrun := by kernel_rfl) (hps := pc (h2) <| pc (h3) <| pc (h4) <| pc (h5) <| pc (h6) <| pc (h7) <| pc (h8) <| pc (h9) <| pn)
                · obtain ⟨r10, h11, h⟩ := bind_out h
                  rcases ite_out h with ⟨h12, h⟩ | ⟨h12, h⟩
                  · obtain ⟨r13, h14, h⟩ := bind_out h
                    rcases ite_out h with ⟨h15, h⟩ | ⟨h15, h⟩
                    · obtain ⟨r16, h17, h⟩ := bind_out h
                      rcases ite_out h with ⟨h18, h⟩ | ⟨h18, h⟩
                      · obtain ⟨r19, h20, h⟩ := bind_out h
                        injection h with h; subst h; exact runFn_sound mixedOrders Tryz.func8 rfl (keep := none) (π := [.dec false, .dec false, .dec false, .dec false, .dec false, .dec false, .dec false, .dec false, .callv (.v (.bool r10)), .dec true, .callv (.v (.bool r13)), .dec true, .callv (.v (.bool r16)), .dec true, .callv (.v (.bool r19))]) (hrun := by kernel_rfl) (hps := pc (h2) <| pc (h3) <| pc (h4) <| pc (h5) <| pc (h6) <| pc (h7) <| pc (h8) <| pc (h9) <| pc (k_palingref15_domains h11) <| pc (h12) <| pc (k_palingref15_ports h14) <| pc (h15) <| pc (k_palingref15_links h17) <| pc (h18) <| pc (k_palingref15_rest h20) <| pn)
                      · injection h with h; subst h; exact runFn_sound mixedOrders Tryz.func8 rfl (keep := none) (π := [.dec false, .dec false, .dec false, .dec false, .dec false, .dec false, .dec false, .dec false, .callv (.v (.bool r10)), .dec true, .callv (.v (.bool r13)), .dec true, .callv (.v (.bool r16)), .dec false]) (hrun := by kernel_rfl) (hps := pc (h2) <| pc (h3) <| pc (h4) <| pc (h5) <| pc (h6) <| pc (h7) <| pc (h8) <| pc (h9) <| pc (k_palingref15_domains h11) <| pc (h12) <| pc (k_palingref15_ports h14) <| pc (h15) <| pc (k_palingref15_links h17) <| pc (h18) <| pn)
                    · injection h with h; subst h; exact runFn_sound mixedOrders Tryz.func8 rfl (keep := none) (π := [.dec false, .dec false, .dec false, .dec false, .dec false, .dec false, .dec false, .dec false, .callv (.v (.bool r10)), .dec true, .callv (.v (.bool r13)), .dec false]) (hrun := by kernel_rfl) (hps := pc (h2) <| pc (h3) <| pc (h4) <| pc (h5) <| pc (h6) <| pc (h7) <| pc (h8) <| pc (h9) <| pc (k_palingref15_domains h11) <| pc (h12) <| pc (k_palingref15_ports h14) <| pc (h15) <| pn)
                  · injection h with h; subst h; exact runFn_sound mixedOrders Tryz.func8 rfl (keep := none) (π := [.dec false, .dec false, .dec false, .dec false, .dec false, .dec false, .dec false, .dec false, .callv (.v (.bool r10)), .dec false]) (hrun := by kernel_rfl) (hps := pc (h2) <| pc (h3) <| pc (h4) <| pc (h5) <| pc (h6) <| pc (h7) <| pc (h8) <| pc (h9) <| pc (k_palingref15_domains h11) <| pc (h12) <| pn)

theorem k_palingref28_vtep {a1 : Api_Net} {a2 : Int} {r : Int} (h : palingref28_vtep a1 a2 = some r) :
    CallsOK Tryz.prog UU 45 [.agg (c31 a1), .v (.int .i64 a2)] [] (.v (.int .u32 r)) [] := by
  unfold palingref28_vtep at h
  obtain ⟨x3, h4, h⟩ := bind_out h
  obtain ⟨x5, h6, h⟩ := bind_out h
  injection h with h; subst h; exact runFn_sound mixedOrders Tryz.func45 rfl (keep := none) (π := [.row (c61 x3), .row (c89 x5)]) (hrun := by kernel_rfl) (hps := pc (ob61 h4) <| pc (ob89 h6) <| pn)

theorem k_palingref01_Bytes_L2 {a1 : Int} {l2 : List Int} {v3 : Int} : LoopOK Tryz.prog UU 0 26 (subC (codeOf Tryz.f119) [1, 1, 0, 1, 0, 0, 1, 0, 0, 1, 0, 1, 0, 0]) (fun s : Int × Int => match s with | (v5, v6) => palingref01_Bytes_L2 a1 l2 v3 v5 v6)
    (fun s : Int × Int => (match s with | (v5, v6) => [(0, .v (.int .u64 a1)), (2, .os 0 0), (3, .os 1 (List.length l2)), (4, .v (.int .i64 v3)), (5, .v (.int .u64 v5)), (6, .v (.int .i64 v6))] : Fr DD)) (fun s : Int × Int => (match s with | (v5, v6) => [.n 5, .arr 5 l2 (List.length l2) false] : Heap DD)) (fun r => match r with | v9 => .exit 2) (fun r => match r with | v9 => [(0, .v (.int .u64 a1)), (2, .os 0 0), (3, .os 1 (List.length l2)), (4, .v (.int .i64 v3)), (5, .v (.int .u64 v9))]) (fun r => match r with | v9 => [.n 5, .arr 5 l2 (List.length l2) false]) := by
  refine loop_sound3 (fun s q h => ?_) (fun r => ?_)
  · obtain ⟨v5, v6⟩ := s; replace h : palingref01_Bytes_L2 a1 l2 v3 v5 v6 = some q := h
    unfold palingref01_Bytes_L2 at h
    rcases ite_out h with ⟨h7, h⟩ | ⟨h7, h⟩
    · injection h with h; subst h; exact runLp_sound mixedOrders (live := [0, 2, 3, 4, 5, 6]) (ids := [0, 1]) (π := [.dec true]) (hx := by kernel_rfl) (hps := pc (h7) <| pc ((show (256 : Int) ≠ 0 from by decide)) <| pn)
    · injection h with h; subst h; exact runLp_sound mixedOrders (live := [0, 2, 3, 4, 5]) (ids := [0, 1]) (π := [.dec false]) (hx := by kernel_rfl) (hps := pc (h7) <| pn)
  · exact Ex.noConfusion

theorem k_palingref01_Bytes_L1 {a1 : Int} : LoopOK Tryz.prog UU 0 26 (subC (codeOf Tryz.f119) [1, 1, 0, 1, 0, 0]) (fun s : (List Int) × Int => match s with | (l2, v3) => palingref01_Bytes_L1 a1 l2 v3)
    (fun s : (List Int) × Int => (match s with | (l2, v3) => [(0, .v (.int .u64 a1)), (2, .os 0 0), (3, .os 1 (List.length l2)), (4, .v (.int .i64 v3))] : Fr DD)) (fun s : (List Int) × Int => (match s with | (l2, v3) => [.n 5, .arr 5 l2 (List.length l2) false] : Heap DD)) (fun r => match r with | l15 => .exit 0) (fun r => match r with | l15 => [(2, .os 0 0), (3, .os 1 (List.length l15))]) (fun r => match r with | l15 => [.n 5, .arr 5 l15 (List.length l15) false]) := by
  refine loop_sound3 (fun s q h => ?_) (fun r => ?_)
  · obtain ⟨l2, v3⟩ := s; replace h : palingref01_Bytes_L1 a1 l2 v3 = some q := h
    unfold palingref01_Bytes_L1 at h
    rcases ite_out h with ⟨h4, h⟩ | ⟨h4, h⟩
    · obtain ⟨v9, h10, h⟩ := bind_out h
      rcases ite_out h with ⟨h12, h⟩ | ⟨h12, h⟩
      · injection h with h; subst h; exact runLp_sound mixedOrders (live := [0, 2, 3, 4]) (ids := [0, 1]) (π := [.dec true, .sum [0, 2, 3, 4, 5, 6] [0, 1] (.exit 2) [(0, .v (.int .u64 a1)), (2, .os 0 0), (3, .os 1 (List.length l2)), (4, .v (.int .i64 v3)), (5, .v (.int .u64 v9))] [.n 5, .arr 5 l2 (List.length l2) false], .obj [] (.arr 5 [(wr_u8 (Int.tmod v9 256) : Int)] (List.length [(wr_u8 (Int.tmod v9 256) : Int)]) false), .obj [] (.arr 5 (l2 ++ [(wr_u8 (Int.tmod v9 256) : Int)]) (List.length (l2 ++ [(wr_u8 (Int.tmod v9 256) : Int)])) false)]) (hx := by kernel_rfl) (hps := pc (h4) <| pc (k_palingref01_Bytes_L2 _ _ h10) <| pc ((show (256 : Int) ≠ 0 from by decide)) <| pc (bs_ob 5 [(wr_u8 (Int.tmod v9 256) : Int)]) <| pc (app_ob 5 (n := (List.length l2)) (l := l2) (xs := [(wr_u8 (Int.tmod v9 256) : Int)]) h12) <| pc ((rfl : ((List.length [(wr_u8 (Int.tmod v9 256) : Int)]) : Nat) = (List.length [(wr_u8 (Int.tmod v9 256) : Int)]))) <| pn)
      · cases h
    · injection h with h; subst h; exact runLp_sound mixedOrders (live := [2, 3]) (ids := [0, 1]) (π := [.dec false]) (hx := by kernel_rfl) (hps := pc (h4) <| pn)
  · exact Ex.noConfusion

theorem k_palingref01_Bytes {a1 : Int} {r : ((List Int))} (h : palingref01_Bytes a1 = some r) :
    CallsOK Tryz.prog UU 119 [.v (.int .u64 a1)] [] ((fun r => match r with | l18 => .os 0 (List.length l18)) r) ((fun r => match r with | l18 => [.arr 5 l18 (List.length l18) false]) r) := by
  unfold palingref01_Bytes at h
  obtain ⟨l15, h16, h⟩ := bind_out h
  injection h with h; subst h; exact runFn_sound mixedOrders Tryz.func119 rfl (keep := some [1]) (π := [.sum [0, 2, 3, 4] [0, 1] (.exit 0) [(2, .os 0 0), (3, .os 1 (List.length l15))] [.n 5, .arr 5 l15 (List.length l15) false]]) (hrun := by kernel_rfl) (hps := pc (k_palingref01_Bytes_L1 _ _ h16) <| pn)

theorem k_palingref04_Put {a1 : Api_Frame} {r : ((List Int) × Int)} (h : palingref04_Put a1 = some r) :
    CallsOK Tryz.prog UU 104 [.agg (c36 a1)] [] ((fun r => match r with | (l16, v17) => .tup [.os 0 (List.length l16), .v (.int .i64 v17)]) r) ((fun r => match r with | (l16, v17) => [.arr 5 l16 (List.length l16) false]) r) := by
  unfold palingref04_Put at h
  rcases ite_out h with ⟨h2, h⟩ | ⟨h2, h⟩
  · injection h with h; subst h; exact runFn_sound mixedOrders Tryz.func104 rfl (keep := some [2]) (π := [.dec true]) (hrun := by kernel_rfl) (hps := pc (h2) <| pn)
  · rcases ite_out h with ⟨h3, h⟩ | ⟨h3, h⟩
    · injection h with h; subst h; exact runFn_sound mixedOrders Tryz.func104 rfl (keep := some [2]) (π := [.dec false, .dec true]) (hrun := by kernel_rfl) (hps := pc (h2) <| pc (h3) <| pn)
    · rcases ite_out h with ⟨h4, h⟩ | ⟨h4, h⟩
      · injection h with h; subst h; exact runFn_sound mixedOrders Tryz.func104 rfl (keep := some [2]) (π := [.dec false, .dec false, .dec true]) (hrun := by kernel_rfl) (hps := pc (h2) <| pc (h3) <| pc (h4) <| pn)
      · rcases ite_out h with ⟨h5, h⟩ | ⟨h5, h⟩
        · injection h with h; subst h; exact runFn_sound mixedOrders Tryz.func104 rfl (keep := some [2]) (π := [.dec false, .dec false, .dec false, .dec true]) (hrun := by kernel_rfl) (hps := pc (h2) <| pc (h3) <| pc (h4) <| pc (h5) <| pn)
        · rcases ite_out h with ⟨h6, h⟩ | ⟨h6, h⟩
          · injection h with h; subst h; exact runFn_sound mixedOrders Tryz.func104 rfl (keep := some [2]) (π := [.dec false, .dec false, .dec false, .dec false, .dec true]) (hrun := by kernel_rfl) (hps := pc (h2) <| pc (h3) <| pc (h4) <| pc (h5) <| pc (h6) <| pn)
          · obtain ⟨l9, h8, h⟩ := bind_out h
            obtain ⟨l12, h11, h⟩ := bind_out h
            rcases ite_out h with ⟨h13, h⟩ | ⟨h13, h⟩
            · rcases ite_out h with ⟨h14, h⟩ | ⟨h14, h⟩
              · rcases ite_out h with ⟨h15, h⟩ | ⟨h15, h⟩
                · injection h with h; subst h; exact runFn_sound mixedOrders Tryz.func104 rfl (keep := some [2]) (π := [.dec false, .dec false, .dec false, .dec false, .dec false, .sum [2] [] .nor [] [.box 36 (c36 a1) false, .n 5, .arr 5 l9 (List.length l9) false], .callo (.os 0 (List.length l9)) [.arr 5 l9 (List.length l9) false], .callo (.os 0 (List.length l12)) [.arr 5 l12 (List.length l12) false], .obj [] (.arr 5 (l9 ++ l12) (List.length (l9 ++ l12)) false), .obj [] (.arr 5 [(wr_u8 (wr_i64 (Int.tdiv a1.type_ 256)) : Int), (wr_u8 (Int.tmod a1.type_ 256) : Int)] (List.length [(wr_u8 (wr_i64 (Int.tdiv a1.type_ 256)) : Int), (wr_u8 (Int.tmod a1.type_ 256) : Int)]) false), .obj [] (.arr 5 ((l9 ++ l12) ++ [(wr_u8 (wr_i64 (Int.tdiv a1.type_ 256)) : Int), (wr_u8 (Int.tmod a1.type_ 256) : Int)]) (List.length ((l9 ++ l12) ++ [(wr_u8 (wr_i64 (Int.tdiv a1.type_ 256)) : Int), (wr_u8 (Int.tmod a1.type_ 256) : Int)])) false), .obj [] (.arr 5 (((l9 ++ l12) ++ [(wr_u8 (wr_i64 (Int.tdiv a1.type_ 256)) : Int), (wr_u8 (Int.tmod a1.type_ 256) : Int)]) ++ a1.body) (List.length (((l9 ++ l12) ++ [(wr_u8 (wr_i64 (Int.tdiv a1.type_ 256)) : Int), (wr_u8 (Int.tmod a1.type_ 256) : Int)]) ++ a1.body)) false)]) (hrun := by kernel_rfl) (hps := pc (h2) <| pc (h3) <| pc (h4) <| pc (h5) <| pc (h6) <| pc ((rfl : ([.box 36 (c36 a1) false, .n 5, .arr 5 l9 (List.length l9) false] : Heap DD) = [.box 36 (c36 a1) false, .n 5, .arr 5 l9 (List.length l9) false])) <| pc (k_palingref01_Bytes h8) <| pc (im5 l9) <| pc ((rfl : (.op 0 1 0 1 : AV DD) = .op 0 1 0 1)) <| pc ((rfl : (.v (.int .u64 a1.src) : AV DD) = .v (.int .u64 a1.src))) <| pc (k_palingref01_Bytes h11) <| pc (im5 l12) <| pc (app_ob 5 (n := (List.length l9)) (l := l9) (xs := l12) h13) <| pc ((rfl : ((List.length l12) : Nat) = (List.length l12))) <| pc ((show (256 : Int) ≠ 0 from by decide)) <| pc ((show (256 : Int) ≠ 0 from by decide)) <| pc (bs_ob 5 [(wr_u8 (wr_i64 (Int.tdiv a1.type_ 256)) : Int), (wr_u8 (Int.tmod a1.type_ 256) : Int)]) <| pc (app_ob 5 (n := (List.length (l9 ++ l12))) (l := l9 ++ l12) (xs := [(wr_u8 (wr_i64 (Int.tdiv a1.type_ 256)) : Int), (wr_u8 (Int.tmod a1.type_ 256) : Int)]) h14) <| pc ((rfl : ((List.length [(wr_u8 (wr_i64 (Int.tdiv a1.type_ 256)) : Int), (wr_u8 (Int.tmod a1.type_ 256) : Int)]) : Nat) = (List.length [(wr_u8 (wr_i64 (Int.tdiv a1.type_ 256)) : Int), (wr_u8 (Int.tmod a1.type_ 256) : Int)]))) <| pc (app_ob 5 (n := (List.length ((l9 ++ l12) ++ [(wr_u8 (wr_i64 (Int.tdiv a1.type_ 256)) : Int), (wr_u8 (Int.tmod a1.type_ 256) : Int)]))) (l := (l9 ++ l12) ++ [(wr_u8 (wr_i64 (Int.tdiv a1.type_ 256)) : Int), (wr_u8 (Int.tmod a1.type_ 256) : Int)]) (xs := a1.body) h15) <| pn)
                · cases h
              · cases h
            · cases h

theorem k_palingref09_Head {a1 : Int} {r : ((List Int) × Int)} (h : palingref09_Head a1 = some r) :
    CallsOK Tryz.prog UU 105 [.v (.int .i64 a1)] [] ((fun r => match r with | (l4, v5) => .tup [.os 0 (List.length l4), .v (.int .i64 v5)]) r) ((fun r => match r with | (l4, v5) => [.arr 5 l4 (List.length l4) false]) r) := by
  unfold palingref09_Head at h
  rcases ite_out h with ⟨h2, h⟩ | ⟨h2, h⟩
  · injection h with h; subst h; exact runFn_sound mixedOrders Tryz.func105 rfl (keep := some [1]) (π := [.dec true]) (hrun := by kernel_rfl) (hps := pc (h2) <| pn)
  · rcases ite_out h with ⟨h3, h⟩ | ⟨h3, h⟩
    · injection h with h; subst h; exact runFn_sound mixedOrders Tryz.func105 rfl (keep := some [1]) (π := [.dec false, .dec true]) (hrun := by kernel_rfl) (hps := pc (h2) <| pc (h3) <| pn)
    · injection h with h; subst h; exact runFn_sound mixedOrders Tryz.func105 rfl (keep := some [1]) (π := [.dec false, .dec false, .obj [] (.arr 5 [(8 : Int), (0 : Int), (0 : Int), (0 : Int), (wr_u8 (wr_i64 (Int.tdiv a1 65536)) : Int), (wr_u8 (Int.tmod (wr_i64 (Int.tdiv a1 256)) 256) : Int), (wr_u8 (Int.tmod a1 256) : Int), (0 : Int)] (List.length [(8 : Int), (0 : Int), (0 : Int), (0 : Int), (wr_u8 (wr_i64 (Int.tdiv a1 65536)) : Int), (wr_u8 (Int.tmod (wr_i64 (Int.tdiv a1 256)) 256) : Int), (wr_u8 (Int.tmod a1 256) : Int), (0 : Int)]) false)]) (hrun := by kernel_rfl) (hps := pc (h2) <| pc (h3) <| pc ((show (65536 : Int) ≠ 0 from by decide)) <| pc ((show (256 : Int) ≠ 0 from by decide)) <| pc ((show (256 : Int) ≠ 0 from by decide)) <| pc ((show (256 : Int) ≠ 0 from by decide)) <| pc (bs_ob 5 [(8 : Int), (0 : Int), (0 : Int), (0 : Int), (wr_u8 (wr_i64 (Int.tdiv a1 65536)) : Int), (wr_u8 (Int.tmod (wr_i64 (Int.tdiv a1 256)) 256) : Int), (wr_u8 (Int.tmod a1 256) : Int), (0 : Int)]) <| pn)

theorem k_palingref08_Port_L1 : LoopOK Tryz.prog UU 0 28 (subC (codeOf Tryz.f107) [1, 1, 1, 0, 1, 0, 0]) (fun s : Int × Int × Int × Int × Int => match s with | (v3, v4, v5, v6, v7) => palingref08_Port_L1 v3 v4 v5 v6 v7)
    (fun s : Int × Int × Int × Int × Int => (match s with | (v3, v4, v5, v6, v7) => [(0, .v (.int .u64 v3)), (1, .v (.int .u64 v4)), (4, .z), (5, .v (.int .i64 v5)), (6, .v (.int .i64 v6)), (7, .v (.int .i64 v7))] : Fr DD)) (fun s : Int × Int × Int × Int × Int => (match s with | (v3, v4, v5, v6, v7) => [] : Heap DD)) (fun r => match r with | v11 => .exit 0) (fun r => match r with | v11 => [(4, .z), (5, .v (.int .i64 v11))]) (fun r => match r with | v11 => []) := by
  refine loop_sound3 (fun s q h => ?_) (fun r => ?_)
  · obtain ⟨v3, v4, v5, v6, v7⟩ := s; replace h : palingref08_Port_L1 v3 v4 v5 v6 v7 = some q := h
    unfold palingref08_Port_L1 at h
    rcases ite_out h with ⟨h8, h⟩ | ⟨h8, h⟩
    · rcases ite_out h with ⟨h9, h⟩ | ⟨h9, h⟩
      · injection h with h; subst h; exact runLp_sound mixedOrders (live := [0, 1, 4, 5, 6, 7]) (ids := []) (π := [.dec true, .dec true]) (hx := by kernel_rfl) (hps := pc (h8) <| pc ((show (2 : Int) ≠ 0 from by decide)) <| pc ((show (2 : Int) ≠ 0 from by decide)) <| pc (h9) <| pc ((show (2 : Int) ≠ 0 from by decide)) <| pc ((show (2 : Int) ≠ 0 from by decide)) <| pn)
      · injection h with h; subst h; exact runLp_sound mixedOrders (live := [0, 1, 4, 5, 6, 7]) (ids := []) (π := [.dec true, .dec false]) (hx := by kernel_rfl) (hps := pc (h8) <| pc ((show (2 : Int) ≠ 0 from by decide)) <| pc ((show (2 : Int) ≠ 0 from by decide)) <| pc (h9) <| pc ((show (2 : Int) ≠ 0 from by decide)) <| pc ((show (2 : Int) ≠ 0 from by decide)) <| pn)
    · injection h with h; subst h; exact runLp_sound mixedOrders (live := [4, 5]) (ids := []) (π := [.dec false]) (hx := by kernel_rfl) (hps := pc (h8) <| pn)
  · exact Ex.noConfusion

theorem k_palingref08_Port {a1 : Int} {a2 : Int} {r : Int} (h : palingref08_Port a1 a2 = some r) :
    CallsOK Tryz.prog UU 107 [.v (.int .u64 a1), .v (.int .u64 a2)] [] (.v (.int .i64 r)) [] := by
  unfold palingref08_Port at h
  obtain ⟨v11, h12, h⟩ := bind_out h
  injection h with h; subst h; exact runFn_sound mixedOrders Tryz.func107 rfl (keep := none) (π := [.sum [0, 1, 4, 5, 6, 7] [] (.exit 0) [(4, .z), (5, .v (.int .i64 v11))] []]) (hrun := by kernel_rfl) (hps := pc (k_palingref08_Port_L1 _ _ h12) <| pn)

theorem k_palingref08_Put {a1 : Int} {a2 : Int} {a3 : List Int} {r : ((List Int) × Int)} (h : palingref08_Put a1 a2 a3 = some r) :
    CallsOK Tryz.prog UU 106 [.v (.int .i64 a1), .v (.int .i64 a2), .sl 5 a3] [] ((fun r => match r with | (l10, v11) => .tup [.os 0 (List.length l10), .v (.int .i64 v11)]) r) ((fun r => match r with | (l10, v11) => [.arr 5 l10 (List.length l10) false]) r) := by
  unfold palingref08_Put at h
  rcases ite_out h with ⟨h4, h⟩ | ⟨h4, h⟩
  · injection h with h; subst h; exact runFn_sound mixedOrders Tryz.func106 rfl (keep := some [1]) (π := [.dec true]) (hrun := by kernel_rfl) (hps := pc (h4) <| pn)
  · rcases ite_out h with ⟨h5, h⟩ | ⟨h5, h⟩
    · injection h with h; subst h; exact runFn_sound mixedOrders Tryz.func106 rfl (keep := some [1]) (π := [.dec false, .dec true]) (hrun := by kernel_rfl) (hps := pc (h4) <| pc (h5) <| pn)
    · rcases ite_out h with ⟨h6, h⟩ | ⟨h6, h⟩
      · injection h with h; subst h; exact runFn_sound mixedOrders Tryz.func106 rfl (keep := some [1]) (π := [.dec false, .dec false, .dec true]) (hrun := by kernel_rfl) (hps := pc (h4) <| pc (h5) <| pc (h6) <| pn)
      · rcases ite_out h with ⟨h7, h⟩ | ⟨h7, h⟩
        · injection h with h; subst h; exact runFn_sound mixedOrders Tryz.func106 rfl (keep := some [1]) (π := [.dec false, .dec false, .dec false, .dec true]) (hrun := by kernel_rfl) (hps := pc (h4) <| pc (h5) <| pc (h6) <| pc (h7) <| pn)
        · rcases ite_out h with ⟨h8, h⟩ | ⟨h8, h⟩
          · injection h with h; subst h; exact runFn_sound mixedOrders Tryz.func106 rfl (keep := some [1]) (π := [.dec false, .dec false, .dec false, .dec false, .dec true]) (hrun := by kernel_rfl) (hps := pc (h4) <| pc (h5) <| pc (h6) <| pc (h7) <| pc (h8) <| pn)
          · rcases ite_out h with ⟨h9, h⟩ | ⟨h9, h⟩
            · injection h with h; subst h; exact runFn_sound mixedOrders Tryz.func106 rfl (keep := some [1]) (π := [.dec false, .dec false, .dec false, .dec false, .dec false, .obj [] (.arr 5 [(wr_u8 (wr_i64 (Int.tdiv a1 256)) : Int), (wr_u8 (Int.tmod a1 256) : Int), (wr_u8 (wr_i64 (Int.tdiv a2 256)) : Int), (wr_u8 (Int.tmod a2 256) : Int), (wr_u8 (wr_i64 (Int.tdiv (wr_i64 (8 + (a3.length : Int))) 256)) : Int), (wr_u8 (Int.tmod (wr_i64 (8 + (a3.length : Int))) 256) : Int), (0 : Int), (0 : Int)] (List.length [(wr_u8 (wr_i64 (Int.tdiv a1 256)) : Int), (wr_u8 (Int.tmod a1 256) : Int), (wr_u8 (wr_i64 (Int.tdiv a2 256)) : Int), (wr_u8 (Int.tmod a2 256) : Int), (wr_u8 (wr_i64 (Int.tdiv (wr_i64 (8 + (a3.length : Int))) 256)) : Int), (wr_u8 (Int.tmod (wr_i64 (8 + (a3.length : Int))) 256) : Int), (0 : Int), (0 : Int)]) false), .obj [] (.arr 5 ([(wr_u8 (wr_i64 (Int.tdiv a1 256)) : Int), (wr_u8 (Int.tmod a1 256) : Int), (wr_u8 (wr_i64 (Int.tdiv a2 256)) : Int), (wr_u8 (Int.tmod a2 256) : Int), (wr_u8 (wr_i64 (Int.tdiv (wr_i64 (8 + (a3.length : Int))) 256)) : Int), (wr_u8 (Int.tmod (wr_i64 (8 + (a3.length : Int))) 256) : Int), (0 : Int), (0 : Int)] ++ a3) (List.length ([(wr_u8 (wr_i64 (Int.tdiv a1 256)) : Int), (wr_u8 (Int.tmod a1 256) : Int), (wr_u8 (wr_i64 (Int.tdiv a2 256)) : Int), (wr_u8 (Int.tmod a2 256) : Int), (wr_u8 (wr_i64 (Int.tdiv (wr_i64 (8 + (a3.length : Int))) 256)) : Int), (wr_u8 (Int.tmod (wr_i64 (8 + (a3.length : Int))) 256) : Int), (0 : Int), (0 : Int)] ++ a3)) false)]) (hrun := by kernel_rfl) (hps := pc (h4) <| pc (h5) <| pc (h6) <| pc (h7) <| pc (h8) <| pc ((show (256 : Int) ≠ 0 from by decide)) <| pc ((show (256 : Int) ≠ 0 from by decide)) <| pc ((show (256 : Int) ≠ 0 from by decide)) <| pc ((show (256 : Int) ≠ 0 from by decide)) <| pc ((show (256 : Int) ≠ 0 from by decide)) <| pc ((show (256 : Int) ≠ 0 from by decide)) <| pc (bs_ob 5 [(wr_u8 (wr_i64 (Int.tdiv a1 256)) : Int), (wr_u8 (Int.tmod a1 256) : Int), (wr_u8 (wr_i64 (Int.tdiv a2 256)) : Int), (wr_u8 (Int.tmod a2 256) : Int), (wr_u8 (wr_i64 (Int.tdiv (wr_i64 (8 + (a3.length : Int))) 256)) : Int), (wr_u8 (Int.tmod (wr_i64 (8 + (a3.length : Int))) 256) : Int), (0 : Int), (0 : Int)]) <| pc (app_ob 5 (n := (List.length [(wr_u8 (wr_i64 (Int.tdiv a1 256)) : Int), (wr_u8 (Int.tmod a1 256) : Int), (wr_u8 (wr_i64 (Int.tdiv a2 256)) : Int), (wr_u8 (Int.tmod a2 256) : Int), (wr_u8 (wr_i64 (Int.tdiv (wr_i64 (8 + (a3.length : Int))) 256)) : Int), (wr_u8 (Int.tmod (wr_i64 (8 + (a3.length : Int))) 256) : Int), (0 : Int), (0 : Int)])) (l := [(wr_u8 (wr_i64 (Int.tdiv a1 256)) : Int), (wr_u8 (Int.tmod a1 256) : Int), (wr_u8 (wr_i64 (Int.tdiv a2 256)) : Int), (wr_u8 (Int.tmod a2 256) : Int), (wr_u8 (wr_i64 (Int.tdiv (wr_i64 (8 + (a3.length : Int))) 256)) : Int), (wr_u8 (Int.tmod (wr_i64 (8 + (a3.length : Int))) 256) : Int), (0 : Int), (0 : Int)]) (xs := a3) h9) <| pn)
            · cases h

theorem k_palingref07_out {a1 : Int} {a2 : Int} {r : Bool} (h : palingref07_out a1 a2 = some r) :
    CallsOK Tryz.prog UU 92 [.v (.int .i64 a1), .v (.int .i64 a2)] [] (.v (.bool r)) [] := by
  unfold palingref07_out at h
  rcases ite_out h with ⟨h3, h⟩ | ⟨h3, h⟩
  · injection h with h; subst h; exact runFn_sound mixedOrders Tryz.func92 rfl (keep := none) (π := [.dec true]) (hrun := by kernel_rfl) (hps := pc (h3) <| pn)
  · injection h with h; subst h; exact runFn_sound mixedOrders Tryz.func92 rfl (keep := none) (π := [.dec false]) (hrun := by kernel_rfl) (hps := pc (h3) <| pn)

theorem k_palingref07_bytes_L1 {a2 : Int} : LoopOK Tryz.prog UU 0 26 (subC (codeOf Tryz.f93) [1, 1, 0, 1, 0, 0]) (fun s : (List Int) × Int × Int => match s with | (l4, v5, v6) => palingref07_bytes_L1 a2 l4 v5 v6)
    (fun s : (List Int) × Int × Int => (match s with | (l4, v5, v6) => [(0, .v (.int .i64 v5)), (1, .v (.int .i64 a2)), (4, .os 0 0), (5, .os 1 (Int.toNat a2)), (6, .v (.int .i64 v6))] : Fr DD)) (fun s : (List Int) × Int × Int => (match s with | (l4, v5, v6) => [.n 5, .arr 5 l4 (Int.toNat a2) false] : Heap DD)) (fun r => match r with | l13 => .exit 0) (fun r => match r with | l13 => [(4, .os 0 0), (5, .os 1 (Int.toNat a2))]) (fun r => match r with | l13 => [.n 5, .arr 5 l13 (Int.toNat a2) false]) := by
  refine loop_sound3 (fun s q h => ?_) (fun r => ?_)
  · obtain ⟨l4, v5, v6⟩ := s; replace h : palingref07_bytes_L1 a2 l4 v5 v6 = some q := h
    unfold palingref07_bytes_L1 at h
    rcases ite_out h with ⟨h7, h⟩ | ⟨h7, h⟩
    · rcases ite_out h with ⟨h8, h⟩ | ⟨h8, h⟩
      · obtain ⟨x9, h10, h⟩ := bind_out h
        injection h with h; subst h; exact runLp_sound mixedOrders (live := [0, 1, 4, 5, 6]) (ids := [0, 1]) (π := [.dec true, .row (c5 x9), .obj [] (.arr 5 (List.set l4 (Int.toNat (wr_i64 ((wr_i64 (a2 - 1)) - v6))) (wr_u8 (Int.tmod v5 256) : Int)) (Int.toNat a2) false)]) (hx := by kernel_rfl) (hps := pc (h7) <| pc ((show (256 : Int) ≠ 0 from by decide)) <| pc (And.intro (rfl : ((Int.toNat a2) : Nat) = (Int.toNat a2)) (lin_ob h8)) <| pc (st_ob (e := 5) (n := (Int.toNat a2)) (l := l4) (i := (Int.toNat (wr_i64 ((wr_i64 (a2 - 1)) - v6)))) (wr_u8 (Int.tmod v5 256) : Int) [.v (.int .u8 (wr_u8 (Int.tmod v5 256)))] (obn5 h10) rfl) <| pc ((show (256 : Int) ≠ 0 from by decide)) <| pn)
      · cases h
    · injection h with h; subst h; exact runLp_sound mixedOrders (live := [4, 5]) (ids := [0, 1]) (π := [.dec false]) (hx := by kernel_rfl) (hps := pc (h7) <| pn)
  · exact Ex.noConfusion

theorem k_palingref07_bytes {a1 : Int} {a2 : Int} {r : ((List Int))} (h : palingref07_bytes a1 a2 = some r) :
    CallsOK Tryz.prog UU 93 [.v (.int .i64 a1), .v (.int .i64 a2)] [] ((fun r => match r with | l16 => .os 0 (Int.toNat a2)) r) ((fun r => match r with | l16 => [.arr 5 l16 (Int.toNat a2) false]) r) := by
  unfold palingref07_bytes at h
  rcases ite_out h with ⟨h3, h⟩ | ⟨h3, h⟩
  · obtain ⟨l13, h14, h⟩ := bind_out h
    injection h with h; subst h; exact runFn_sound mixedOrders Tryz.func93 rfl (keep := some [1]) (π := [.obj [] (.arr 5 (List.replicate (Int.toNat a2) (0 : Int)) (Int.toNat a2) false), .sum [0, 1, 4, 5, 6] [0, 1] (.exit 0) [(4, .os 0 0), (5, .os 1 (Int.toNat a2))] [.n 5, .arr 5 l13 (Int.toNat a2) false]]) (hrun := by kernel_rfl) (hps := pc (mk_ob 5 (0 : Int) h3) <| pc ((rfl : ((Int.toNat a2) : Nat) = (Int.toNat a2))) <| pc (k_palingref07_bytes_L1 _ _ h14) <| pn)
  · cases h

theorem k_palingref06_Sum_L1 {a1 : List Int} : LoopOK Tryz.prog UU 0 39 (subC (codeOf Tryz.f136) [1, 1, 0, 1, 0, 0]) (fun s : Int × Int => match s with | (v2, v3) => palingref06_Sum_L1 a1 v2 v3)
    (fun s : Int × Int => (match s with | (v2, v3) => [(0, .sl 5 a1), (2, .z), (3, .v (.int .i64 v2)), (4, .v (.int .i64 v3))] : Fr DD)) (fun s : Int × Int => (match s with | (v2, v3) => [] : Heap DD)) (fun r => match r with | v13 => .exit 0) (fun r => match r with | v13 => [(2, .z), (3, .v (.int .i64 v13))]) (fun r => match r with | v13 => []) := by
  refine loop_sound3 (fun s q h => ?_) (fun r => ?_)
  · obtain ⟨v2, v3⟩ := s; replace h : palingref06_Sum_L1 a1 v2 v3 = some q := h
    unfold palingref06_Sum_L1 at h
    rcases ite_out h with ⟨h4, h⟩ | ⟨h4, h⟩
    · obtain ⟨x5, h6, h⟩ := bind_out h
      rcases ite_out h with ⟨h7, h⟩ | ⟨h7, h⟩
      · obtain ⟨x8, h9, h⟩ := bind_out h
        rcases ite_out h with ⟨h10, h⟩ | ⟨h10, h⟩
        · injection h with h; subst h; exact runLp_sound mixedOrders (live := [0, 2, 3, 4]) (ids := []) (π := [.dec true, .row (c5 x5), .dec true, .row (c5 x8), .dec true]) (hx := by kernel_rfl) (hps := pc (h4) <| pc (ob5 h6) <| pc (h7) <| pc (ob5 h9) <| pc (h10) <| pn)
        · injection h with h; subst h; exact runLp_sound mixedOrders (live := [0, 2, 3, 4]) (ids := []) (π := [.dec true, .row (c5 x5), .dec true, .row (c5 x8), .dec false]) (hx := by kernel_rfl) (hps := pc (h4) <| pc (ob5 h6) <| pc (h7) <| pc (ob5 h9) <| pc (h10) <| pn)
      · rcases ite_out h with ⟨h11, h⟩ | ⟨h11, h⟩
        · injection h with h; subst h; exact runLp_sound mixedOrders (live := [0, 2, 3, 4]) (ids := []) (π := [.dec true, .row (c5 x5), .dec false, .dec true]) (hx := by kernel_rfl) (hps := pc (h4) <| pc (ob5 h6) <| pc (h7) <| pc (h11) <| pn)
        · injection h with h; subst h; exact runLp_sound mixedOrders (live := [0, 2, 3, 4]) (ids := []) (π := [.dec true, .row (c5 x5), .dec false, .dec false]) (hx := by kernel_rfl) (hps := pc (h4) <| pc (ob5 h6) <| pc (h7) <| pc (h11) <| pn)
    · injection h with h; subst h; exact runLp_sound mixedOrders (live := [2, 3]) (ids := []) (π := [.dec false]) (hx := by kernel_rfl) (hps := pc (h4) <| pn)
  · exact Ex.noConfusion

theorem k_palingref06_Sum {a1 : List Int} {r : Int} (h : palingref06_Sum a1 = some r) :
    CallsOK Tryz.prog UU 136 [.sl 5 a1] [] (.v (.int .i64 r)) [] := by
  unfold palingref06_Sum at h
  obtain ⟨v13, h14, h⟩ := bind_out h
  injection h with h; subst h; exact runFn_sound mixedOrders Tryz.func136 rfl (keep := none) (π := [.sum [0, 2, 3, 4] [] (.exit 0) [(2, .z), (3, .v (.int .i64 v13))] []]) (hrun := by kernel_rfl) (hps := pc (k_palingref06_Sum_L1 _ _ h14) <| pn)

theorem k_palingref06_Of {a1 : List Int} {r : Int} (h : palingref06_Of a1 = some r) :
    CallsOK Tryz.prog UU 94 [.sl 5 a1] [] (.v (.int .i64 r)) [] := by
  unfold palingref06_Of at h
  obtain ⟨r2, h3, h⟩ := bind_out h
  injection h with h; subst h; exact runFn_sound mixedOrders Tryz.func94 rfl (keep := none) (π := [.callv (.v (.int .i64 r2))]) (hrun := by kernel_rfl) (hps := pc (k_palingref06_Sum h3) <| pn)

theorem k_palingref07_Put {a1 : Api_Packet} {r : ((List Int) × Int)} (h : palingref07_Put a1 = some r) :
    CallsOK Tryz.prog UU 36 [.agg (c69 a1)] [] ((fun r => match r with | (l40, v41) => .tup [.os 0 (List.length l40), .v (.int .i64 v41)]) r) ((fun r => match r with | (l40, v41) => [.arr 5 l40 (List.length l40) false]) r) := by
  unfold palingref07_Put at h
  obtain ⟨r2, h3, h⟩ := bind_out h
  rcases ite_out h with ⟨h4, h⟩ | ⟨h4, h⟩
  · injection h with h; subst h; exact runFn_sound mixedOrders Tryz.func36 rfl (keep := some [2]) (π := [.callv (.v (.bool r2)), .dec true]) (hrun := by kernel_rfl) (hps := pc (k_palingref07_out h3) <| pc (h4) <| pn)
  · obtain ⟨r5, h6, h⟩ := bind_out h
    rcases ite_out h with ⟨h7, h⟩ | ⟨h7, h⟩
    · injection h with h; subst h; exact runFn_sound mixedOrders Tryz.func36 rfl (keep := some [2]) (π := [.callv (.v (.bool r2)), .dec false, .callv (.v (.bool r5)), .dec true]) (hrun := by kernel_rfl) (hps := pc (k_palingref07_out h3) <| pc (h4) <| pc (k_palingref07_out h6) <| pc (h7) <| pn)
    · obtain ⟨r8, h9, h⟩ := bind_out h
      rcases ite_out h with ⟨h10, h⟩ | ⟨h10, h⟩
      · injection h with h; subst h; exact runFn_sound mixedOrders Tryz.func36 rfl (keep := some [2]) (π := [.callv (.v (.bool r2)), .dec false, .callv (.v (.bool r5)), .dec false, .callv (.v (.bool r8)), .dec true]) (hrun := by kernel_rfl) (hps := pc (k_palingref07_out h3) <| pc (h4) <| pc (k_palingref07_out h6) <| pc (h7) <| pc (k_palingref07_out h9) <| pc (h10) <| pn)
      · obtain ⟨r11, h12, h⟩ := bind_out h
        rcases ite_out h with ⟨h13, h⟩ | ⟨h13, h⟩
        · injection h with h; subst h; exact runFn_sound mixedOrders Tryz.func36 rfl (keep := some [2]) (π := [.callv (.v (.bool r2)), .dec false, .callv (.v (.bool r5)), .dec false, .callv (.v (.bool r8)), .dec false, .callv (.v (.bool r11)), .dec true]) (hrun := by kernel_rfl) (hps := pc (k_palingref07_out h3) <| pc (h4) <| pc (k_palingref07_out h6) <| pc (h7) <| pc (k_palingref07_out h9) <| pc (h10) <| pc (k_palingref07_out h12) <| pc (h13) <| pn)
        · rcases ite_out h with ⟨h14, h⟩ | ⟨h14, h⟩
          · injection h with h; subst h; exact runFn_sound mixedOrders Tryz.func36 rfl (keep := some [2]) (π := [.callv (.v (.bool r2)), .dec false, .callv (.v (.bool r5)), .dec false, .callv (.v (.bool r8)), .dec false, .callv (.v (.bool r11)), .dec false, .dec true]) (hrun := by kernel_rfl) (hps := pc (k_palingref07_out h3) <| pc (h4) <| pc (k_palingref07_out h6) <| pc (h7) <| pc (k_palingref07_out h9) <| pc (h10) <| pc (k_palingref07_out h12) <| pc (h13) <| pc (h14) <| pn)
          · obtain ⟨l17, h16, h⟩ := bind_out h
            rcases ite_out h with ⟨h18, h⟩ | ⟨h18, h⟩
            · obtain ⟨l21, h20, h⟩ := bind_out h
              rcases ite_out h with ⟨h22, h⟩ | ⟨h22, h⟩
              · rcases ite_out h with ⟨h23, h⟩ | ⟨h23, h⟩
                · obtain ⟨l26, h25, h⟩ := bind_out h
                  obtain ⟨l29, h28, h⟩ := bind_out h
                  rcases ite_out h with ⟨h30, h⟩ | ⟨h30, h⟩
                  · rcases ite_out h with ⟨h31, h⟩ | ⟨h31, h⟩
                    · obtain ⟨r32, h33, h⟩ := bind_out h
                      obtain ⟨l36, h35, h⟩ := bind_out h
                      rcases ite_out h with ⟨h37, h⟩ | ⟨h37, h⟩
                      · rcases ite_out h with ⟨h38, h⟩ | ⟨h38, h⟩
                        · rcases ite_out h with ⟨h39, h⟩ | ⟨h39, h⟩
                          · injection h with h; subst h; exact runFn_sound mixedOrders Tryz.func36 rfl (keep := some [2]) (π := [.callv (.v (.bool r2)), .dec false, .callv (.v (.bool r5)), .dec false, .callv (.v (.bool r8)), .dec false, .callv (.v (.bool r11)), .dec false, .dec false, .obj [] (.arr 5 [(69 : Int), (wr_u8 a1.tos : Int)] (List.length [(69 : Int), (wr_u8 a1.tos : Int)]) false), .callo (.os 0 (Int.toNat 2)) [.arr 5 l17 (Int.toNat 2) false], .obj [] (.arr 5 ([(69 : Int), (wr_u8 a1.tos : Int)] ++ l17) (List.length ([(69 : Int), (wr_u8 a1.tos : Int)] ++ l17)) false), .callo (.os 0 (Int.toNat 2)) [.arr 5 l21 (Int.toNat 2) false], .obj [] (.arr 5 (([(69 : Int), (wr_u8 a1.tos : Int)] ++ l17) ++ l21) (List.length (([(69 : Int), (wr_u8 a1.tos : Int)] ++ l17) ++ l21)) false), .obj [] (.arr 5 [(0 : Int), (0 : Int), (wr_u8 a1.ttl : Int), (wr_u8 a1.proto : Int)] (List.length [(0 : Int), (0 : Int), (wr_u8 a1.ttl : Int), (wr_u8 a1.proto : Int)]) false), .obj [] (.arr 5 ((([(69 : Int), (wr_u8 a1.tos : Int)] ++ l17) ++ l21) ++ [(0 : Int), (0 : Int), (wr_u8 a1.ttl : Int), (wr_u8 a1.proto : Int)]) (List.length ((([(69 : Int), (wr_u8 a1.tos : Int)] ++ l17) ++ l21) ++ [(0 : Int), (0 : Int), (wr_u8 a1.ttl : Int), (wr_u8 a1.proto : Int)])) false), .sum [3] [] .nor [] [.box 69 (c69 a1) false, .n 5, .arr 5 ((([(69 : Int), (wr_u8 a1.tos : Int)] ++ l17) ++ l21) ++ [(0 : Int), (0 : Int), (wr_u8 a1.ttl : Int), (wr_u8 a1.proto : Int)]) (List.length ((([(69 : Int), (wr_u8 a1.tos : Int)] ++ l17) ++ l21) ++ [(0 : Int), (0 : Int), (wr_u8 a1.ttl : Int), (wr_u8 a1.proto : Int)])) false, .arr 5 l17 (Int.toNat 2) false, .arr 5 l21 (Int.toNat 2) false, .arr 5 [(0 : Int), (0 : Int), (wr_u8 a1.ttl : Int), (wr_u8 a1.proto : Int)] (List.length [(0 : Int), (0 : Int), (wr_u8 a1.ttl : Int), (wr_u8 a1.proto : Int)]) false, .arr 5 l26 (Int.toNat 4) false], .callo (.os 0 (Int.toNat 4)) [.arr 5 l26 (Int.toNat 4) false], .callo (.os 0 (Int.toNat 4)) [.arr 5 l29 (Int.toNat 4) false], .obj [] (.arr 5 (l26 ++ l29) (List.length (l26 ++ l29)) false), .obj [] (.n 5), .obj [] (.arr 5 ((([(69 : Int), (wr_u8 a1.tos : Int)] ++ l17) ++ l21) ++ [(0 : Int), (0 : Int), (wr_u8 a1.ttl : Int), (wr_u8 a1.proto : Int)]) (List.length ((([(69 : Int), (wr_u8 a1.tos : Int)] ++ l17) ++ l21) ++ [(0 : Int), (0 : Int), (wr_u8 a1.ttl : Int), (wr_u8 a1.proto : Int)])) false), .obj [] (.arr 5 (((([(69 : Int), (wr_u8 a1.tos : Int)] ++ l17) ++ l21) ++ [(0 : Int), (0 : Int), (wr_u8 a1.ttl : Int), (wr_u8 a1.proto : Int)]) ++ (l26 ++ l29)) (List.length (((([(69 : Int), (wr_u8 a1.tos : Int)] ++ l17) ++ l21) ++ [(0 : Int), (0 : Int), (wr_u8 a1.ttl : Int), (wr_u8 a1.proto : Int)]) ++ (l26 ++ l29))) false), .callv (.v (.int .i64 r32)), .callo (.os 0 (Int.toNat 2)) [.arr 5 l36 (Int.toNat 2) false], .obj [] (.arr 5 (((([(69 : Int), (wr_u8 a1.tos : Int)] ++ l17) ++ l21) ++ [(0 : Int), (0 : Int), (wr_u8 a1.ttl : Int), (wr_u8 a1.proto : Int)]) ++ l36) (List.length (((([(69 : Int), (wr_u8 a1.tos : Int)] ++ l17) ++ l21) ++ [(0 : Int), (0 : Int), (wr_u8 a1.ttl : Int), (wr_u8 a1.proto : Int)]) ++ l36)) false), .obj [] (.arr 5 ((((([(69 : Int), (wr_u8 a1.tos : Int)] ++ l17) ++ l21) ++ [(0 : Int), (0 : Int), (wr_u8 a1.ttl : Int), (wr_u8 a1.proto : Int)]) ++ l36) ++ (l26 ++ l29)) (List.length ((((([(69 : Int), (wr_u8 a1.tos : Int)] ++ l17) ++ l21) ++ [(0 : Int), (0 : Int), (wr_u8 a1.ttl : Int), (wr_u8 a1.proto : Int)]) ++ l36) ++ (l26 ++ l29))) false), .obj [] (.arr 5 (((((([(69 : Int), (wr_u8 a1.tos : Int)] ++ l17) ++ l21) ++ [(0 : Int), (0 : Int), (wr_u8 a1.ttl : Int), (wr_u8 a1.proto : Int)]) ++ l36) ++ (l26 ++ l29)) ++ a1.body) (List.length (((((([(69 : Int), (wr_u8 a1.tos : Int)] ++ l17) ++ l21) ++ [(0 : Int), (0 : Int), (wr_u8 a1.ttl : Int), (wr_u8 a1.proto : Int)]) ++ l36) ++ (l26 ++ l29)) ++ a1.body)) false)]) (hrun := by kernel_rfl) (hps := pc (k_palingref07_out h3) <| pc (h4) <| pc (k_palingref07_out h6) <| pc (h7) <| pc (k_palingref07_out h9) <| pc (h10) <| pc (k_palingref07_out h12) <| pc (h13) <| pc (h14) <| pc (bs_ob 5 [(69 : Int), (wr_u8 a1.tos : Int)]) <| pc (k_palingref07_bytes h16) <| pc (im5 l17) <| pc (app_ob 5 (n := (List.length [(69 : Int), (wr_u8 a1.tos : Int)])) (l := [(69 : Int), (wr_u8 a1.tos : Int)]) (xs := l17) h18) <| pc ((rfl : ((Int.toNat 2) : Nat) = (Int.toNat 2))) <| pc (k_palingref07_bytes h20) <| pc (im5 l21) <| pc (app_ob 5 (n := (List.length ([(69 : Int), (wr_u8 a1.tos : Int)] ++ l17))) (l := [(69 : Int), (wr_u8 a1.tos : Int)] ++ l17) (xs := l21) h22) <| pc ((rfl : ((Int.toNat 2) : Nat) = (Int.toNat 2))) <| pc (bs_ob 5 [(0 : Int), (0 : Int), (wr_u8 a1.ttl : Int), (wr_u8 a1.proto : Int)]) <| pc (app_ob 5 (n := (List.length (([(69 : Int), (wr_u8 a1.tos : Int)] ++ l17) ++ l21))) (l := ([(69 : Int), (wr_u8 a1.tos : Int)] ++ l17) ++ l21) (xs := [(0 : Int), (0 : Int), (wr_u8 a1.ttl : Int), (wr_u8 a1.proto : Int)]) h23) <| pc ((rfl : ((List.length [(0 : Int), (0 : Int), (wr_u8 a1.ttl : Int), (wr_u8 a1.proto : Int)]) : Nat) = (List.length [(0 : Int), (0 : Int), (wr_u8 a1.ttl : Int), (wr_u8 a1.proto : Int)]))) <| pc ((rfl : ([.box 69 (c69 a1) false, .n 5, .arr 5 ((([(69 : Int), (wr_u8 a1.tos : Int)] ++ l17) ++ l21) ++ [(0 : Int), (0 : Int), (wr_u8 a1.ttl : Int), (wr_u8 a1.proto : Int)]) (List.length ((([(69 : Int), (wr_u8 a1.tos : Int)] ++ l17) ++ l21) ++ [(0 : Int), (0 : Int), (wr_u8 a1.ttl : Int), (wr_u8 a1.proto : Int)])) false, .arr 5 l17 (Int.toNat 2) false, .arr 5 l21 (Int.toNat 2) false, .arr 5 [(0 : Int), (0 : Int), (wr_u8 a1.ttl : Int), (wr_u8 a1.proto : Int)] (List.length [(0 : Int), (0 : Int), (wr_u8 a1.ttl : Int), (wr_u8 a1.proto : Int)]) false, .arr 5 l26 (Int.toNat 4) false] : Heap DD) = [.box 69 (c69 a1) false, .n 5, .arr 5 ((([(69 : Int), (wr_u8 a1.tos : Int)] ++ l17) ++ l21) ++ [(0 : Int), (0 : Int), (wr_u8 a1.ttl : Int), (wr_u8 a1.proto : Int)]) (List.length ((([(69 : Int), (wr_u8 a1.tos : Int)] ++ l17) ++ l21) ++ [(0 : Int), (0 : Int), (wr_u8 a1.ttl : Int), (wr_u8 a1.proto : Int)])) false, .arr 5 l17 (Int.toNat 2) false, .arr 5 l21 (Int.toNat 2) false, .arr 5 [(0 : Int), (0 : Int), (wr_u8 a1.ttl : Int), (wr_u8 a1.proto : Int)] (List.length [(0 : Int), (0 : Int), (wr_u8 a1.ttl : Int), (wr_u8 a1.proto : Int)]) false, .arr 5 l26 (Int.toNat 4) false])) <| pc (k_palingref07_bytes h25) <| pc (im5 l26) <| pc ((rfl : (.op 0 1 0 5 : AV DD) = .op 0 1 0 5)) <| pc ((rfl : (.v (.int .u32 a1.dst) : AV DD) = .v (.int .u32 a1.dst))) <| pc ((rfl : (.v (.int .i64 (wr_i64 a1.dst)) : AV DD) = .v (.int .i64 (wr_i64 a1.dst)))) <| pc (k_palingref07_bytes h28) <| pc (im5 l29) <| pc (app_ob 5 (n := (Int.toNat 4)) (l := l26) (xs := l29) h30) <| pc ((rfl : ((Int.toNat 4) : Nat) = (Int.toNat 4))) <| pc (bs_ob 5 []) <| pc (app_ob 5 (n := 0) (l := []) (xs := (([(69 : Int), (wr_u8 a1.tos : Int)] ++ l17) ++ l21) ++ [(0 : Int), (0 : Int), (wr_u8 a1.ttl : Int), (wr_u8 a1.proto : Int)]) h23) <| pc ((rfl : ((List.length ((([(69 : Int), (wr_u8 a1.tos : Int)] ++ l17) ++ l21) ++ [(0 : Int), (0 : Int), (wr_u8 a1.ttl : Int), (wr_u8 a1.proto : Int)])) : Nat) = (List.length ((([(69 : Int), (wr_u8 a1.tos : Int)] ++ l17) ++ l21) ++ [(0 : Int), (0 : Int), (wr_u8 a1.ttl : Int), (wr_u8 a1.proto : Int)])))) <| pc (app_ob 5 (n := (List.length ((([(69 : Int), (wr_u8 a1.tos : Int)] ++ l17) ++ l21) ++ [(0 : Int), (0 : Int), (wr_u8 a1.ttl : Int), (wr_u8 a1.proto : Int)]))) (l := (([(69 : Int), (wr_u8 a1.tos : Int)] ++ l17) ++ l21) ++ [(0 : Int), (0 : Int), (wr_u8 a1.ttl : Int), (wr_u8 a1.proto : Int)]) (xs := l26 ++ l29) h31) <| pc ((rfl : ((List.length (l26 ++ l29)) : Nat) = (List.length (l26 ++ l29)))) <| pc (k_palingref06_Of h33) <| pc ((rfl : ((List.length (((([(69 : Int), (wr_u8 a1.tos : Int)] ++ l17) ++ l21) ++ [(0 : Int), (0 : Int), (wr_u8 a1.ttl : Int), (wr_u8 a1.proto : Int)]) ++ (l26 ++ l29))) : Nat) = (List.length (((([(69 : Int), (wr_u8 a1.tos : Int)] ++ l17) ++ l21) ++ [(0 : Int), (0 : Int), (wr_u8 a1.ttl : Int), (wr_u8 a1.proto : Int)]) ++ (l26 ++ l29))))) <| pc (k_palingref07_bytes h35) <| pc (im5 l36) <| pc (app_ob 5 (n := (List.length ((([(69 : Int), (wr_u8 a1.tos : Int)] ++ l17) ++ l21) ++ [(0 : Int), (0 : Int), (wr_u8 a1.ttl : Int), (wr_u8 a1.proto : Int)]))) (l := (([(69 : Int), (wr_u8 a1.tos : Int)] ++ l17) ++ l21) ++ [(0 : Int), (0 : Int), (wr_u8 a1.ttl : Int), (wr_u8 a1.proto : Int)]) (xs := l36) h37) <| pc ((rfl : ((Int.toNat 2) : Nat) = (Int.toNat 2))) <| pc (app_ob 5 (n := (List.length (((([(69 : Int), (wr_u8 a1.tos : Int)] ++ l17) ++ l21) ++ [(0 : Int), (0 : Int), (wr_u8 a1.ttl : Int), (wr_u8 a1.proto : Int)]) ++ l36))) (l := ((([(69 : Int), (wr_u8 a1.tos : Int)] ++ l17) ++ l21) ++ [(0 : Int), (0 : Int), (wr_u8 a1.ttl : Int), (wr_u8 a1.proto : Int)]) ++ l36) (xs := l26 ++ l29) h38) <| pc ((rfl : ((List.length (l26 ++ l29)) : Nat) = (List.length (l26 ++ l29)))) <| pc (app_ob 5 (n := (List.length ((((([(69 : Int), (wr_u8 a1.tos : Int)] ++ l17) ++ l21) ++ [(0 : Int), (0 : Int), (wr_u8 a1.ttl : Int), (wr_u8 a1.proto : Int)]) ++ l36) ++ (l26 ++ l29)))) (l := (((([(69 : Int), (wr_u8 a1.tos : Int)] ++ l17) ++ l21) ++ [(0 : Int), (0 : Int), (wr_u8 a1.ttl : Int), (wr_u8 a1.proto : Int)]) ++ l36) ++ (l26 ++ l29)) (xs := a1.body) h39) <| pn)
                          · cases h
                        · cases h
                      · cases h
                    · cases h
                  · cases h
                · cases h
              · cases h
            · cases h

theorem k_palingref01_Host {a1 : Int} {r : Int} (h : palingref01_Host a1 = some r) :
    CallsOK Tryz.prog UU 37 [.v (.int .u32 a1)] [] (.v (.int .u64 r)) [] := by
  unfold palingref01_Host at h
  injection h with h; subst h; exact runFn_sound mixedOrders Tryz.func37 rfl (keep := none) (π := []) (hrun := by kernel_rfl) (hps := pn)

theorem k_palingref09_Wrap {a1 : Int} {a2 : Int} {a3 : Int} {a4 : Api_Frame} {r : ((List Int) × Int)} (h : palingref09_Wrap a1 a2 a3 a4 = some r) :
    CallsOK Tryz.prog UU 44 [.v (.int .u32 a1), .v (.int .u32 a2), .v (.int .i64 a3), .agg (c36 a4)] [] ((fun r => match r with | (l36, v37) => .tup [.os 0 (List.length l36), .v (.int .i64 v37)]) r) ((fun r => match r with | (l36, v37) => [.arr 5 l36 (List.length l36) false]) r) := by
  unfold palingref09_Wrap at h
  rcases ite_out h with ⟨h5, h⟩ | ⟨h5, h⟩
  · injection h with h; subst h; exact runFn_sound mixedOrders Tryz.func44 rfl (keep := some [2]) (π := [.dec true]) (hrun := by kernel_rfl) (hps := pc (h5) <| pn)
  · obtain ⟨r6, h7, h⟩ := bind_out h
    obtain ⟨l8, v9⟩ := r6
    rcases ite_out h with ⟨h10, h⟩ | ⟨h10, h⟩
    · injection h with h; subst h; exact runFn_sound mixedOrders Tryz.func44 rfl (keep := some [3]) (π := [.dec false, .callo (.tup [.os 0 (List.length l8), .v (.int .i64 v9)]) [.arr 5 l8 (List.length l8) false], .dec true]) (hrun := by kernel_rfl) (hps := pc (h5) <| pc (k_palingref04_Put h7) <| pc (im5 l8) <| pc (h10) <| pn)
    · obtain ⟨r11, h12, h⟩ := bind_out h
      obtain ⟨l13, v14⟩ := r11
      rcases ite_out h with ⟨h15, h⟩ | ⟨h15, h⟩
      · injection h with h; subst h; exact runFn_sound mixedOrders Tryz.func44 rfl (keep := some [4]) (π := [.dec false, .callo (.tup [.os 0 (List.length l8), .v (.int .i64 v9)]) [.arr 5 l8 (List.length l8) false], .dec false, .callo (.tup [.os 0 (List.length l13), .v (.int .i64 v14)]) [.arr 5 l13 (List.length l13) false], .dec true]) (hrun := by kernel_rfl) (hps := pc (h5) <| pc (k_palingref04_Put h7) <| pc (im5 l8) <| pc (h10) <| pc (k_palingref09_Head h12) <| pc (im5 l13) <| pc (h15) <| pn)
      · rcases ite_out h with ⟨h16, h⟩ | ⟨h16, h⟩
        · injection h with h; subst h; exact runFn_sound mixedOrders Tryz.func44 rfl (keep := some [4]) (π := [.dec false, .callo (.tup [.os 0 (List.length l8), .v (.int .i64 v9)]) [.arr 5 l8 (List.length l8) false], .dec false, .callo (.tup [.os 0 (List.length l13), .v (.int .i64 v14)]) [.arr 5 l13 (List.length l13) false], .dec false, .dec true]) (hrun := by kernel_rfl) (hps := pc (h5) <| pc (k_palingref04_Put h7) <| pc (im5 l8) <| pc (h10) <| pc (k_palingref09_Head h12) <| pc (im5 l13) <| pc (h15) <| pc ((rfl : ((List.length l8) : Nat) = (List.length l8))) <| pc (h16) <| pn)
        · obtain ⟨r17, h18, h⟩ := bind_out h
          rcases ite_out h with ⟨h19, h⟩ | ⟨h19, h⟩
          · obtain ⟨r20, h21, h⟩ := bind_out h
            obtain ⟨l22, v23⟩ := r20
            obtain ⟨r24, h25, h⟩ := bind_out h
            obtain ⟨l26, v27⟩ := r24
            obtain ⟨r28, h29, h⟩ := bind_out h
            obtain ⟨r30, h31, h⟩ := bind_out h
            obtain ⟨r32, h33, h⟩ := bind_out h
            obtain ⟨l34, v35⟩ := r32
            injection h with h; subst h; exact runFn_sound mixedOrders Tryz.func44 rfl (keep := some [6]) (π := [.dec false, .callo (.tup [.os 0 (List.length l8), .v (.int .i64 v9)]) [.arr 5 l8 (List.length l8) false], .dec false, .callo (.tup [.os 0 (List.length l13), .v (.int .i64 v14)]) [.arr 5 l13 (List.length l13) false], .dec false, .dec false, .callv (.v (.int .i64 r17)), .obj [] (.arr 5 (l13 ++ l8) (List.length (l13 ++ l8)) false), .callo (.tup [.os 0 (List.length l22), .v (.int .i64 v23)]) [.arr 5 l22 (List.length l22) false], .callo (.tup [.os 0 (List.length l26), .v (.int .i64 v27)]) [.arr 5 l26 (List.length l26) false], .callv (.v (.int .u64 r28)), .callv (.v (.int .u64 r30)), .callo (.tup [.os 0 (List.length l34), .v (.int .i64 v35)]) [.arr 5 l34 (List.length l34) false]]) (hrun := by kernel_rfl) (hps := pc (h5) <| pc (k_palingref04_Put h7) <| pc (im5 l8) <| pc (h10) <| pc (k_palingref09_Head h12) <| pc (im5 l13) <| pc (h15) <| pc ((rfl : ((List.length l8) : Nat) = (List.length l8))) <| pc (h16) <| pc (k_palingref08_Port h18) <| pc (app_ob 5 (n := (List.length l13)) (l := l13) (xs := l8) h19) <| pc ((rfl : ((List.length l8) : Nat) = (List.length l8))) <| pc (k_palingref08_Put h21) <| pc (im5 l22) <| pc ((rfl : ((List.length (l13 ++ l8)) : Nat) = (List.length (l13 ++ l8)))) <| pc (k_palingref07_Put h25) <| pc (im5 l26) <| pc ((rfl : ((List.length l22) : Nat) = (List.length l22))) <| pc (k_palingref01_Host h29) <| pc (k_palingref01_Host h31) <| pc (k_palingref04_Put h33) <| pc (im5 l34) <| pc ((rfl : ((List.length l26) : Nat) = (List.length l26))) <| pn)
          · cases h

theorem k_palingref28_Mesh {a1 : Api_Net} {a2 : Int} {a3 : Int} {a4 : Api_Frame} {r : ((List Int) × Int)} (h : palingref28_Mesh a1 a2 a3 a4 = some r) :
    CallsOK Tryz.prog UU 15 [.agg (c31 a1), .v (.int .i64 a2), .v (.int .i64 a3), .agg (c36 a4)] [] ((fun r => match r with | (l29, v30) => .tup [.os 0 (List.length l29), .v (.int .i64 v30)]) r) ((fun r => match r with | (l29, v30) => [.arr 5 l29 (List.length l29) false]) r) := by
  unfold palingref28_Mesh at h
  obtain ⟨r5, h6, h⟩ := bind_out h
  rcases ite_out h with ⟨h7, h⟩ | ⟨h7, h⟩
  · injection h with h; subst h; exact runFn_sound mixedOrders Tryz.func15 rfl (keep := some [3]) (π := [.callv (.v (.bool r5)), .dec true]) (hrun := by kernel_rfl) (hps := pc (k_palingref15_Right h6) <| pc (h7) <| pn)
  · obtain ⟨r8, h9, h⟩ := bind_out h
    rcases ite_out h with ⟨h10, h⟩ | ⟨h10, h⟩
    · injection h with h; subst h; exact runFn_sound mixedOrders Tryz.func15 rfl (keep := some [3]) (π := [.callv (.v (.bool r5)), .dec false, .callv (.v (.bool r8)), .dec true]) (hrun := by kernel_rfl) (hps := pc (k_palingref15_Right h6) <| pc (h7) <| pc (k_palingref15_Place h9) <| pc (h10) <| pn)
    · obtain ⟨r11, h12, h⟩ := bind_out h
      rcases ite_out h with ⟨h13, h⟩ | ⟨h13, h⟩
      · injection h with h; subst h; exact runFn_sound mixedOrders Tryz.func15 rfl (keep := some [3]) (π := [.callv (.v (.bool r5)), .dec false, .callv (.v (.bool r8)), .dec false, .callv (.v (.bool r11)), .dec true]) (hrun := by kernel_rfl) (hps := pc (k_palingref15_Right h6) <| pc (h7) <| pc (k_palingref15_Place h9) <| pc (h10) <| pc (k_palingref15_Place h12) <| pc (h13) <| pn)
      · obtain ⟨x14, h15, h⟩ := bind_out h
        obtain ⟨r16, h17, h⟩ := bind_out h
        rcases ite_out h with ⟨h18, h⟩ | ⟨h18, h⟩
        · injection h with h; subst h; exact runFn_sound mixedOrders Tryz.func15 rfl (keep := some [3]) (π := [.callv (.v (.bool r5)), .dec false, .callv (.v (.bool r8)), .dec false, .callv (.v (.bool r11)), .dec false, .row (c61 x14), .callv (.v (.bool r16)), .dec true]) (hrun := by kernel_rfl) (hps := pc (k_palingref15_Right h6) <| pc (h7) <| pc (k_palingref15_Place h9) <| pc (h10) <| pc (k_palingref15_Place h12) <| pc (h13) <| pc (ob61 h15) <| pc (k_palingref15_In h17) <| pc (h18) <| pn)
        · obtain ⟨r19, h20, h⟩ := bind_out h
          obtain ⟨r21, h22, h⟩ := bind_out h
          obtain ⟨x23, h24, h⟩ := bind_out h
          obtain ⟨r25, h26, h⟩ := bind_out h
          obtain ⟨l27, v28⟩ := r25
          injection h with h; subst h; exact runFn_sound mixedOrders Tryz.func15 rfl (keep := some [3]) (π := [.callv (.v (.bool r5)), .dec false, .callv (.v (.bool r8)), .dec false, .callv (.v (.bool r11)), .dec false, .row (c61 x14), .callv (.v (.bool r16)), .dec false, .sum [13] [] .nor [] [.box 31 (c31 a1) false, .box 36 (c36 a4) false, .n 5, .arr 5 l27 (List.length l27) false], .callv (.v (.int .u32 r19)), .callv (.v (.int .u32 r21)), .row (c61 x23), .callo (.tup [.os 0 (List.length l27), .v (.int .i64 v28)]) [.arr 5 l27 (List.length l27) false]]) (hrun := by kernel_rfl) (hps := pc (k_palingref15_Right h6) <| pc (h7) <| pc (k_palingref15_Place h9) <| pc (h10) <| pc (k_palingref15_Place h12) <| pc (h13) <| pc (ob61 h15) <| pc (k_palingref15_In h17) <| pc (h18) <| pc (k_palingref28_vtep h20) <| pc (k_palingref28_vtep h22) <| pc (ob61 h24) <| pc ((rfl : ([.box 31 (c31 a1) false, .box 36 (c36 a4) false, .n 5, .arr 5 l27 (List.length l27) false] : Heap DD) = [.box 31 (c31 a1) false, .box 36 (c36 a4) false, .n 5, .arr 5 l27 (List.length l27) false])) <| pc (k_palingref09_Wrap h26) <| pc (im5 l27) <| pn)

theorem k_mac_Take_L1 {a1 : List Int} {a2 : Int} : LoopOK Tryz.prog UU 0 32 (subC (codeOf Tryz.f150) [1, 1, 1, 0, 1, 0, 0]) (fun s : Int × Int => match s with | (v5, v6) => mac_Take_L1 a1 a2 v5 v6)
    (fun s : Int × Int => (match s with | (v5, v6) => [(0, .sl 5 a1), (1, .v (.int .i64 a2)), (4, .v (.int .u64 0)), (5, .v (.bool false)), (6, .v (.int .u64 v5)), (17, .v (.int .i64 v6))] : Fr DD)) (fun s : Int × Int => (match s with | (v5, v6) => [] : Heap DD)) (fun r => match r with | v11 => .exit 0) (fun r => match r with | v11 => [(4, .v (.int .u64 0)), (5, .v (.bool false)), (6, .v (.int .u64 v11))]) (fun r => match r with | v11 => []) := by
  refine loop_sound3 (fun s q h => ?_) (fun r => ?_)
  · obtain ⟨v5, v6⟩ := s; replace h : mac_Take_L1 a1 a2 v5 v6 = some q := h
    unfold mac_Take_L1 at h
    rcases ite_out h with ⟨h7, h⟩ | ⟨h7, h⟩
    · obtain ⟨x8, h9, h⟩ := bind_out h
      injection h with h; subst h; exact runLp_sound mixedOrders (live := [0, 1, 4, 5, 6, 17]) (ids := []) (π := [.dec true, .row (c5 x8)]) (hx := by kernel_rfl) (hps := pc (h7) <| pc ((show (0 : Int) ≤ 8 from by decide)) <| pc (ob5 h9) <| pn)
    · injection h with h; subst h; exact runLp_sound mixedOrders (live := [4, 5, 6]) (ids := []) (π := [.dec false]) (hx := by kernel_rfl) (hps := pc (h7) <| pn)
  · exact Ex.noConfusion

theorem k_mac_Take {a1 : List Int} {a2 : Int} {r : Int × Bool} (h : mac_Take a1 a2 = some r) :
    CallsOK Tryz.prog UU 150 [.sl 5 a1, .v (.int .i64 a2)] [] (.tup [.v (.int .u64 r.1), .v (.bool r.2)]) [] := by
  unfold mac_Take at h
  rcases ite_out h with ⟨h3, h⟩ | ⟨h3, h⟩
  · injection h with h; subst h; exact runFn_sound mixedOrders Tryz.func150 rfl (keep := none) (π := [.dec true]) (hrun := by kernel_rfl) (hps := pc (h3) <| pn)
  · rcases ite_out h with ⟨h4, h⟩ | ⟨h4, h⟩
    · injection h with h; subst h; exact runFn_sound mixedOrders Tryz.func150 rfl (keep := none) (π := [.dec false, .dec true]) (hrun := by kernel_rfl) (hps := pc (h3) <| pc (h4) <| pn)
    · obtain ⟨v11, h12, h⟩ := bind_out h
      injection h with h; subst h; exact runFn_sound mixedOrders Tryz.func150 rfl (keep := none) (π := [.dec false, .dec false, .sum [0, 1, 4, 5, 6, 17] [] (.exit 0) [(4, .v (.int .u64 0)), (5, .v (.bool false)), (6, .v (.int .u64 v11))] []]) (hrun := by kernel_rfl) (hps := pc (h3) <| pc (h4) <| pc (k_mac_Take_L1 _ _ h12) <| pn)

theorem k_ether_Take {a1 : List Int} {r : ((List Int) × Nat × Int × Int × Int × Int)} (h : ether_Take a1 = some r) :
    CallsOK Tryz.prog UU 139 [.sl 5 a1] [] ((fun r => match r with | (l14, n15, v16, v17, v18, v19) => .tup [.agg [.v (.int .u64 v16), .v (.int .u64 v17), .v (.int .i64 v18), .os 0 n15], .v (.int .i64 v19)]) r) ((fun r => match r with | (l14, n15, v16, v17, v18, v19) => [.arr 5 l14 n15 false]) r) := by
  unfold ether_Take at h
  rcases ite_out h with ⟨h2, h⟩ | ⟨h2, h⟩
  · injection h with h; subst h; exact runFn_sound mixedOrders Tryz.func139 rfl (keep := some [2]) (π := [.dec true]) (hrun := by kernel_rfl) (hps := pc (h2) <| pn)
  · rcases ite_out h with ⟨h3, h⟩ | ⟨h3, h⟩
    · injection h with h; subst h; exact runFn_sound mixedOrders Tryz.func139 rfl (keep := some [2]) (π := [.dec false, .dec true]) (hrun := by kernel_rfl) (hps := pc (h2) <| pc (h3) <| pn)
    · obtain ⟨r4, h5, h⟩ := bind_out h
      obtain ⟨r6, h7, h⟩ := bind_out h
      rcases ite_out h with ⟨h8, h⟩ | ⟨h8, h⟩
      · rcases ite_out h with ⟨h9, h⟩ | ⟨h9, h⟩
        · obtain ⟨x10, h11, h⟩ := bind_out h
          obtain ⟨x12, h13, h⟩ := bind_out h
          injection h with h; subst h; exact runFn_sound mixedOrders Tryz.func139 rfl (keep := some [2]) (π := [.dec false, .dec false, .callv (.tup [.v (.int .u64 r4.1), .v (.bool r4.2)]), .callv (.tup [.v (.int .u64 r6.1), .v (.bool r6.2)]), .obj [] (.arr 5 (List.replicate (Int.toNat (wr_i64 ((a1.length : Int) - 14))) (0 : Int)) (Int.toNat (wr_i64 ((a1.length : Int) - 14))) false), .obj [] (.arr 5 (List.take 0 (List.replicate (Int.toNat (wr_i64 ((a1.length : Int) - 14))) (0 : Int)) ++ (List.take (min (List.length (List.drop (Int.toNat 14) (List.take (Int.toNat ((List.length a1) : Int)) a1))) ((List.length (List.replicate (Int.toNat (wr_i64 ((a1.length : Int) - 14))) (0 : Int))) - 0)) (List.drop (Int.toNat 14) (List.take (Int.toNat ((List.length a1) : Int)) a1)) ++ List.drop (0 + (min (List.length (List.drop (Int.toNat 14) (List.take (Int.toNat ((List.length a1) : Int)) a1))) ((List.length (List.replicate (Int.toNat (wr_i64 ((a1.length : Int) - 14))) (0 : Int))) - 0))) (List.replicate (Int.toNat (wr_i64 ((a1.length : Int) - 14))) (0 : Int)))) (Int.toNat (wr_i64 ((a1.length : Int) - 14))) false), .row (c5 x10), .row (c5 x12)]) (hrun := by kernel_rfl) (hps := pc (h2) <| pc (h3) <| pc (k_mac_Take h5) <| pc (k_mac_Take h7) <| pc (mk_ob 5 (0 : Int) h8) <| pc ((rfl : ((Int.toNat (wr_i64 ((a1.length : Int) - 14))) : Nat) = (Int.toNat (wr_i64 ((a1.length : Int) - 14))))) <| pc (sl_ob h9) <| pc (cp_ob (e := 5) (n := (Int.toNat (wr_i64 ((a1.length : Int) - 14)))) (l := List.replicate (Int.toNat (wr_i64 ((a1.length : Int) - 14))) (0 : Int)) (l2 := List.drop (Int.toNat 14) (List.take (Int.toNat ((List.length a1) : Int)) a1)) (a := 0) (b := (List.length (List.replicate (Int.toNat (wr_i64 ((a1.length : Int) - 14))) (0 : Int))))) <| pc (ob5 h11) <| pc ((show (0 : Int) ≤ 8 from by decide)) <| pc (ob5 h13) <| pn)
        · cases h
      · cases h

theorem k_vxlan_reader_fail_own {a1 : Int} {a2 : Int} {a3 : Int} {a4 : Int} {a5 : Int} {a6 : Int} {a7 : List Int} {a8 : Int} {a9 : Int} {a10 : Bool} {a11 : Int} {r : (Int)} (h : vxlan_reader_fail_own a1 a2 a3 a4 a5 a6 a7 a8 a9 a10 a11 = some r) :
    CallsOK Tryz.prog UU 140 [.op 0 1 0 0, .v (.bool a10), .v (.int .i64 a11)] [.box 155 [.v (.int .i64 a1), .v (.int .i64 a2), .v (.int .i64 a3), .v (.int .i64 a4), .v (.int .u32 a5), .v (.int .u32 a6), .os 1 (List.length a7), .v (.int .i64 a8), .v (.int .i64 a9)] false, .arr 5 a7 (List.length a7) false] ((fun r => match r with | v14 => .tup []) r) ((fun r => match r with | v14 => [.box 155 [.v (.int .i64 a1), .v (.int .i64 a2), .v (.int .i64 a3), .v (.int .i64 a4), .v (.int .u32 a5), .v (.int .u32 a6), .os 1 (List.length a7), .v (.int .i64 a8), .v (.int .i64 v14)] false, .arr 5 a7 (List.length a7) false]) r) := by
  unfold vxlan_reader_fail_own at h
  rcases ite_out h with ⟨h12, h⟩ | ⟨h12, h⟩
  · rcases ite_out h with ⟨h13, h⟩ | ⟨h13, h⟩
    · injection h with h; subst h; exact runFn_sound mixedOrders Tryz.func140 rfl (keep := some [0, 1]) (π := [.dec true, .dec true]) (hrun := by kernel_rfl) (hps := pc (h12) <| pc (h13) <| pn)
    · injection h with h; subst h; exact runFn_sound mixedOrders Tryz.func140 rfl (keep := some [0, 1]) (π := [.dec true, .dec false]) (hrun := by kernel_rfl) (hps := pc (h12) <| pc (h13) <| pn)
  · injection h with h; subst h; exact runFn_sound mixedOrders Tryz.func140 rfl (keep := some [0, 1]) (π := [.dec false]) (hrun := by kernel_rfl) (hps := pc (h12) <| pn)

theorem k_ipv4_pair {a1 : List Int} {a2 : Int} {r : Int} (h : ipv4_pair a1 a2 = some r) :
    CallsOK Tryz.prog UU 86 [.sl 5 a1, .v (.int .i64 a2)] [] (.v (.int .i64 r)) [] := by
  unfold ipv4_pair at h
  obtain ⟨x3, h4, h⟩ := bind_out h
  obtain ⟨x5, h6, h⟩ := bind_out h
  injection h with h; subst h; exact runFn_sound mixedOrders Tryz.func86 rfl (keep := none) (π := [.row (c5 x3), .row (c5 x5)]) (hrun := by kernel_rfl) (hps := pc (ob5 h4) <| pc ((show (0 : Int) ≤ 8 from by decide)) <| pc (ob5 h6) <| pn)

theorem k_sum_Right {a1 : List Int} {r : Bool} (h : sum_Right a1 = some r) :
    CallsOK Tryz.prog UU 87 [.sl 5 a1] [] (.v (.bool r)) [] := by
  unfold sum_Right at h
  obtain ⟨r2, h3, h⟩ := bind_out h
  injection h with h; subst h; exact runFn_sound mixedOrders Tryz.func87 rfl (keep := none) (π := [.callv (.v (.int .i64 r2))]) (hrun := by kernel_rfl) (hps := pc (k_sum_add h3) <| pn)

theorem k_ipv4_four {a1 : List Int} {a2 : Int} {r : Int} (h : ipv4_four a1 a2 = some r) :
    CallsOK Tryz.prog UU 88 [.sl 5 a1, .v (.int .i64 a2)] [] (.v (.int .u32 r)) [] := by
  unfold ipv4_four at h
  obtain ⟨r3, h4, h⟩ := bind_out h
  obtain ⟨r5, h6, h⟩ := bind_out h
  injection h with h; subst h; exact runFn_sound mixedOrders Tryz.func88 rfl (keep := none) (π := [.callv (.v (.int .i64 r3)), .callv (.v (.int .i64 r5))]) (hrun := by kernel_rfl) (hps := pc (k_ipv4_pair h4) <| pc ((show (0 : Int) ≤ 16 from by decide)) <| pc (k_ipv4_pair h6) <| pn)

theorem k_slices_Clone_byte {a1 : List Int} {r : List Int} (h : slices_Clone_byte a1 = some r) :
    CallsOK Tryz.prog UU 89 [.sl 5 a1] [] (.os 0 (List.length r)) [.arr 5 r (List.length r) false] := by
  unfold slices_Clone_byte at h
  rcases ite_out h with ⟨h1, h⟩ | ⟨h1, h⟩
  · injection h with h; subst h
    refine sn_split ?_ (fun e => ?_)
    · exact runFn_sound mixedOrders Tryz.func89 rfl (keep := some [1]) (π := [.obj [] (.n 5), .obj [] (.arr 5 a1 (List.length a1) false)]) (hrun := by kernel_rfl) (hps := pc (bs_ob 5 []) <| pc (app_ob 5 (n := 0) (l := []) (xs := a1) h1) <| pn)
    · subst e; exact runFn_sound mixedOrders Tryz.func89 rfl (keep := some [1]) (π := []) (hrun := by kernel_rfl) (hps := pn)
  · cases h

theorem k_ipv4_Take_J1 {a1 : List Int} {r : Bool} (h : ipv4_Take_J1 a1 = some r) :
    ExecOK Tryz.prog UU 0 62 (subC (codeOf Tryz.f31) [1, 0, 0, 1, 1, 0]) [(0, .sl 5 a1), (2, .op 0 1 0 0), (3, .z)] [.box 69 [.z, .z, .z, .z, .v (.int .u32 0), .v (.int .u32 0), .os 1 0] false, .n 5] ((fun r => match r with | v9 => .nor) r) ((fun r => match r with | v9 => [(0, .sl 5 a1), (2, .op 0 1 0 0), (3, .z), (9, .v (.bool v9))]) r) ((fun r => match r with | v9 => [.box 69 [.z, .z, .z, .z, .v (.int .u32 0), .v (.int .u32 0), .os 1 0] false, .n 5]) r) := by
  unfold ipv4_Take_J1 at h
  obtain ⟨x3, h4, h⟩ := bind_out h
  rcases ite_out h with ⟨h5, h⟩ | ⟨h5, h⟩
  · injection h with h; subst h; exact runLp_sound mixedOrders (live := [0, 2, 3, 9]) (ids := [0, 1]) (π := [.row (c5 x3), .dec true]) (hx := by kernel_rfl) (hps := pc (ob5 h4) <| pc (h5) <| pn)
  · obtain ⟨r6, h7, h⟩ := bind_out h
    injection h with h; subst h; exact runLp_sound mixedOrders (live := [0, 2, 3, 9]) (ids := [0, 1]) (π := [.row (c5 x3), .dec false, .callv (.v (.int .i64 r6))]) (hx := by kernel_rfl) (hps := pc (ob5 h4) <| pc (h5) <| pc (k_ipv4_pair h7) <| pn)

theorem k_ipv4_Take {a1 : List Int} {r : ((List Int) × Int × Int × Int × Int × Int × Int × Int)} (h : ipv4_Take a1 = some r) :
    CallsOK Tryz.prog UU 31 [.sl 5 a1] [] ((fun r => match r with | (l41, v42, v43, v44, v45, v46, v47, v48) => .tup [.agg [.v (.int .i64 v42), .v (.int .i64 v43), .v (.int .i64 v44), .v (.int .i64 v45), .v (.int .u32 v46), .v (.int .u32 v47), .os 0 (List.length l41)], .v (.int .i64 v48)]) r) ((fun r => match r with | (l41, v42, v43, v44, v45, v46, v47, v48) => [.arr 5 l41 (List.length l41) false]) r) := by
  unfold ipv4_Take at h
  rcases ite_out h with ⟨h2, h⟩ | ⟨h2, h⟩
  · injection h with h; subst h; exact runFn_sound mixedOrders Tryz.func31 rfl (keep := some [2]) (π := [.dec true]) (hrun := by kernel_rfl) (hps := pc (h2) <| pn)
  · obtain ⟨v9, h10, h⟩ := bind_out h
    rcases ite_out h with ⟨h12, h⟩ | ⟨h12, h⟩
    · injection h with h; subst h; exact runFn_sound mixedOrders Tryz.func31 rfl (keep := some [2]) (π := [.dec false, .cut [0, 2, 3] [1, 0] .nor [(0, .sl 5 a1), (2, .op 0 1 0 0), (3, .z), (9, .v (.bool v9))] [.box 69 [.z, .z, .z, .z, .v (.int .u32 0), .v (.int .u32 0), .os 1 0] false, .n 5], .dec true]) (hrun := by kernel_rfl) (hps := pc (h2) <| pc (k_ipv4_Take_J1 h10) <| pc (h12) <| pn)
    · obtain ⟨r13, h14, h⟩ := bind_out h
      rcases ite_out h with ⟨h15, h⟩ | ⟨h15, h⟩
      · injection h with h; subst h; exact runFn_sound mixedOrders Tryz.func31 rfl (keep := some [2]) (π := [.dec false, .cut [0, 2, 3] [1, 0] .nor [(0, .sl 5 a1), (2, .op 0 1 0 0), (3, .z), (9, .v (.bool v9))] [.box 69 [.z, .z, .z, .z, .v (.int .u32 0), .v (.int .u32 0), .os 1 0] false, .n 5], .dec false, .callv (.v (.int .i64 r13)), .dec true]) (hrun := by kernel_rfl) (hps := pc (h2) <| pc (k_ipv4_Take_J1 h10) <| pc (h12) <| pc (k_ipv4_pair h14) <| pc (h15) <| pn)
      · obtain ⟨r16, h17, h⟩ := bind_out h
        rcases ite_out h with ⟨h18, h⟩ | ⟨h18, h⟩
        · injection h with h; subst h; exact runFn_sound mixedOrders Tryz.func31 rfl (keep := some [2]) (π := [.dec false, .cut [0, 2, 3] [1, 0] .nor [(0, .sl 5 a1), (2, .op 0 1 0 0), (3, .z), (9, .v (.bool v9))] [.box 69 [.z, .z, .z, .z, .v (.int .u32 0), .v (.int .u32 0), .os 1 0] false, .n 5], .dec false, .callv (.v (.int .i64 r13)), .dec false, .callv (.v (.int .i64 r16)), .dec true]) (hrun := by kernel_rfl) (hps := pc (h2) <| pc (k_ipv4_Take_J1 h10) <| pc (h12) <| pc (k_ipv4_pair h14) <| pc (h15) <| pc (k_ipv4_pair h17) <| pc (h18) <| pn)
        · rcases ite_out h with ⟨h19, h⟩ | ⟨h19, h⟩
          · obtain ⟨r20, h21, h⟩ := bind_out h
            rcases ite_out h with ⟨h22, h⟩ | ⟨h22, h⟩
            · injection h with h; subst h; exact runFn_sound mixedOrders Tryz.func31 rfl (keep := some [2]) (π := [.dec false, .cut [0, 2, 3] [1, 0] .nor [(0, .sl 5 a1), (2, .op 0 1 0 0), (3, .z), (9, .v (.bool v9))] [.box 69 [.z, .z, .z, .z, .v (.int .u32 0), .v (.int .u32 0), .os 1 0] false, .n 5], .dec false, .callv (.v (.int .i64 r13)), .dec false, .callv (.v (.int .i64 r16)), .dec false, .callv (.v (.bool r20)), .dec true]) (hrun := by kernel_rfl) (hps := pc (h2) <| pc (k_ipv4_Take_J1 h10) <| pc (h12) <| pc (k_ipv4_pair h14) <| pc (h15) <| pc (k_ipv4_pair h17) <| pc (h18) <| pc (sl_ob h19) <| pc (k_sum_Right h21) <| pc (h22) <| pn)
            · obtain ⟨x23, h24, h⟩ := bind_out h
              obtain ⟨r25, h26, h⟩ := bind_out h
              obtain ⟨x27, h28, h⟩ := bind_out h
              obtain ⟨x29, h30, h⟩ := bind_out h
              obtain ⟨r31, h32, h⟩ := bind_out h
              obtain ⟨r33, h34, h⟩ := bind_out h
              obtain ⟨r35, h36, h⟩ := bind_out h
              rcases ite_out h with ⟨h37, h⟩ | ⟨h37, h⟩
              · obtain ⟨l40, h39, h⟩ := bind_out h
                injection h with h; subst h; exact runFn_sound mixedOrders Tryz.func31 rfl (keep := some [2]) (π := [.dec false, .cut [0, 2, 3] [1, 0] .nor [(0, .sl 5 a1), (2, .op 0 1 0 0), (3, .z), (9, .v (.bool v9))] [.box 69 [.z, .z, .z, .z, .v (.int .u32 0), .v (.int .u32 0), .os 1 0] false, .n 5], .dec false, .callv (.v (.int .i64 r13)), .dec false, .callv (.v (.int .i64 r16)), .dec false, .callv (.v (.bool r20)), .dec false, .sum [22] [] .nor [] [.box 69 [.z, .z, .z, .z, .v (.int .u32 0), .v (.int .u32 0), .os 1 0] false, .n 5, .arr 5 l40 (List.length l40) false], .row (c5 x23), .callv (.v (.int .i64 r25)), .row (c5 x27), .row (c5 x29), .callv (.v (.int .u32 r31)), .callv (.v (.int .u32 r33)), .callv (.v (.int .i64 r35)), .callo (.os 0 (List.length l40)) [.arr 5 l40 (List.length l40) false]]) (hrun := by kernel_rfl) (hps := pc (h2) <| pc (k_ipv4_Take_J1 h10) <| pc (h12) <| pc (k_ipv4_pair h14) <| pc (h15) <| pc (k_ipv4_pair h17) <| pc (h18) <| pc (sl_ob h19) <| pc (k_sum_Right h21) <| pc (h22) <| pc ((rfl : (.sl 5 a1 : AV DD) = .sl 5 a1)) <| pc (ob5 h24) <| pc (ob5 h24) <| pc ((rfl : (.rp (c5 x23) 0 : AV DD) = .rp (c5 x23) 0)) <| pc ((rfl : (.v (.int .u8 x23) : AV DD) = .v (.int .u8 x23))) <| pc ((rfl : (.v (.int .i64 (wr_i64 x23)) : AV DD) = .v (.int .i64 (wr_i64 x23)))) <| pc (k_ipv4_pair h26) <| pc ((rfl : (.sl 5 a1 : AV DD) = .sl 5 a1)) <| pc (ob5 h28) <| pc (ob5 h28) <| pc ((rfl : (.rp (c5 x27) 0 : AV DD) = .rp (c5 x27) 0)) <| pc ((rfl : (.v (.int .u8 x27) : AV DD) = .v (.int .u8 x27))) <| pc ((rfl : (.v (.int .i64 (wr_i64 x27)) : AV DD) = .v (.int .i64 (wr_i64 x27)))) <| pc ((rfl : (.sl 5 a1 : AV DD) = .sl 5 a1)) <| pc (ob5 h30) <| pc (ob5 h30) <| pc ((rfl : (.rp (c5 x29) 0 : AV DD) = .rp (c5 x29) 0)) <| pc ((rfl : (.v (.int .u8 x29) : AV DD) = .v (.int .u8 x29))) <| pc ((rfl : (.v (.int .i64 (wr_i64 x29)) : AV DD) = .v (.int .i64 (wr_i64 x29)))) <| pc (k_ipv4_four h32) <| pc (k_ipv4_four h34) <| pc (k_ipv4_pair h36) <| pc (sl_ob h37) <| pc ((rfl : ([.box 69 [.z, .z, .z, .z, .v (.int .u32 0), .v (.int .u32 0), .os 1 0] false, .n 5, .arr 5 l40 (List.length l40) false] : Heap DD) = [.box 69 [.z, .z, .z, .z, .v (.int .u32 0), .v (.int .u32 0), .os 1 0] false, .n 5, .arr 5 l40 (List.length l40) false])) <| pc (k_slices_Clone_byte h39) <| pc (im5 l40) <| pn)
              · cases h
          · cases h

theorem k_vxlan_reader_packet_own {a1 : Int} {a2 : Int} {a3 : Int} {a4 : Int} {a5 : Int} {a6 : Int} {a7 : List Int} {a8 : Int} {a9 : Int} {a10 : List Int} {r : ((List Int) × Int × Int × Int × Int × Int × Int × Int) ⊕ (Int)} (h : vxlan_reader_packet_own a1 a2 a3 a4 a5 a6 a7 a8 a9 a10 = some r) :
    CallsOK Tryz.prog UU 108 [.op 0 1 0 0, .sl 5 a10] [.box 155 [.v (.int .i64 a1), .v (.int .i64 a2), .v (.int .i64 a3), .v (.int .i64 a4), .v (.int .u32 a5), .v (.int .u32 a6), .os 1 (List.length a7), .v (.int .i64 a8), .v (.int .i64 a9)] false, .arr 5 a7 (List.length a7) false] ((fun r => match r with | Sum.inl (l42, v43, v44, v45, v46, v47, v48, v49) => .tup [] | Sum.inr v50 => .tup []) r) ((fun r => match r with | Sum.inl (l42, v43, v44, v45, v46, v47, v48, v49) => [.box 155 [.v (.int .i64 v43), .v (.int .i64 v44), .v (.int .i64 v45), .v (.int .i64 v46), .v (.int .u32 v47), .v (.int .u32 v48), .os 2 (List.length l42), .v (.int .i64 a8), .v (.int .i64 v49)] false, .arr 5 a7 (List.length a7) false, .arr 5 l42 (List.length l42) false] | Sum.inr v50 => [.box 155 [.v (.int .i64 a1), .v (.int .i64 a2), .v (.int .i64 a3), .v (.int .i64 a4), .v (.int .u32 a5), .v (.int .u32 a6), .os 1 (List.length a7), .v (.int .i64 a8), .v (.int .i64 v50)] false, .arr 5 a7 (List.length a7) false]) r) := by
  unfold vxlan_reader_packet_own at h
  obtain ⟨r11, h12, h⟩ := bind_out h
  obtain ⟨l13, n14, v15, v16, v17, v18⟩ := r11
  obtain ⟨v21, h20, h⟩ := bind_out h
  obtain ⟨v24, h23, h⟩ := bind_out h
  rcases ite_out h with ⟨h25, h⟩ | ⟨h25, h⟩
  · obtain ⟨r26, h27, h⟩ := bind_out h
    obtain ⟨l28, v29, v30, v31, v32, v33, v34, v35⟩ := r26
    obtain ⟨v38, h37, h⟩ := bind_out h
    obtain ⟨v41, h40, h⟩ := bind_out h
    injection h with h; subst h; exact runFn_sound mixedOrders Tryz.func108 rfl (keep := some [0, 1, 5]) (π := [.callo (.tup [.agg [.v (.int .u64 v15), .v (.int .u64 v16), .v (.int .i64 v17), .os 0 n14], .v (.int .i64 v18)]) [.arr 5 l13 n14 false], .callm [0, 1] (.tup []) [.box 155 [.v (.int .i64 a1), .v (.int .i64 a2), .v (.int .i64 a3), .v (.int .i64 a4), .v (.int .u32 a5), .v (.int .u32 a6), .os 1 (List.length a7), .v (.int .i64 a8), .v (.int .i64 v21)] false, .arr 5 a7 (List.length a7) false], .callm [0, 1] (.tup []) [.box 155 [.v (.int .i64 a1), .v (.int .i64 a2), .v (.int .i64 a3), .v (.int .i64 a4), .v (.int .u32 a5), .v (.int .u32 a6), .os 1 (List.length a7), .v (.int .i64 a8), .v (.int .i64 v24)] false, .arr 5 a7 (List.length a7) false], .dec true, .callo (.tup [.agg [.v (.int .i64 v29), .v (.int .i64 v30), .v (.int .i64 v31), .v (.int .i64 v32), .v (.int .u32 v33), .v (.int .u32 v34), .os 0 (List.length l28)], .v (.int .i64 v35)]) [.arr 5 l28 (List.length l28) false], .callm [0, 5] (.tup []) [.box 155 [.v (.int .i64 v29), .v (.int .i64 v30), .v (.int .i64 v31), .v (.int .i64 v32), .v (.int .u32 v33), .v (.int .u32 v34), .os 1 (List.length l28), .v (.int .i64 a8), .v (.int .i64 v38)] false, .arr 5 l28 (List.length l28) false], .callm [0, 5] (.tup []) [.box 155 [.v (.int .i64 v29), .v (.int .i64 v30), .v (.int .i64 v31), .v (.int .i64 v32), .v (.int .u32 v33), .v (.int .u32 v34), .os 1 (List.length l28), .v (.int .i64 a8), .v (.int .i64 v41)] false, .arr 5 l28 (List.length l28) false]]) (hrun := by kernel_rfl) (hps := pc (k_ether_Take h12) <| pc (im5 l13) <| pc (k_vxlan_reader_fail_own h20) <| pc (k_vxlan_reader_fail_own h23) <| pc (h25) <| pc (k_ipv4_Take h27) <| pc (im5 l28) <| pc ((rfl : (n14 : Nat) = n14)) <| pc (k_vxlan_reader_fail_own h37) <| pc (k_vxlan_reader_fail_own h40) <| pn)
  · injection h with h; subst h; exact runFn_sound mixedOrders Tryz.func108 rfl (keep := some [0, 1]) (π := [.callo (.tup [.agg [.v (.int .u64 v15), .v (.int .u64 v16), .v (.int .i64 v17), .os 0 n14], .v (.int .i64 v18)]) [.arr 5 l13 n14 false], .callm [0, 1] (.tup []) [.box 155 [.v (.int .i64 a1), .v (.int .i64 a2), .v (.int .i64 a3), .v (.int .i64 a4), .v (.int .u32 a5), .v (.int .u32 a6), .os 1 (List.length a7), .v (.int .i64 a8), .v (.int .i64 v21)] false, .arr 5 a7 (List.length a7) false], .callm [0, 1] (.tup []) [.box 155 [.v (.int .i64 a1), .v (.int .i64 a2), .v (.int .i64 a3), .v (.int .i64 a4), .v (.int .u32 a5), .v (.int .u32 a6), .os 1 (List.length a7), .v (.int .i64 a8), .v (.int .i64 v24)] false, .arr 5 a7 (List.length a7) false], .dec false]) (hrun := by kernel_rfl) (hps := pc (k_ether_Take h12) <| pc (im5 l13) <| pc (k_vxlan_reader_fail_own h20) <| pc (k_vxlan_reader_fail_own h23) <| pc (h25) <| pn)

theorem k_udp_Take_L1 {a1 : List Int} : LoopOK Tryz.prog UU 0 55 (subC (codeOf Tryz.f141) [1, 1, 1, 0, 1, 0, 0]) (fun s : Int × Int × Int × Int × Int => match s with | (v3, v4, v5, v6, v7) => udp_Take_L1 a1 v3 v4 v5 v6 v7)
    (fun s : Int × Int × Int × Int × Int => (match s with | (v3, v4, v5, v6, v7) => [(0, .sl 5 a1), (2, .z), (3, .z), (4, .os 0 0), (5, .z), (6, .op 1 1 0 0), (11, .v (.int .i64 v4))] : Fr DD)) (fun s : Int × Int × Int × Int × Int => (match s with | (v3, v4, v5, v6, v7) => [.n 5, .box 183 [.v (.int .i64 v3), .v (.int .i64 v5), .v (.int .i64 v6), .v (.int .i64 v7)] false] : Heap DD)) (fun r => match r with | (v41, v42, v43, v44) => .exit 0) (fun r => match r with | (v41, v42, v43, v44) => [(0, .sl 5 a1), (2, .z), (3, .z), (4, .os 0 0), (5, .z), (6, .op 1 1 0 0)]) (fun r => match r with | (v41, v42, v43, v44) => [.n 5, .box 183 [.v (.int .i64 v41), .v (.int .i64 v42), .v (.int .i64 v43), .v (.int .i64 v44)] false]) := by
  refine loop_sound3 (fun s q h => ?_) (fun r => ?_)
  · obtain ⟨v3, v4, v5, v6, v7⟩ := s; replace h : udp_Take_L1 a1 v3 v4 v5 v6 v7 = some q := h
    unfold udp_Take_L1 at h
    rcases ite_out h with ⟨h8, h⟩ | ⟨h8, h⟩
    · obtain ⟨x9, h10, h⟩ := bind_out h
      obtain ⟨x11, h12, h⟩ := bind_out h
      rcases ite_out h with ⟨h13, h⟩ | ⟨h13, h⟩
      · injection h with h; subst h; exact runLp_sound mixedOrders (live := [0, 2, 3, 4, 5, 6, 11]) (ids := [0, 1]) (π := [.dec true, .row (c5 x9), .row (c5 x11), .frz [0]]) (hx := by kernel_rfl) (hps := pc (h8) <| pc (ob5 h10) <| pc ((show (0 : Int) ≤ 8 from by decide)) <| pc (ob5 h12) <| pc (eq_of_beq h13) <| pn)
      · rcases ite_out h with ⟨h14, h⟩ | ⟨h14, h⟩
        · injection h with h; subst h; exact runLp_sound mixedOrders (live := [0, 2, 3, 4, 5, 6, 11]) (ids := [0, 1]) (π := [.dec true, .row (c5 x9), .row (c5 x11), .frz [1]]) (hx := by kernel_rfl) (hps := pc (h8) <| pc (ob5 h10) <| pc ((show (0 : Int) ≤ 8 from by decide)) <| pc (ob5 h12) <| pc (eq_of_beq h14) <| pn)
        · rcases ite_out h with ⟨h15, h⟩ | ⟨h15, h⟩
          · injection h with h; subst h; exact runLp_sound mixedOrders (live := [0, 2, 3, 4, 5, 6, 11]) (ids := [0, 1]) (π := [.dec true, .row (c5 x9), .row (c5 x11), .frz [2]]) (hx := by kernel_rfl) (hps := pc (h8) <| pc (ob5 h10) <| pc ((show (0 : Int) ≤ 8 from by decide)) <| pc (ob5 h12) <| pc (eq_of_beq h15) <| pn)
          · rcases ite_out h with ⟨h16, h⟩ | ⟨h16, h⟩
            · injection h with h; subst h; exact runLp_sound mixedOrders (live := [0, 2, 3, 4, 5, 6, 11]) (ids := [0, 1]) (π := [.dec true, .row (c5 x9), .row (c5 x11), .frz [3]]) (hx := by kernel_rfl) (hps := pc (h8) <| pc (ob5 h10) <| pc ((show (0 : Int) ≤ 8 from by decide)) <| pc (ob5 h12) <| pc (eq_of_beq h16) <| pn)
            · cases h
    · injection h with h; subst h; exact runLp_sound mixedOrders (live := [0, 2, 3, 4, 5, 6]) (ids := [0, 1]) (π := [.dec false]) (hx := by kernel_rfl) (hps := pc (h8) <| pn)
  · exact Ex.noConfusion

theorem k_udp_Take {a1 : List Int} {r : ((List Int) × Int × Int × Int)} (h : udp_Take a1 = some r) :
    CallsOK Tryz.prog UU 141 [.sl 5 a1] [] ((fun r => match r with | (l54, v55, v56, v57) => .tup [.v (.int .i64 v55), .v (.int .i64 v56), .os 0 (List.length l54), .v (.int .i64 v57)]) r) ((fun r => match r with | (l54, v55, v56, v57) => [.arr 5 l54 (List.length l54) false]) r) := by
  unfold udp_Take at h
  rcases ite_out h with ⟨h2, h⟩ | ⟨h2, h⟩
  · injection h with h; subst h; exact runFn_sound mixedOrders Tryz.func141 rfl (keep := some [1]) (π := [.dec true]) (hrun := by kernel_rfl) (hps := pc (h2) <| pn)
  · obtain ⟨r46, h45, h⟩ := bind_out h
    obtain ⟨v41, v42, v43, v44⟩ := r46
    rcases ite_out h with ⟨h47, h⟩ | ⟨h47, h⟩
    · injection h with h; subst h; exact runFn_sound mixedOrders Tryz.func141 rfl (keep := some [2]) (π := [.dec false, .sum [0, 2, 3, 4, 5, 6, 11] [0, 1] (.exit 0) [(0, .sl 5 a1), (2, .z), (3, .z), (4, .os 0 0), (5, .z), (6, .op 1 1 0 0)] [.n 5, .box 183 [.v (.int .i64 v41), .v (.int .i64 v42), .v (.int .i64 v43), .v (.int .i64 v44)] false], .frz [2], .dec true]) (hrun := by kernel_rfl) (hps := pc (h2) <| pc (k_udp_Take_L1 _ _ h45) <| pc ((rfl : (2 : Int) = ((2 : Nat) : Int))) <| pc (h47) <| pn)
    · rcases ite_out h with ⟨h48, h⟩ | ⟨h48, h⟩
      · injection h with h; subst h; exact runFn_sound mixedOrders Tryz.func141 rfl (keep := some [2]) (π := [.dec false, .sum [0, 2, 3, 4, 5, 6, 11] [0, 1] (.exit 0) [(0, .sl 5 a1), (2, .z), (3, .z), (4, .os 0 0), (5, .z), (6, .op 1 1 0 0)] [.n 5, .box 183 [.v (.int .i64 v41), .v (.int .i64 v42), .v (.int .i64 v43), .v (.int .i64 v44)] false], .frz [2], .dec false, .frz [2], .dec true]) (hrun := by kernel_rfl) (hps := pc (h2) <| pc (k_udp_Take_L1 _ _ h45) <| pc ((rfl : (2 : Int) = ((2 : Nat) : Int))) <| pc (h47) <| pc ((rfl : (2 : Int) = ((2 : Nat) : Int))) <| pc (h48) <| pn)
      · rcases ite_out h with ⟨h49, h⟩ | ⟨h49, h⟩
        · injection h with h; subst h; exact runFn_sound mixedOrders Tryz.func141 rfl (keep := some [2]) (π := [.dec false, .sum [0, 2, 3, 4, 5, 6, 11] [0, 1] (.exit 0) [(0, .sl 5 a1), (2, .z), (3, .z), (4, .os 0 0), (5, .z), (6, .op 1 1 0 0)] [.n 5, .box 183 [.v (.int .i64 v41), .v (.int .i64 v42), .v (.int .i64 v43), .v (.int .i64 v44)] false], .frz [2], .dec false, .frz [2], .dec false, .frz [3], .dec true]) (hrun := by kernel_rfl) (hps := pc (h2) <| pc (k_udp_Take_L1 _ _ h45) <| pc ((rfl : (2 : Int) = ((2 : Nat) : Int))) <| pc (h47) <| pc ((rfl : (2 : Int) = ((2 : Nat) : Int))) <| pc (h48) <| pc ((rfl : (3 : Int) = ((3 : Nat) : Int))) <| pc (h49) <| pn)
        · rcases ite_out h with ⟨h50, h⟩ | ⟨h50, h⟩
          · obtain ⟨l53, h52, h⟩ := bind_out h
            injection h with h; subst h; exact runFn_sound mixedOrders Tryz.func141 rfl (keep := some [2]) (π := [.dec false, .sum [0, 2, 3, 4, 5, 6, 11] [0, 1] (.exit 0) [(0, .sl 5 a1), (2, .z), (3, .z), (4, .os 0 0), (5, .z), (6, .op 1 1 0 0)] [.n 5, .box 183 [.v (.int .i64 v41), .v (.int .i64 v42), .v (.int .i64 v43), .v (.int .i64 v44)] false], .frz [2], .dec false, .frz [2], .dec false, .frz [3], .dec false, .sum [8] [] .nor [] [.n 5, .box 183 [.v (.int .i64 v41), .v (.int .i64 v42), .v (.int .i64 v43), .v (.int .i64 v44)] false, .arr 5 l53 (List.length l53) false], .frz [0], .frz [1], .frz [2], .callo (.os 0 (List.length l53)) [.arr 5 l53 (List.length l53) false]]) (hrun := by kernel_rfl) (hps := pc (h2) <| pc (k_udp_Take_L1 _ _ h45) <| pc ((rfl : (2 : Int) = ((2 : Nat) : Int))) <| pc (h47) <| pc ((rfl : (2 : Int) = ((2 : Nat) : Int))) <| pc (h48) <| pc ((rfl : (3 : Int) = ((3 : Nat) : Int))) <| pc (h49) <| pc ((rfl : (0 : Int) = ((0 : Nat) : Int))) <| pc ((rfl : (0 : Int) = ((0 : Nat) : Int))) <| pc ((rfl : (.op 1 1 0 0 : AV DD) = .op 1 1 0 0)) <| pc ((rfl : (.v (.int .i64 v41) : AV DD) = .v (.int .i64 v41))) <| pc ((rfl : (1 : Int) = ((1 : Nat) : Int))) <| pc ((rfl : (1 : Int) = ((1 : Nat) : Int))) <| pc ((rfl : (.op 1 1 0 1 : AV DD) = .op 1 1 0 1)) <| pc ((rfl : (.v (.int .i64 v42) : AV DD) = .v (.int .i64 v42))) <| pc ((rfl : (2 : Int) = ((2 : Nat) : Int))) <| pc (sl_ob h50) <| pc ((rfl : ([.n 5, .box 183 [.v (.int .i64 v41), .v (.int .i64 v42), .v (.int .i64 v43), .v (.int .i64 v44)] false, .arr 5 l53 (List.length l53) false] : Heap DD) = [.n 5, .box 183 [.v (.int .i64 v41), .v (.int .i64 v42), .v (.int .i64 v43), .v (.int .i64 v44)] false, .arr 5 l53 (List.length l53) false])) <| pc (k_slices_Clone_byte h52) <| pc (im5 l53) <| pn)
          · cases h

theorem k_vxlan_Vni {a1 : List Int} {r : ((List Int) × Int × Int)} (h : vxlan_Vni a1 = some r) :
    CallsOK Tryz.prog UU 142 [.sl 5 a1] [] ((fun r => match r with | (l18, v19, v20) => .tup [.v (.int .i64 v19), .os 0 (List.length l18), .v (.int .i64 v20)]) r) ((fun r => match r with | (l18, v19, v20) => [.arr 5 l18 (List.length l18) false]) r) := by
  unfold vxlan_Vni at h
  rcases ite_out h with ⟨h2, h⟩ | ⟨h2, h⟩
  · injection h with h; subst h; exact runFn_sound mixedOrders Tryz.func142 rfl (keep := some [1]) (π := [.dec true]) (hrun := by kernel_rfl) (hps := pc (h2) <| pn)
  · obtain ⟨x3, h4, h⟩ := bind_out h
    obtain ⟨x5, h6, h⟩ := bind_out h
    obtain ⟨x7, h8, h⟩ := bind_out h
    obtain ⟨r9, h10, h⟩ := bind_out h
    obtain ⟨l11, v12⟩ := r9
    rcases ite_out h with ⟨h13, h⟩ | ⟨h13, h⟩
    · injection h with h; subst h; exact runFn_sound mixedOrders Tryz.func142 rfl (keep := some [2]) (π := [.dec false, .row (c5 x3), .row (c5 x5), .row (c5 x7), .callo (.tup [.os 0 (List.length l11), .v (.int .i64 v12)]) [.arr 5 l11 (List.length l11) false], .dec true]) (hrun := by kernel_rfl) (hps := pc (h2) <| pc (ob5 h4) <| pc ((show (0 : Int) ≤ 16 from by decide)) <| pc (ob5 h6) <| pc ((show (0 : Int) ≤ 8 from by decide)) <| pc (ob5 h8) <| pc (k_vxlan_Head h10) <| pc (im5 l11) <| pc (h13) <| pn)
    · rcases ite_out h with ⟨h14, h⟩ | ⟨h14, h⟩
      · rcases ite_out h with ⟨h15, h⟩ | ⟨h15, h⟩
        · injection h with h; subst h; exact runFn_sound mixedOrders Tryz.func142 rfl (keep := some [2]) (π := [.dec false, .row (c5 x3), .row (c5 x5), .row (c5 x7), .callo (.tup [.os 0 (List.length l11), .v (.int .i64 v12)]) [.arr 5 l11 (List.length l11) false], .dec false, .callv (.v (.string (bstr l11))), .callv (.v (.string (bstr (List.drop (Int.toNat 0) (List.take (Int.toNat 8) a1))))), .dec true]) (hrun := by kernel_rfl) (hps := pc (h2) <| pc (ob5 h4) <| pc ((show (0 : Int) ≤ 16 from by decide)) <| pc (ob5 h6) <| pc ((show (0 : Int) ≤ 8 from by decide)) <| pc (ob5 h8) <| pc (k_vxlan_Head h10) <| pc (im5 l11) <| pc (h13) <| pc (cvb5 l11) <| pc ((rfl : ((List.length l11) : Nat) = (List.length l11))) <| pc (sl_ob h14) <| pc (cvb5 (List.drop (Int.toNat 0) (List.take (Int.toNat 8) a1))) <| pc (h15) <| pn)
        · rcases ite_out h with ⟨h16, h⟩ | ⟨h16, h⟩
          · rcases ite_out h with ⟨h17, h⟩ | ⟨h17, h⟩
            · injection h with h; subst h; exact runFn_sound mixedOrders Tryz.func142 rfl (keep := some [2]) (π := [.dec false, .row (c5 x3), .row (c5 x5), .row (c5 x7), .callo (.tup [.os 0 (List.length l11), .v (.int .i64 v12)]) [.arr 5 l11 (List.length l11) false], .dec false, .callv (.v (.string (bstr l11))), .callv (.v (.string (bstr (List.drop (Int.toNat 0) (List.take (Int.toNat 8) a1))))), .dec false, .obj [] (.arr 5 (List.drop (Int.toNat 8) (List.take (Int.toNat ((List.length a1) : Int)) a1)) (List.length (List.drop (Int.toNat 8) (List.take (Int.toNat ((List.length a1) : Int)) a1))) false)]) (hrun := by kernel_rfl) (hps := pc (h2) <| pc (ob5 h4) <| pc ((show (0 : Int) ≤ 16 from by decide)) <| pc (ob5 h6) <| pc ((show (0 : Int) ≤ 8 from by decide)) <| pc (ob5 h8) <| pc (k_vxlan_Head h10) <| pc (im5 l11) <| pc (h13) <| pc (cvb5 l11) <| pc ((rfl : ((List.length l11) : Nat) = (List.length l11))) <| pc (sl_ob h14) <| pc (cvb5 (List.drop (Int.toNat 0) (List.take (Int.toNat 8) a1))) <| pc (h15) <| pc (sl_ob h16) <| pc (apn_ob 5 h17) <| pn)
            · cases h
          · cases h
      · cases h

theorem k_vxlan_reader_frame_own_J1 {a1 : Int} {a2 : Int} {a3 : Int} {a4 : Int} {a5 : Int} {a6 : Int} {a7 : List Int} {a8 : Int} {l13 : List Int} {v16 : Int} {v22 : Int} {r : ((List Int) × Int × Int × Int)} (h : vxlan_reader_frame_own_J1 a1 a2 a3 a4 a5 a6 a7 a8 l13 v16 v22 = some r) :
    ExecOK Tryz.prog UU 2 70 (subC (codeOf Tryz.f109) [1, 1, 1, 1, 1, 0]) [(0, .op 0 1 0 0), (2, .op 2 1 0 0), (5, .os 4 (List.length l13)), (6, .v (.int .i64 v16))] [.box 155 [.v (.int .i64 a1), .v (.int .i64 a2), .v (.int .i64 a3), .v (.int .i64 a4), .v (.int .u32 a5), .v (.int .u32 a6), .os 1 (List.length a7), .v (.int .i64 a8), .v (.int .i64 v22)] false, .arr 5 a7 (List.length a7) false, .box 36 [.v (.int .u64 0), .v (.int .u64 0), .z, .os 3 0] false, .n 5, .arr 5 l13 (List.length l13) false] ((fun r => match r with | (l45, v46, v47, v48) => .nor) r) ((fun r => match r with | (l45, v46, v47, v48) => [(0, .op 0 1 0 0), (2, .op 2 1 0 0), (5, .os 4 (List.length l45)), (6, .v (.int .i64 v48))]) r) ((fun r => match r with | (l45, v46, v47, v48) => [.box 155 [.v (.int .i64 a1), .v (.int .i64 a2), .v (.int .i64 a3), .v (.int .i64 a4), .v (.int .u32 a5), .v (.int .u32 a6), .os 1 (List.length a7), .v (.int .i64 v46), .v (.int .i64 v47)] false, .arr 5 a7 (List.length a7) false, .box 36 [.v (.int .u64 0), .v (.int .u64 0), .z, .os 3 0] false, .n 5, .arr 5 l45 (List.length l45) false]) r) := by
  unfold vxlan_reader_frame_own_J1 at h
  rcases ite_out h with ⟨h23, h⟩ | ⟨h23, h⟩
  · obtain ⟨r24, h25, h⟩ := bind_out h
    obtain ⟨l26, v27, v28⟩ := r24
    obtain ⟨v31, h30, h⟩ := bind_out h
    injection h with h; subst h; exact runLp_sound mixedOrders (live := [0, 2, 5, 6]) (ids := [0, 1, 2, 3, 5]) (π := [.dec true, .callo (.tup [.v (.int .i64 v27), .os 0 (List.length l26), .v (.int .i64 v28)]) [.arr 5 l26 (List.length l26) false], .callm [0, 1] (.tup []) [.box 155 [.v (.int .i64 a1), .v (.int .i64 a2), .v (.int .i64 a3), .v (.int .i64 a4), .v (.int .u32 a5), .v (.int .u32 a6), .os 1 (List.length a7), .v (.int .i64 v27), .v (.int .i64 v31)] false, .arr 5 a7 (List.length a7) false]]) (hx := by kernel_rfl) (hps := pc (h23) <| pc (k_vxlan_Vni h25) <| pc (im5 l26) <| pc ((rfl : ((List.length l13) : Nat) = (List.length l13))) <| pc (k_vxlan_reader_fail_own h30) <| pn)
  · injection h with h; subst h; exact runLp_sound mixedOrders (live := [0, 2, 5, 6]) (ids := [0, 1, 2, 3, 4]) (π := [.dec false]) (hx := by kernel_rfl) (hps := pc (h23) <| pn)

theorem k_vxlan_reader_frame_own {a1 : Int} {a2 : Int} {a3 : Int} {a4 : Int} {a5 : Int} {a6 : Int} {a7 : List Int} {a8 : Int} {a9 : Int} {r : ((List Int) × Int × Int × Nat × Int × Int × Int)} (h : vxlan_reader_frame_own a1 a2 a3 a4 a5 a6 a7 a8 a9 = some r) :
    CallsOK Tryz.prog UU 109 [.op 0 1 0 0] [.box 155 [.v (.int .i64 a1), .v (.int .i64 a2), .v (.int .i64 a3), .v (.int .i64 a4), .v (.int .u32 a5), .v (.int .u32 a6), .os 1 (List.length a7), .v (.int .i64 a8), .v (.int .i64 a9)] false, .arr 5 a7 (List.length a7) false] ((fun r => match r with | (l68, v69, v70, n71, v72, v73, v74) => .agg [.v (.int .u64 v72), .v (.int .u64 v73), .v (.int .i64 v74), .os 2 n71]) r) ((fun r => match r with | (l68, v69, v70, n71, v72, v73, v74) => [.box 155 [.v (.int .i64 a1), .v (.int .i64 a2), .v (.int .i64 a3), .v (.int .i64 a4), .v (.int .u32 a5), .v (.int .u32 a6), .os 1 (List.length a7), .v (.int .i64 v69), .v (.int .i64 v70)] false, .arr 5 a7 (List.length a7) false, .arr 5 l68 n71 false]) r) := by
  unfold vxlan_reader_frame_own at h
  rcases ite_out h with ⟨h10, h⟩ | ⟨h10, h⟩
  · injection h with h; subst h; exact runFn_sound mixedOrders Tryz.func109 rfl (keep := some [0, 1, 4]) (π := [.dec true]) (hrun := by kernel_rfl) (hps := pc (h10) <| pn)
  · obtain ⟨r11, h12, h⟩ := bind_out h
    obtain ⟨l13, v14, v15, v16⟩ := r11
    obtain ⟨v19, h18, h⟩ := bind_out h
    obtain ⟨v22, h21, h⟩ := bind_out h
    obtain ⟨r50, h49, h⟩ := bind_out h
    obtain ⟨l45, v46, v47, v48⟩ := r50
    rcases ite_out h with ⟨h51, h⟩ | ⟨h51, h⟩
    · injection h with h; subst h; exact runFn_sound mixedOrders Tryz.func109 rfl (keep := some [0, 1, 5]) (π := [.dec false, .callo (.tup [.v (.int .i64 v14), .v (.int .i64 v15), .os 0 (List.length l13), .v (.int .i64 v16)]) [.arr 5 l13 (List.length l13) false], .callm [0, 1] (.tup []) [.box 155 [.v (.int .i64 a1), .v (.int .i64 a2), .v (.int .i64 a3), .v (.int .i64 a4), .v (.int .u32 a5), .v (.int .u32 a6), .os 1 (List.length a7), .v (.int .i64 a8), .v (.int .i64 v19)] false, .arr 5 a7 (List.length a7) false], .callm [0, 1] (.tup []) [.box 155 [.v (.int .i64 a1), .v (.int .i64 a2), .v (.int .i64 a3), .v (.int .i64 a4), .v (.int .u32 a5), .v (.int .u32 a6), .os 1 (List.length a7), .v (.int .i64 a8), .v (.int .i64 v22)] false, .arr 5 a7 (List.length a7) false], .cut [0, 2, 5, 6] [0, 1, 3, 2, 4] .nor [(0, .op 0 1 0 0), (2, .op 2 1 0 0), (5, .os 4 (List.length l45)), (6, .v (.int .i64 v48))] [.box 155 [.v (.int .i64 a1), .v (.int .i64 a2), .v (.int .i64 a3), .v (.int .i64 a4), .v (.int .u32 a5), .v (.int .u32 a6), .os 1 (List.length a7), .v (.int .i64 v46), .v (.int .i64 v47)] false, .arr 5 a7 (List.length a7) false, .box 36 [.v (.int .u64 0), .v (.int .u64 0), .z, .os 3 0] false, .n 5, .arr 5 l45 (List.length l45) false], .dec true]) (hrun := by kernel_rfl) (hps := pc (h10) <| pc (k_udp_Take h12) <| pc (im5 l13) <| pc ((rfl : ((List.length a7) : Nat) = (List.length a7))) <| pc (k_vxlan_reader_fail_own h18) <| pc (k_vxlan_reader_fail_own h21) <| pc (k_vxlan_reader_frame_own_J1 h49) <| pc (h51) <| pn)
    · obtain ⟨r52, h53, h⟩ := bind_out h
      obtain ⟨l54, n55, v56, v57, v58, v59⟩ := r52
      obtain ⟨v62, h61, h⟩ := bind_out h
      obtain ⟨r63, h64, h⟩ := bind_out h
      obtain ⟨v67, h66, h⟩ := bind_out h
      injection h with h; subst h; exact runFn_sound mixedOrders Tryz.func109 rfl (keep := some [0, 1, 5]) (π := [.dec false, .callo (.tup [.v (.int .i64 v14), .v (.int .i64 v15), .os 0 (List.length l13), .v (.int .i64 v16)]) [.arr 5 l13 (List.length l13) false], .callm [0, 1] (.tup []) [.box 155 [.v (.int .i64 a1), .v (.int .i64 a2), .v (.int .i64 a3), .v (.int .i64 a4), .v (.int .u32 a5), .v (.int .u32 a6), .os 1 (List.length a7), .v (.int .i64 a8), .v (.int .i64 v19)] false, .arr 5 a7 (List.length a7) false], .callm [0, 1] (.tup []) [.box 155 [.v (.int .i64 a1), .v (.int .i64 a2), .v (.int .i64 a3), .v (.int .i64 a4), .v (.int .u32 a5), .v (.int .u32 a6), .os 1 (List.length a7), .v (.int .i64 a8), .v (.int .i64 v22)] false, .arr 5 a7 (List.length a7) false], .cut [0, 2, 5, 6] [0, 1, 3, 2, 4] .nor [(0, .op 0 1 0 0), (2, .op 2 1 0 0), (5, .os 4 (List.length l45)), (6, .v (.int .i64 v48))] [.box 155 [.v (.int .i64 a1), .v (.int .i64 a2), .v (.int .i64 a3), .v (.int .i64 a4), .v (.int .u32 a5), .v (.int .u32 a6), .os 1 (List.length a7), .v (.int .i64 v46), .v (.int .i64 v47)] false, .arr 5 a7 (List.length a7) false, .box 36 [.v (.int .u64 0), .v (.int .u64 0), .z, .os 3 0] false, .n 5, .arr 5 l45 (List.length l45) false], .dec false, .callo (.tup [.agg [.v (.int .u64 v56), .v (.int .u64 v57), .v (.int .i64 v58), .os 0 n55], .v (.int .i64 v59)]) [.arr 5 l54 n55 false], .callm [0, 1] (.tup []) [.box 155 [.v (.int .i64 a1), .v (.int .i64 a2), .v (.int .i64 a3), .v (.int .i64 a4), .v (.int .u32 a5), .v (.int .u32 a6), .os 1 (List.length a7), .v (.int .i64 v46), .v (.int .i64 v62)] false, .arr 5 a7 (List.length a7) false], .callv (.v (.bool r63)), .callm [0, 1] (.tup []) [.box 155 [.v (.int .i64 a1), .v (.int .i64 a2), .v (.int .i64 a3), .v (.int .i64 a4), .v (.int .u32 a5), .v (.int .u32 a6), .os 1 (List.length a7), .v (.int .i64 v46), .v (.int .i64 v67)] false, .arr 5 a7 (List.length a7) false]]) (hrun := by kernel_rfl) (hps := pc (h10) <| pc (k_udp_Take h12) <| pc (im5 l13) <| pc ((rfl : ((List.length a7) : Nat) = (List.length a7))) <| pc (k_vxlan_reader_fail_own h18) <| pc (k_vxlan_reader_fail_own h21) <| pc (k_vxlan_reader_frame_own_J1 h49) <| pc (h51) <| pc (k_ether_Take h53) <| pc (im5 l54) <| pc ((rfl : ((List.length l45) : Nat) = (List.length l45))) <| pc (k_vxlan_reader_fail_own h61) <| pc (k_tag_Is h64) <| pc ((rfl : (n55 : Nat) = n55)) <| pc (k_vxlan_reader_fail_own h66) <| pn)

theorem k_vxlan_Unwrap_J1 {a1 : List Int} {r : ((List Int) × Int × Int × Int × Int × Int × Int × Int)} (h : vxlan_Unwrap_J1 a1 = some r) :
    ExecOK Tryz.prog UU 0 43 (subC (codeOf Tryz.f46) [1, 1, 0]) [(0, .sl 5 a1), (2, .v (.int .u32 0)), (3, .v (.int .u32 0)), (4, .z), (5, .op 0 1 0 0), (6, .z), (7, .op 2 1 0 0)] [.box 36 [.v (.int .u64 0), .v (.int .u64 0), .z, .os 1 0] false, .n 5, .box 155 [.z, .z, .z, .z, .v (.int .u32 0), .v (.int .u32 0), .os 3 0, .z, .z] false, .n 5] ((fun r => match r with | (l61, v62, v63, v64, v65, v66, v67, v68) => .nor) r) ((fun r => match r with | (l61, v62, v63, v64, v65, v66, v67, v68) => [(2, .v (.int .u32 0)), (3, .v (.int .u32 0)), (4, .z), (5, .op 0 1 0 0), (6, .z), (7, .op 2 1 0 0)]) r) ((fun r => match r with | (l61, v62, v63, v64, v65, v66, v67, v68) => [.box 36 [.v (.int .u64 0), .v (.int .u64 0), .z, .os 1 0] false, .n 5, .box 155 [.v (.int .i64 v62), .v (.int .i64 v63), .v (.int .i64 v64), .v (.int .i64 v65), .v (.int .u32 v66), .v (.int .u32 v67), .os 3 (List.length l61), .z, .v (.int .i64 v68)] false, .arr 5 l61 (List.length l61) false]) r) := by
  unfold vxlan_Unwrap_J1 at h
  obtain ⟨r2, h3, h⟩ := bind_out h
  rcases r2 with ⟨l4, v5, v6, v7, v8, v9, v10, v11⟩ | v12
  · injection h with h; subst h; exact runLp_sound mixedOrders (live := [2, 3, 4, 5, 6, 7]) (ids := [0, 1, 2, 4]) (π := [.callm [2, 3] (.tup []) [.box 155 [.v (.int .i64 v5), .v (.int .i64 v6), .v (.int .i64 v7), .v (.int .i64 v8), .v (.int .u32 v9), .v (.int .u32 v10), .os 2 (List.length l4), .z, .v (.int .i64 v11)] false, .n 5, .arr 5 l4 (List.length l4) false]]) (hx := by kernel_rfl) (hps := pc (k_vxlan_reader_packet_own h3) <| pn)
  · injection h with h; subst h; exact runLp_sound mixedOrders (live := [2, 3, 4, 5, 6, 7]) (ids := [0, 1, 2, 3]) (π := [.callm [2, 3] (.tup []) [.box 155 [.z, .z, .z, .z, .v (.int .u32 0), .v (.int .u32 0), .os 1 0, .z, .v (.int .i64 v12)] false, .n 5]]) (hx := by kernel_rfl) (hps := pc (k_vxlan_reader_packet_own h3) <| pn)

theorem k_vxlan_Unwrap {a1 : List Int} {r : ((List Int) × Nat × Int × Int × Int × Int × Int × Int × Int)} (h : vxlan_Unwrap a1 = some r) :
    CallsOK Tryz.prog UU 46 [.sl 5 a1] [] ((fun r => match r with | (l81, n82, v83, v84, v85, v86, v87, v88, v89) => .tup [.v (.int .u32 v83), .v (.int .u32 v84), .v (.int .i64 v85), .agg [.v (.int .u64 v86), .v (.int .u64 v87), .v (.int .i64 v88), .os 0 n82], .v (.int .i64 v89)]) r) ((fun r => match r with | (l81, n82, v83, v84, v85, v86, v87, v88, v89) => [.arr 5 l81 n82 false]) r) := by
  unfold vxlan_Unwrap at h
  obtain ⟨r70, h69, h⟩ := bind_out h
  obtain ⟨l61, v62, v63, v64, v65, v66, v67, v68⟩ := r70
  obtain ⟨r71, h72, h⟩ := bind_out h
  obtain ⟨l73, v74, v75, n76, v77, v78, v79⟩ := r71
  rcases ite_out h with ⟨h80, h⟩ | ⟨h80, h⟩
  · injection h with h; subst h; exact runFn_sound mixedOrders Tryz.func46 rfl (keep := some [5]) (π := [.skp, .skp, .cut [0, 2, 3, 4, 5, 6, 7] [1, 0, 3, 2] .nor [(2, .v (.int .u32 0)), (3, .v (.int .u32 0)), (4, .z), (5, .op 0 1 0 0), (6, .z), (7, .op 2 1 0 0)] [.box 36 [.v (.int .u64 0), .v (.int .u64 0), .z, .os 1 0] false, .n 5, .box 155 [.v (.int .i64 v62), .v (.int .i64 v63), .v (.int .i64 v64), .v (.int .i64 v65), .v (.int .u32 v66), .v (.int .u32 v67), .os 3 (List.length l61), .z, .v (.int .i64 v68)] false, .arr 5 l61 (List.length l61) false], .callm [2, 3] (.agg [.v (.int .u64 v77), .v (.int .u64 v78), .v (.int .i64 v79), .os 2 n76]) [.box 155 [.v (.int .i64 v62), .v (.int .i64 v63), .v (.int .i64 v64), .v (.int .i64 v65), .v (.int .u32 v66), .v (.int .u32 v67), .os 1 (List.length l61), .v (.int .i64 v74), .v (.int .i64 v75)] false, .arr 5 l61 (List.length l61) false, .arr 5 l73 n76 false], .dec true, .sum [8] [] .nor [] [.box 36 [.v (.int .u64 0), .v (.int .u64 0), .z, .os 5 0] false, .n 5, .box 155 [.v (.int .i64 v62), .v (.int .i64 v63), .v (.int .i64 v64), .v (.int .i64 v65), .v (.int .u32 v66), .v (.int .u32 v67), .os 3 (List.length l61), .v (.int .i64 v74), .v (.int .i64 v75)] false, .arr 5 l61 (List.length l61) false, .arr 5 l73 n76 false, .n 5]]) (hrun := by kernel_rfl) (hps := pc (k_vxlan_Unwrap_J1 h69) <| pc (k_vxlan_reader_frame_own h72) <| pc (h80) <| pc ((rfl : (.op 2 1 0 0 : AV DD) = .op 2 1 0 0)) <| pc ((rfl : (.op 2 1 0 0 : AV DD) = .op 2 1 0 0)) <| pc ((rfl : (.op 2 1 0 8 : AV DD) = .op 2 1 0 8)) <| pc ((rfl : (.v (.int .i64 v75) : AV DD) = .v (.int .i64 v75))) <| pc ((rfl : ([.box 36 [.v (.int .u64 0), .v (.int .u64 0), .z, .os 5 0] false, .n 5, .box 155 [.v (.int .i64 v62), .v (.int .i64 v63), .v (.int .i64 v64), .v (.int .i64 v65), .v (.int .u32 v66), .v (.int .u32 v67), .os 3 (List.length l61), .v (.int .i64 v74), .v (.int .i64 v75)] false, .arr 5 l61 (List.length l61) false, .arr 5 l73 n76 false, .n 5] : Heap DD) = [.box 36 [.v (.int .u64 0), .v (.int .u64 0), .z, .os 5 0] false, .n 5, .box 155 [.v (.int .i64 v62), .v (.int .i64 v63), .v (.int .i64 v64), .v (.int .i64 v65), .v (.int .u32 v66), .v (.int .u32 v67), .os 3 (List.length l61), .v (.int .i64 v74), .v (.int .i64 v75)] false, .arr 5 l61 (List.length l61) false, .arr 5 l73 n76 false, .n 5])) <| pn)
  · injection h with h; subst h; exact runFn_sound mixedOrders Tryz.func46 rfl (keep := some [4]) (π := [.skp, .skp, .cut [0, 2, 3, 4, 5, 6, 7] [1, 0, 3, 2] .nor [(2, .v (.int .u32 0)), (3, .v (.int .u32 0)), (4, .z), (5, .op 0 1 0 0), (6, .z), (7, .op 2 1 0 0)] [.box 36 [.v (.int .u64 0), .v (.int .u64 0), .z, .os 1 0] false, .n 5, .box 155 [.v (.int .i64 v62), .v (.int .i64 v63), .v (.int .i64 v64), .v (.int .i64 v65), .v (.int .u32 v66), .v (.int .u32 v67), .os 3 (List.length l61), .z, .v (.int .i64 v68)] false, .arr 5 l61 (List.length l61) false], .callm [2, 3] (.agg [.v (.int .u64 v77), .v (.int .u64 v78), .v (.int .i64 v79), .os 2 n76]) [.box 155 [.v (.int .i64 v62), .v (.int .i64 v63), .v (.int .i64 v64), .v (.int .i64 v65), .v (.int .u32 v66), .v (.int .u32 v67), .os 1 (List.length l61), .v (.int .i64 v74), .v (.int .i64 v75)] false, .arr 5 l61 (List.length l61) false, .arr 5 l73 n76 false], .dec false]) (hrun := by kernel_rfl) (hps := pc (k_vxlan_Unwrap_J1 h69) <| pc (k_vxlan_reader_frame_own h72) <| pc (h80) <| pn)

theorem k_leave_whole_ends_1 {a1 : Api_Device} {a2 : Int} {r : Bool} (h : leave_whole_ends_1 a1 a2 = some r) :
    CallsOK Tryz.prog UU 111 [.agg (c89 a1), .rp (c32 a2) 0] [] (.v (.bool r)) [] := by
  unfold leave_whole_ends_1 at h
  injection h with h; subst h; exact runFn_sound mixedOrders Tryz.func111 rfl (keep := none) (π := []) (hrun := by kernel_rfl) (hps := pn)

end Go.Eng
