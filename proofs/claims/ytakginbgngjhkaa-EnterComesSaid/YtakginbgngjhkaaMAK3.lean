/- Part of the proof of EnterComes: printed mirrors of the functions, or their contracts. No conditions. -/
import Derived.Test.YtakginbgngjhkaaMAK2
set_option linter.unusedVariables false
set_option maxRecDepth 100000
namespace Go.Eng
open Go Go.Proofs
theorem k_palingref15_rest_L1 {a1 : Api_Net} : LoopOK Try.prog UU 0 192 (subC (codeOf Try.f66) [1, 0, 1, 0, 0]) (ρ := Unit ⊕ Unit) (palingref15_rest_L1 a1)
    (fun v2 : Int => ([(1, .op 0 1 0 0), (2, .v (.bool false)), (3, .v (.int .i64 v2))] : Fr DD)) (fun v2 : Int => ([.box 31 (c31 a1) false] : Heap DD)) (fun r => match r with | Sum.inl _ => .ret | Sum.inr _ => .exit 0) (fun r => match r with | Sum.inl _ => [(2, .v (.bool false))] | Sum.inr _ => [(1, .op 0 1 0 0), (2, .v (.bool false))]) (fun r => match r with | Sum.inl _ => [] | Sum.inr _ => [.box 31 (c31 a1) false]) := by
  refine loop_sound3 (fun s q h => ?_) (fun r => ?_)
  · replace h : palingref15_rest_L1 a1 s = some q := h; revert h; revert s; intro v2 h
    unfold palingref15_rest_L1 at h
    rcases ite_out h with ⟨h3, h⟩ | ⟨h3, h⟩
    · obtain ⟨x4, h5, h⟩ := bind_out h
      obtain ⟨r6, h7, h⟩ := bind_out h
      rcases ite_out h with ⟨h8, h⟩ | ⟨h8, h⟩
      · injection h with h; subst h; exact runLp_sound mixedOrders (live := [2]) (ids := []) (π := [.dec true, .row (c118 x4), .callv (.v (.bool r6)), .dec true]) (hx := by kernel_rfl) (hps := pc (h3) <| pc (ob118 h5) <| pc (k_palingref15_Place h7) <| pc (h8) <| pn)
      · obtain ⟨r9, h10, h⟩ := bind_out h
        rcases ite_out h with ⟨h11, h⟩ | ⟨h11, h⟩
        · injection h with h; subst h; exact runLp_sound mixedOrders (live := [2]) (ids := []) (π := [.dec true, .row (c118 x4), .callv (.v (.bool r6)), .dec false, .callv (.v (.bool r9)), .dec true]) (hx := by kernel_rfl) (hps := pc (h3) <| pc (ob118 h5) <| pc (k_palingref15_Place h7) <| pc (h8) <| pc (k_palingref15_Place h10) <| pc (h11) <| pn)
        · obtain ⟨x12, h13, h⟩ := bind_out h
          obtain ⟨x14, h15, h⟩ := bind_out h
          rcases ite_out h with ⟨h16, h⟩ | ⟨h16, h⟩
          · injection h with h; subst h; exact runLp_sound mixedOrders (live := [2]) (ids := []) (π := [.dec true, .row (c118 x4), .callv (.v (.bool r6)), .dec false, .callv (.v (.bool r9)), .dec false, .row (c40 x12), .row (c60 x14), .dec true]) (hx := by kernel_rfl) (hps := pc (h3) <| pc (ob118 h5) <| pc (k_palingref15_Place h7) <| pc (h8) <| pc (k_palingref15_Place h10) <| pc (h11) <| pc (ob40 h13) <| pc (ob60 h15) <| pc (h16) <| pn)
          · obtain ⟨x17, h18, h⟩ := bind_out h
            obtain ⟨r19, h20, h⟩ := bind_out h
            rcases ite_out h with ⟨h21, h⟩ | ⟨h21, h⟩
            · injection h with h; subst h; exact runLp_sound mixedOrders (live := [2]) (ids := []) (π := [.dec true, .row (c118 x4), .callv (.v (.bool r6)), .dec false, .callv (.v (.bool r9)), .dec false, .row (c40 x12), .row (c60 x14), .dec false, .row (c60 x17), .callv (.v (.bool r19)), .dec true]) (hx := by kernel_rfl) (hps := pc (h3) <| pc (ob118 h5) <| pc (k_palingref15_Place h7) <| pc (h8) <| pc (k_palingref15_Place h10) <| pc (h11) <| pc (ob40 h13) <| pc (ob60 h15) <| pc (h16) <| pc (ob60 h18) <| pc (k_palingref15_Member h20) <| pc (h21) <| pn)
            · injection h with h; subst h; exact runLp_sound mixedOrders (live := [1, 2, 3]) (ids := [0]) (π := [.dec true, .row (c118 x4), .callv (.v (.bool r6)), .dec false, .callv (.v (.bool r9)), .dec false, .row (c40 x12), .row (c60 x14), .dec false, .row (c60 x17), .callv (.v (.bool r19)), .dec false]) (hx := by kernel_rfl) (hps := pc (h3) <| pc (ob118 h5) <| pc (k_palingref15_Place h7) <| pc (h8) <| pc (k_palingref15_Place h10) <| pc (h11) <| pc (ob40 h13) <| pc (ob60 h15) <| pc (h16) <| pc (ob60 h18) <| pc (k_palingref15_Member h20) <| pc (h21) <| pn)
    · injection h with h; subst h; exact runLp_sound mixedOrders (live := [1, 2]) (ids := [0]) (π := [.dec false]) (hx := by kernel_rfl) (hps := pc (h3) <| pn)
  · rcases r with _ | _ <;> exact Ex.noConfusion

theorem k_palingref15_rest_L2 {a1 : Api_Net} : LoopOK Try.prog UU 0 192 (subC (codeOf Try.f66) [1, 1, 0, 1, 0, 0]) (ρ := Unit ⊕ Unit) (palingref15_rest_L2 a1)
    (fun v24 : Int => ([(1, .op 0 1 0 0), (2, .v (.bool false)), (6, .v (.int .i64 v24))] : Fr DD)) (fun v24 : Int => ([.box 31 (c31 a1) false] : Heap DD)) (fun r => match r with | Sum.inl _ => .ret | Sum.inr _ => .exit 2) (fun r => match r with | Sum.inl _ => [(2, .v (.bool false))] | Sum.inr _ => [(1, .op 0 1 0 0), (2, .v (.bool false))]) (fun r => match r with | Sum.inl _ => [] | Sum.inr _ => [.box 31 (c31 a1) false]) := by
  refine loop_sound3 (fun s q h => ?_) (fun r => ?_)
  · replace h : palingref15_rest_L2 a1 s = some q := h; revert h; revert s; intro v24 h
    unfold palingref15_rest_L2 at h
    rcases ite_out h with ⟨h25, h⟩ | ⟨h25, h⟩
    · obtain ⟨x26, h27, h⟩ := bind_out h
      obtain ⟨r28, h29, h⟩ := bind_out h
      rcases ite_out h with ⟨h30, h⟩ | ⟨h30, h⟩
      · injection h with h; subst h; exact runLp_sound mixedOrders (live := [2]) (ids := []) (π := [.dec true, .row (c92 x26), .callv (.v (.bool r28)), .dec true]) (hx := by kernel_rfl) (hps := pc (h25) <| pc (ob92 h27) <| pc (k_palingref15_Place h29) <| pc (h30) <| pn)
      · obtain ⟨x31, h32, h⟩ := bind_out h
        rcases ite_out h with ⟨h33, h⟩ | ⟨h33, h⟩
        · injection h with h; subst h; exact runLp_sound mixedOrders (live := [2]) (ids := []) (π := [.dec true, .row (c92 x26), .callv (.v (.bool r28)), .dec false, .row (c92 x31), .dec true]) (hx := by kernel_rfl) (hps := pc (h25) <| pc (ob92 h27) <| pc (k_palingref15_Place h29) <| pc (h30) <| pc (ob92 h32) <| pc (h33) <| pn)
        · injection h with h; subst h; exact runLp_sound mixedOrders (live := [1, 2, 6]) (ids := [0]) (π := [.dec true, .row (c92 x26), .callv (.v (.bool r28)), .dec false, .row (c92 x31), .dec false]) (hx := by kernel_rfl) (hps := pc (h25) <| pc (ob92 h27) <| pc (k_palingref15_Place h29) <| pc (h30) <| pc (ob92 h32) <| pc (h33) <| pn)
    · injection h with h; subst h; exact runLp_sound mixedOrders (live := [1, 2]) (ids := [0]) (π := [.dec false]) (hx := by kernel_rfl) (hps := pc (h25) <| pn)
  · rcases r with _ | _ <;> exact Ex.noConfusion

theorem k_palingref15_rest_L3 {a1 : Api_Net} : LoopOK Try.prog UU 0 192 (subC (codeOf Try.f66) [1, 1, 1, 0, 1, 0, 0]) (ρ := Unit ⊕ Unit) (palingref15_rest_L3 a1)
    (fun v36 : Int => ([(1, .op 0 1 0 0), (2, .v (.bool false)), (7, .v (.int .i64 v36))] : Fr DD)) (fun v36 : Int => ([.box 31 (c31 a1) false] : Heap DD)) (fun r => match r with | Sum.inl _ => .ret | Sum.inr _ => .exit 4) (fun r => match r with | Sum.inl _ => [(2, .v (.bool false))] | Sum.inr _ => [(1, .op 0 1 0 0), (2, .v (.bool false))]) (fun r => match r with | Sum.inl _ => [] | Sum.inr _ => [.box 31 (c31 a1) false]) := by
  refine loop_sound3 (fun s q h => ?_) (fun r => ?_)
  · replace h : palingref15_rest_L3 a1 s = some q := h; revert h; revert s; intro v36 h
    unfold palingref15_rest_L3 at h
    rcases ite_out h with ⟨h37, h⟩ | ⟨h37, h⟩
    · obtain ⟨x38, h39, h⟩ := bind_out h
      obtain ⟨r40, h41, h⟩ := bind_out h
      rcases ite_out h with ⟨h42, h⟩ | ⟨h42, h⟩
      · injection h with h; subst h; exact runLp_sound mixedOrders (live := [2]) (ids := []) (π := [.dec true, .row (c94 x38), .callv (.v (.bool r40)), .dec true]) (hx := by kernel_rfl) (hps := pc (h37) <| pc (ob94 h39) <| pc (k_palingref15_Place h41) <| pc (h42) <| pn)
      · obtain ⟨r43, h44, h⟩ := bind_out h
        rcases ite_out h with ⟨h45, h⟩ | ⟨h45, h⟩
        · injection h with h; subst h; exact runLp_sound mixedOrders (live := [2]) (ids := []) (π := [.dec true, .row (c94 x38), .callv (.v (.bool r40)), .dec false, .callv (.v (.bool r43)), .dec true]) (hx := by kernel_rfl) (hps := pc (h37) <| pc (ob94 h39) <| pc (k_palingref15_Place h41) <| pc (h42) <| pc (k_palingref15_rising h44) <| pc (h45) <| pn)
        · obtain ⟨r46, h47, h⟩ := bind_out h
          rcases ite_out h with ⟨h48, h⟩ | ⟨h48, h⟩
          · injection h with h; subst h; exact runLp_sound mixedOrders (live := [2]) (ids := []) (π := [.dec true, .row (c94 x38), .callv (.v (.bool r40)), .dec false, .callv (.v (.bool r43)), .dec false, .callv (.v (.bool r46)), .dec true]) (hx := by kernel_rfl) (hps := pc (h37) <| pc (ob94 h39) <| pc (k_palingref15_Place h41) <| pc (h42) <| pc (k_palingref15_rising h44) <| pc (h45) <| pc (k_palingref15_rising h47) <| pc (h48) <| pn)
          · injection h with h; subst h; exact runLp_sound mixedOrders (live := [1, 2, 7]) (ids := [0]) (π := [.dec true, .row (c94 x38), .callv (.v (.bool r40)), .dec false, .callv (.v (.bool r43)), .dec false, .callv (.v (.bool r46)), .dec false]) (hx := by kernel_rfl) (hps := pc (h37) <| pc (ob94 h39) <| pc (k_palingref15_Place h41) <| pc (h42) <| pc (k_palingref15_rising h44) <| pc (h45) <| pc (k_palingref15_rising h47) <| pc (h48) <| pn)
    · injection h with h; subst h; exact runLp_sound mixedOrders (live := [1, 2]) (ids := [0]) (π := [.dec false]) (hx := by kernel_rfl) (hps := pc (h37) <| pn)
  · rcases r with _ | _ <;> exact Ex.noConfusion

theorem k_palingref15_rest_L4 {a1 : Api_Net} : LoopOK Try.prog UU 0 192 (subC (codeOf Try.f66) [1, 1, 1, 1, 0, 1, 0, 0]) (ρ := Unit ⊕ Unit) (palingref15_rest_L4 a1)
    (fun v51 : Int => ([(1, .op 0 1 0 0), (2, .v (.bool false)), (9, .v (.int .i64 v51))] : Fr DD)) (fun v51 : Int => ([.box 31 (c31 a1) false] : Heap DD)) (fun r => match r with | Sum.inl _ => .ret | Sum.inr _ => .exit 6) (fun r => match r with | Sum.inl _ => [(2, .v (.bool false))] | Sum.inr _ => [(2, .v (.bool false))]) (fun r => match r with | Sum.inl _ => [] | Sum.inr _ => []) := by
  refine loop_sound3 (fun s q h => ?_) (fun r => ?_)
  · replace h : palingref15_rest_L4 a1 s = some q := h; revert h; revert s; intro v51 h
    unfold palingref15_rest_L4 at h
    rcases ite_out h with ⟨h52, h⟩ | ⟨h52, h⟩
    · obtain ⟨x53, h54, h⟩ := bind_out h
      obtain ⟨r55, h56, h⟩ := bind_out h
      rcases ite_out h with ⟨h57, h⟩ | ⟨h57, h⟩
      · injection h with h; subst h; exact runLp_sound mixedOrders (live := [2]) (ids := []) (π := [.dec true, .row (c130 x53), .callv (.v (.bool r55)), .dec true]) (hx := by kernel_rfl) (hps := pc (h52) <| pc (ob130 h54) <| pc (k_palingref15_Place h56) <| pc (h57) <| pn)
      · obtain ⟨r58, h59, h⟩ := bind_out h
        rcases ite_out h with ⟨h60, h⟩ | ⟨h60, h⟩
        · injection h with h; subst h; exact runLp_sound mixedOrders (live := [2]) (ids := []) (π := [.dec true, .row (c130 x53), .callv (.v (.bool r55)), .dec false, .callv (.v (.bool r58)), .dec true]) (hx := by kernel_rfl) (hps := pc (h52) <| pc (ob130 h54) <| pc (k_palingref15_Place h56) <| pc (h57) <| pc (k_palingref15_Place h59) <| pc (h60) <| pn)
        · rcases ite_out h with ⟨h61, h⟩ | ⟨h61, h⟩
          · injection h with h; subst h; exact runLp_sound mixedOrders (live := [2]) (ids := []) (π := [.dec true, .row (c130 x53), .callv (.v (.bool r55)), .dec false, .callv (.v (.bool r58)), .dec false, .dec true]) (hx := by kernel_rfl) (hps := pc (h52) <| pc (ob130 h54) <| pc (k_palingref15_Place h56) <| pc (h57) <| pc (k_palingref15_Place h59) <| pc (h60) <| pc (h61) <| pn)
          · rcases ite_out h with ⟨h62, h⟩ | ⟨h62, h⟩
            · injection h with h; subst h; exact runLp_sound mixedOrders (live := [2]) (ids := []) (π := [.dec true, .row (c130 x53), .callv (.v (.bool r55)), .dec false, .callv (.v (.bool r58)), .dec false, .dec false, .dec true]) (hx := by kernel_rfl) (hps := pc (h52) <| pc (ob130 h54) <| pc (k_palingref15_Place h56) <| pc (h57) <| pc (k_palingref15_Place h59) <| pc (h60) <| pc (h61) <| pc (h62) <| pn)
            · obtain ⟨x63, h64, h⟩ := bind_out h
              obtain ⟨x65, h66, h⟩ := bind_out h
              rcases ite_out h with ⟨h67, h⟩ | ⟨h67, h⟩
              · injection h with h; subst h; exact runLp_sound mixedOrders (live := [2]) (ids := []) (π := [.dec true, .row (c130 x53), .callv (.v (.bool r55)), .dec false, .callv (.v (.bool r58)), .dec false, .dec false, .dec false, .row (c40 x63), .row (c94 x65), .dec true]) (hx := by kernel_rfl) (hps := pc (h52) <| pc (ob130 h54) <| pc (k_palingref15_Place h56) <| pc (h57) <| pc (k_palingref15_Place h59) <| pc (h60) <| pc (h61) <| pc (h62) <| pc (ob40 h64) <| pc (ob94 h66) <| pc (h67) <| pn)
              · obtain ⟨x68, h69, h⟩ := bind_out h
                rcases ite_out h with ⟨h70, h⟩ | ⟨h70, h⟩
                · injection h with h; subst h; exact runLp_sound mixedOrders (live := [2]) (ids := []) (π := [.dec true, .row (c130 x53), .callv (.v (.bool r55)), .dec false, .callv (.v (.bool r58)), .dec false, .dec false, .dec false, .row (c40 x63), .row (c94 x65), .dec false, .row (c40 x68), .dec true]) (hx := by kernel_rfl) (hps := pc (h52) <| pc (ob130 h54) <| pc (k_palingref15_Place h56) <| pc (h57) <| pc (k_palingref15_Place h59) <| pc (h60) <| pc (h61) <| pc (h62) <| pc (ob40 h64) <| pc (ob94 h66) <| pc (h67) <| pc (ob40 h69) <| pc (h70) <| pn)
                · injection h with h; subst h; exact runLp_sound mixedOrders (live := [1, 2, 9]) (ids := [0]) (π := [.dec true, .row (c130 x53), .callv (.v (.bool r55)), .dec false, .callv (.v (.bool r58)), .dec false, .dec false, .dec false, .row (c40 x63), .row (c94 x65), .dec false, .row (c40 x68), .dec false]) (hx := by kernel_rfl) (hps := pc (h52) <| pc (ob130 h54) <| pc (k_palingref15_Place h56) <| pc (h57) <| pc (k_palingref15_Place h59) <| pc (h60) <| pc (h61) <| pc (h62) <| pc (ob40 h64) <| pc (ob94 h66) <| pc (h67) <| pc (ob40 h69) <| pc (h70) <| pn)
    · injection h with h; subst h; exact runLp_sound mixedOrders (live := [2]) (ids := []) (π := [.dec false]) (hx := by kernel_rfl) (hps := pc (h52) <| pn)
  · rcases r with _ | _ <;> exact Ex.noConfusion

theorem k_palingref15_rest {a1 : Api_Net} {r : Bool} (h : palingref15_rest a1 = some r) :
    CallsOK Try.prog UU 66 [.agg (c31 a1)] [] (.v (.bool r)) [] := by
  unfold palingref15_rest at h
  obtain ⟨r23, h22, h⟩ := bind_out h
  rcases r23 with _ | _
  · injection h with h; subst h; exact runFn_sound mixedOrders Try.func66 rfl (keep := none) (π := [.sum [1, 2, 3] [0] .ret [(2, .v (.bool false))] []]) (hrun := by kernel_rfl) (hps := pc (k_palingref15_rest_L1 _ _ h22) <| pn)
  · obtain ⟨r35, h34, h⟩ := bind_out h
    rcases r35 with _ | _
    · injection h with h; subst h; exact runFn_sound mixedOrders Try.func66 rfl (keep := none) (π := [.sum [1, 2, 3] [0] (.exit 0) [(1, .op 0 1 0 0), (2, .v (.bool false))] [.box 31 (c31 a1) false], .sum [1, 2, 6] [0] .ret [(2, .v (.bool false))] []]) (hrun := by kernel_rfl) (hps := pc (k_palingref15_rest_L1 _ _ h22) <| pc (k_palingref15_rest_L2 _ _ h34) <| pn)
    · obtain ⟨r50, h49, h⟩ := bind_out h
      rcases r50 with _ | _
      · injection h with h; subst h; exact runFn_sound mixedOrders Try.func66 rfl (keep := none) (π := [.sum [1, 2, 3] [0] (.exit 0) [(1, .op 0 1 0 0), (2, .v (.bool false))] [.box 31 (c31 a1) false], .sum [1, 2, 6] [0] (.exit 2) [(1, .op 0 1 0 0), (2, .v (.bool false))] [.box 31 (c31 a1) false], .sum [1, 2, 7] [0] .ret [(2, .v (.bool false))] []]) (hrun := by kernel_rfl) (hps := pc (k_palingref15_rest_L1 _ _ h22) <| pc (k_palingref15_rest_L2 _ _ h34) <| pc (k_palingref15_rest_L3 _ _ h49) <| pn)
      · obtain ⟨r72, h71, h⟩ := bind_out h
        rcases r72 with _ | _
        · injection h with h; subst h; exact runFn_sound mixedOrders Try.func66 rfl (keep := none) (π := [.sum [1, 2, 3] [0] (.exit 0) [(1, .op 0 1 0 0), (2, .v (.bool false))] [.box 31 (c31 a1) false], .sum [1, 2, 6] [0] (.exit 2) [(1, .op 0 1 0 0), (2, .v (.bool false))] [.box 31 (c31 a1) false], .sum [1, 2, 7] [0] (.exit 4) [(1, .op 0 1 0 0), (2, .v (.bool false))] [.box 31 (c31 a1) false], .sum [1, 2, 9] [0] .ret [(2, .v (.bool false))] []]) (hrun := by kernel_rfl) (hps := pc (k_palingref15_rest_L1 _ _ h22) <| pc (k_palingref15_rest_L2 _ _ h34) <| pc (k_palingref15_rest_L3 _ _ h49) <| pc (k_palingref15_rest_L4 _ _ h71) <| pn)
        · injection h with h; subst h; exact runFn_sound mixedOrders Try.func66 rfl (keep := none) (π := [.sum [1, 2, 3] [0] (.exit 0) [(1, .op 0 1 0 0), (2, .v (.bool false))] [.box 31 (c31 a1) false], .sum [1, 2, 6] [0] (.exit 2) [(1, .op 0 1 0 0), (2, .v (.bool false))] [.box 31 (c31 a1) false], .sum [1, 2, 7] [0] (.exit 4) [(1, .op 0 1 0 0), (2, .v (.bool false))] [.box 31 (c31 a1) false], .sum [1, 2, 9] [0] (.exit 6) [(2, .v (.bool false))] []]) (hrun := by kernel_rfl) (hps := pc (k_palingref15_rest_L1 _ _ h22) <| pc (k_palingref15_rest_L2 _ _ h34) <| pc (k_palingref15_rest_L3 _ _ h49) <| pc (k_palingref15_rest_L4 _ _ h71) <| pn)

theorem k_palingref15_Right {a1 : Api_Net} {r : Bool} (h : palingref15_Right a1 = some r) :
    CallsOK Try.prog UU 19 [.agg (c31 a1)] [] (.v (.bool r)) [] := by
  unfold palingref15_Right at h
  rcases ite_out h with ⟨h2, h⟩ | ⟨h2, h⟩
  · injection h with h; subst h; exact runFn_sound mixedOrders Try.func19 rfl (keep := none) (π := [.dec true]) (hrun := by kernel_rfl) (hps := pc (h2) <| pn)
  · rcases ite_out h with ⟨h3, h⟩ | ⟨h3, h⟩
    · injection h with h; subst h; exact runFn_sound mixedOrders Try.func19 rfl (keep := none) (π := [.dec false, .dec true]) (hrun := by kernel_rfl) (hps := pc (h2) <| pc (h3) <| pn)
    · rcases ite_out h with ⟨h4, h⟩ | ⟨h4, h⟩
      · injection h with h; subst h; exact runFn_sound mixedOrders Try.func19 rfl (keep := none) (π := [.dec false, .dec false, .dec true]) (hrun := by kernel_rfl) (hps := pc (h2) <| pc (h3) <| pc (h4) <| pn)
      · rcases ite_out h with ⟨h5, h⟩ | ⟨h5, h⟩
        · injection h with h; subst h; exact runFn_sound mixedOrders Try.func19 rfl (keep := none) (π := [.dec false, .dec false, .dec false, .dec true]) (hrun := by kernel_rfl) (hps := pc (h2) <| pc (h3) <| pc (h4) <| pc (h5) <| pn)
        · rcases ite_out h with ⟨h6, h⟩ | ⟨h6, h⟩
          · injection h with h; subst h; exact runFn_sound mixedOrders Try.func19 rfl (keep := none) (π := [.dec false, .dec false, .dec false, .dec false, .dec true]) (hrun := by kernel_rfl) (hps := pc (h2) <| pc (h3) <| pc (h4) <| pc (h5) <| pc (h6) <| pn)
          · rcases ite_out h with ⟨h7, h⟩ | ⟨h7, h⟩
            · injection h with h; subst h; exact runFn_sound mixedOrders Try.func19 rfl (keep := none) (π := [.dec false, .dec false, .dec false, .dec false, .dec false, .dec true]) (hrun := by kernel_rfl) (hps := pc (h2) <| pc (h3) <| pc (h4) <| pc (h5) <| pc (h6) <| pc (h7) <| pn)
            · rcases ite_out h with ⟨h8, h⟩ | ⟨h8, h⟩
              · injection h with h; subst h; exact runFn_sound mixedOrders Try.func19 rfl (keep := none) (π := [.dec false, .dec false, .dec false, .dec false, .dec false, .dec false, .dec true]) (hrun := by kernel_rfl) (hps := pc (h2) <| pc (h3) <| pc (h4) <| pc (h5) <| pc (h6) <| pc (h7) <| pc (h8) <| pn)
              · rcases ite_out h with ⟨h9, h⟩ | ⟨h9, h⟩
                · injection h with h; subst h; exact runFn_sound mixedOrders Try.func19 rfl (keep := none) (π := [.dec false, .dec false, .dec false, .dec false, .dec false, .dec false, .dec false, .dec true]) (hrun := by kernel_rfl) (hps := pc (h2) <| pc (h3) <| pc (h4) <| pc (h5) <| pc (h6) <| pc (h7) <| pc (h8) <| pc (h9) <| pn)
                · obtain ⟨r10, h11, h⟩ := bind_out h
                  rcases ite_out h with ⟨h12, h⟩ | ⟨h12, h⟩
                  · obtain ⟨r13, h14, h⟩ := bind_out h
                    rcases ite_out h with ⟨h15, h⟩ | ⟨h15, h⟩
                    · obtain ⟨r16, h17, h⟩ := bind_out h
                      rcases ite_out h with ⟨h18, h⟩ | ⟨h18, h⟩
                      · obtain ⟨r19, h20, h⟩ := bind_out h
                        injection h with h; subst h; exact runFn_sound mixedOrders Try.func19 rfl (keep := none) (π := [.dec false, .dec false, .dec false, .dec false, .dec false, .dec false, .dec false, .dec false, .callv (.v (.bool r10)), .dec true, .callv (.v (.bool r13)), .dec true, .callv (.v (.bool r16)), .dec true, .callv (.v (.bool r19))]) (hrun := by kernel_rfl) (hps := pc (h2) <| pc (h3) <| pc (h4) <| pc (h5) <| pc (h6) <| pc (h7) <| pc (h8) <| pc (h9) <| pc (k_palingref15_domains h11) <| pc (h12) <| pc (k_palingref15_ports h14) <| pc (h15) <| pc (k_palingref15_links h17) <| pc (h18) <| pc (k_palingref15_rest h20) <| pn)
                      · injection h with h; subst h; exact runFn_sound mixedOrders Try.func19 rfl (keep := none) (π := [.dec false, .dec false, .dec false, .dec false, .dec false, .dec false, .dec false, .dec false, .callv (.v (.bool r10)), .dec true, .callv (.v (.bool r13)), .dec true, .callv (.v (.bool r16)), .dec false]) (hrun := by kernel_rfl) (hps := pc (h2) <| pc (h3) <| pc (h4) <| pc (h5) <| pc (h6) <| pc (h7) <| pc (h8) <| pc (h9) <| pc (k_palingref15_domains h11) <| pc (h12) <| pc (k_palingref15_ports h14) <| pc (h15) <| pc (k_palingref15_links h17) <| pc (h18) <| pn)
                    · injection h with h; subst h; exact runFn_sound mixedOrders Try.func19 rfl (keep := none) (π := [.dec false, .dec false, .dec false, .dec false, .dec false, .dec false, .dec false, .dec false, .callv (.v (.bool r10)), .dec true, .callv (.v (.bool r13)), .dec false]) (hrun := by kernel_rfl) (hps := pc (h2) <| pc (h3) <| pc (h4) <| pc (h5) <| pc (h6) <| pc (h7) <| pc (h8) <| pc (h9) <| pc (k_palingref15_domains h11) <| pc (h12) <| pc (k_palingref15_ports h14) <| pc (h15) <| pn)
                  · injection h with h; subst h; exact runFn_sound mixedOrders Try.func19 rfl (keep := none) (π := [.dec false, .dec false, .dec false, .dec false, .dec false, .dec false, .dec false, .dec false, .callv (.v (.bool r10)), .dec false]) (hrun := by kernel_rfl) (hps := pc (h2) <| pc (h3) <| pc (h4) <| pc (h5) <| pc (h6) <| pc (h7) <| pc (h8) <| pc (h9) <| pc (k_palingref15_domains h11) <| pc (h12) <| pn)

theorem k_palingref01_number_L1 {a1 : List Int} : LoopOK Try.prog UU 0 20 (subC (codeOf Try.f166) [1, 1, 0, 1, 0, 0]) (fun s : Int × Int => match s with | (v2, v3) => palingref01_number_L1 a1 v2 v3)
    (fun s : Int × Int => (match s with | (v2, v3) => [(0, .sl 5 a1), (2, .v (.int .u64 0)), (3, .v (.int .u64 v2)), (4, .v (.int .i64 v3))] : Fr DD)) (fun s : Int × Int => (match s with | (v2, v3) => [] : Heap DD)) (fun r => match r with | v8 => .exit 0) (fun r => match r with | v8 => [(2, .v (.int .u64 0)), (3, .v (.int .u64 v8))]) (fun r => match r with | v8 => []) := by
  refine loop_sound3 (fun s q h => ?_) (fun r => ?_)
  · obtain ⟨v2, v3⟩ := s; replace h : palingref01_number_L1 a1 v2 v3 = some q := h
    unfold palingref01_number_L1 at h
    rcases ite_out h with ⟨h4, h⟩ | ⟨h4, h⟩
    · obtain ⟨x5, h6, h⟩ := bind_out h
      injection h with h; subst h; exact runLp_sound mixedOrders (live := [0, 2, 3, 4]) (ids := []) (π := [.dec true, .row (c5 x5)]) (hx := by kernel_rfl) (hps := pc (h4) <| pc (ob5 h6) <| pn)
    · injection h with h; subst h; exact runLp_sound mixedOrders (live := [2, 3]) (ids := []) (π := [.dec false]) (hx := by kernel_rfl) (hps := pc (h4) <| pn)
  · exact Ex.noConfusion

theorem k_palingref01_number {a1 : List Int} {r : Int} (h : palingref01_number a1 = some r) :
    CallsOK Try.prog UU 166 [.sl 5 a1] [] (.v (.int .u64 r)) [] := by
  unfold palingref01_number at h
  obtain ⟨v8, h9, h⟩ := bind_out h
  injection h with h; subst h; exact runFn_sound mixedOrders Try.func166 rfl (keep := none) (π := [.sum [0, 2, 3, 4] [] (.exit 0) [(2, .v (.int .u64 0)), (3, .v (.int .u64 v8))] []]) (hrun := by kernel_rfl) (hps := pc (k_palingref01_number_L1 _ _ h9) <| pn)

theorem k_palingref01_Take {a1 : List Int} {a2 : Int} {r : Int × Bool} (h : palingref01_Take a1 a2 = some r) :
    CallsOK Try.prog UU 152 [.sl 5 a1, .v (.int .i64 a2)] [] (.tup [.v (.int .u64 r.1), .v (.bool r.2)]) [] := by
  unfold palingref01_Take at h
  rcases ite_out h with ⟨h3, h⟩ | ⟨h3, h⟩
  · injection h with h; subst h; exact runFn_sound mixedOrders Try.func152 rfl (keep := none) (π := [.dec true]) (hrun := by kernel_rfl) (hps := pc (h3) <| pn)
  · rcases ite_out h with ⟨h4, h⟩ | ⟨h4, h⟩
    · injection h with h; subst h; exact runFn_sound mixedOrders Try.func152 rfl (keep := none) (π := [.dec false, .dec true]) (hrun := by kernel_rfl) (hps := pc (h3) <| pc (h4) <| pn)
    · rcases ite_out h with ⟨h5, h⟩ | ⟨h5, h⟩
      · injection h with h; subst h; exact runFn_sound mixedOrders Try.func152 rfl (keep := none) (π := [.dec false, .dec false, .dec true]) (hrun := by kernel_rfl) (hps := pc (h3) <| pc (h4) <| pc (h5) <| pn)
      · rcases ite_out h with ⟨h6, h⟩ | ⟨h6, h⟩
        · obtain ⟨r7, h8, h⟩ := bind_out h
          injection h with h; subst h; exact runFn_sound mixedOrders Try.func152 rfl (keep := none) (π := [.dec false, .dec false, .dec false, .callv (.v (.int .u64 r7))]) (hrun := by kernel_rfl) (hps := pc (h3) <| pc (h4) <| pc (h5) <| pc (sl_ob h6) <| pc (k_palingref01_number h8) <| pn)
        · cases h

theorem k_palingref04_Take {a1 : List Int} {r : ((List Int) × Int × Int × Int × Int)} (h : palingref04_Take a1 = some r) :
    CallsOK Try.prog UU 114 [.sl 5 a1] [] ((fun r => match r with | (l14, v15, v16, v17, v18) => .tup [.agg [.v (.int .u64 v15), .v (.int .u64 v16), .v (.int .i64 v17), .os 0 (List.length l14)], .v (.int .i64 v18)]) r) ((fun r => match r with | (l14, v15, v16, v17, v18) => [.arr 5 l14 (List.length l14) false]) r) := by
  unfold palingref04_Take at h
  rcases ite_out h with ⟨h2, h⟩ | ⟨h2, h⟩
  · injection h with h; subst h; exact runFn_sound mixedOrders Try.func114 rfl (keep := some [2]) (π := [.dec true]) (hrun := by kernel_rfl) (hps := pc (h2) <| pn)
  · rcases ite_out h with ⟨h3, h⟩ | ⟨h3, h⟩
    · injection h with h; subst h; exact runFn_sound mixedOrders Try.func114 rfl (keep := some [2]) (π := [.dec false, .dec true]) (hrun := by kernel_rfl) (hps := pc (h2) <| pc (h3) <| pn)
    · obtain ⟨r4, h5, h⟩ := bind_out h
      obtain ⟨r6, h7, h⟩ := bind_out h
      obtain ⟨x8, h9, h⟩ := bind_out h
      obtain ⟨x10, h11, h⟩ := bind_out h
      rcases ite_out h with ⟨h12, h⟩ | ⟨h12, h⟩
      · rcases ite_out h with ⟨h13, h⟩ | ⟨h13, h⟩
        · injection h with h; subst h; exact runFn_sound mixedOrders Try.func114 rfl (keep := some [2]) (π := [.dec false, .dec false, .callv (.tup [.v (.int .u64 r4.1), .v (.bool r4.2)]), .callv (.tup [.v (.int .u64 r6.1), .v (.bool r6.2)]), .sum [12] [] .nor [] [.n 5, .box 79 [.v (.int .u64 0), .v (.int .u64 0), .z, .os 0 0] false, .n 5], .sum [15] [] .nor [] [.n 5, .box 79 [.v (.int .u64 0), .v (.int .u64 0), .z, .os 0 0] false, .arr 5 (List.drop (Int.toNat 14) (List.take (Int.toNat ((List.length a1) : Int)) a1)) (List.length (List.drop (Int.toNat 14) (List.take (Int.toNat ((List.length a1) : Int)) a1))) false], .row (c5 x8), .row (c5 x10), .obj [] (.n 5), .obj [] (.arr 5 (List.drop (Int.toNat 14) (List.take (Int.toNat ((List.length a1) : Int)) a1)) (List.length (List.drop (Int.toNat 14) (List.take (Int.toNat ((List.length a1) : Int)) a1))) false)]) (hrun := by kernel_rfl) (hps := pc (h2) <| pc (h3) <| pc (k_palingref01_Take h5) <| pc (k_palingref01_Take h7) <| pc ((rfl : (.v (.int .u64 r4.1) : AV DD) = .v (.int .u64 r4.1))) <| pc ((rfl : (.v (.int .u64 r4.1) : AV DD) = .v (.int .u64 r4.1))) <| pc ((rfl : (.v (.int .u64 r6.1) : AV DD) = .v (.int .u64 r6.1))) <| pc ((rfl : (.v (.int .u64 r6.1) : AV DD) = .v (.int .u64 r6.1))) <| pc ((rfl : (.sl 5 a1 : AV DD) = .sl 5 a1)) <| pc ((rfl : (.sl 5 a1 : AV DD) = .sl 5 a1)) <| pc (ob5 h9) <| pc (ob5 h9) <| pc ((rfl : (.rp (c5 x8) 0 : AV DD) = .rp (c5 x8) 0)) <| pc (ob5 h9) <| pc ((rfl : (.rp (c5 x8) 0 : AV DD) = .rp (c5 x8) 0)) <| pc ((rfl : (.v (.int .u8 x8) : AV DD) = .v (.int .u8 x8))) <| pc ((rfl : (.v (.int .u8 x8) : AV DD) = .v (.int .u8 x8))) <| pc ((rfl : (.v (.int .i64 (wr_i64 x8)) : AV DD) = .v (.int .i64 (wr_i64 x8)))) <| pc ((rfl : (.v (.int .i64 (wr_i64 x8)) : AV DD) = .v (.int .i64 (wr_i64 x8)))) <| pc ((rfl : (.v (.int .i64 (wr_i64 ((wr_i64 x8) * 256))) : AV DD) = .v (.int .i64 (wr_i64 ((wr_i64 x8) * 256))))) <| pc ((rfl : (.v (.int .i64 (wr_i64 ((wr_i64 x8) * 256))) : AV DD) = .v (.int .i64 (wr_i64 ((wr_i64 x8) * 256))))) <| pc ((rfl : (.sl 5 a1 : AV DD) = .sl 5 a1)) <| pc ((rfl : (.sl 5 a1 : AV DD) = .sl 5 a1)) <| pc (ob5 h11) <| pc (ob5 h11) <| pc ((rfl : (.rp (c5 x10) 0 : AV DD) = .rp (c5 x10) 0)) <| pc (ob5 h11) <| pc ((rfl : (.rp (c5 x10) 0 : AV DD) = .rp (c5 x10) 0)) <| pc ((rfl : (.v (.int .u8 x10) : AV DD) = .v (.int .u8 x10))) <| pc ((rfl : (.v (.int .u8 x10) : AV DD) = .v (.int .u8 x10))) <| pc ((rfl : (.v (.int .i64 (wr_i64 x10)) : AV DD) = .v (.int .i64 (wr_i64 x10)))) <| pc ((rfl : (.v (.int .i64 (wr_i64 x10)) : AV DD) = .v (.int .i64 (wr_i64 x10)))) <| pc ((rfl : (.v (.int .i64 (wr_i64 ((wr_i64 ((wr_i64 x8) * 256)) + (wr_i64 x10)))) : AV DD) = .v (.int .i64 (wr_i64 ((wr_i64 ((wr_i64 x8) * 256)) + (wr_i64 x10)))))) <| pc ((rfl : (.v (.int .i64 (wr_i64 ((wr_i64 ((wr_i64 x8) * 256)) + (wr_i64 x10)))) : AV DD) = .v (.int .i64 (wr_i64 ((wr_i64 ((wr_i64 x8) * 256)) + (wr_i64 x10)))))) <| pc ((rfl : ([.n 5, .box 79 [.v (.int .u64 0), .v (.int .u64 0), .z, .os 0 0] false, .n 5] : Heap DD) = [.n 5, .box 79 [.v (.int .u64 0), .v (.int .u64 0), .z, .os 0 0] false, .n 5])) <| pc (bs_ob 5 []) <| pc ((rfl : (.sl 5 a1 : AV DD) = .sl 5 a1)) <| pc (sl_ob h12) <| pc (sl_ob h12) <| pc ((rfl : (.sl 5 (List.drop (Int.toNat 14) (List.take (Int.toNat ((List.length a1) : Int)) a1)) : AV DD) = .sl 5 (List.drop (Int.toNat 14) (List.take (Int.toNat ((List.length a1) : Int)) a1)))) <| pc ((rfl : ([.n 5, .box 79 [.v (.int .u64 0), .v (.int .u64 0), .z, .os 0 0] false, .arr 5 (List.drop (Int.toNat 14) (List.take (Int.toNat ((List.length a1) : Int)) a1)) (List.length (List.drop (Int.toNat 14) (List.take (Int.toNat ((List.length a1) : Int)) a1))) false] : Heap DD) = [.n 5, .box 79 [.v (.int .u64 0), .v (.int .u64 0), .z, .os 0 0] false, .arr 5 (List.drop (Int.toNat 14) (List.take (Int.toNat ((List.length a1) : Int)) a1)) (List.length (List.drop (Int.toNat 14) (List.take (Int.toNat ((List.length a1) : Int)) a1))) false])) <| pc (app_ob 5 (n := 0) (l := []) (xs := List.drop (Int.toNat 14) (List.take (Int.toNat ((List.length a1) : Int)) a1)) h13) <| pn)
        · cases h
      · cases h

theorem k_palingref05_Strip {a1 : Api_Frame} {r : ((List Int) × Int × Int × Int × Int × Int × Int)} (h : palingref05_Strip a1 = some r) :
    CallsOK Try.prog UU 115 [.agg (c79 a1)] [] ((fun r => match r with | (l16, v17, v18, v19, v20, v21, v22) => .tup [.agg [.v (.int .u64 v17), .v (.int .u64 v18), .v (.int .i64 v19), .os 0 (List.length l16)], .v (.int .i64 v20), .v (.int .i64 v21), .v (.int .i64 v22)]) r) ((fun r => match r with | (l16, v17, v18, v19, v20, v21, v22) => [.arr 5 l16 (List.length l16) false]) r) := by
  unfold palingref05_Strip at h
  rcases ite_out h with ⟨h2, h⟩ | ⟨h2, h⟩
  · injection h with h; subst h; exact runFn_sound mixedOrders Try.func115 rfl (keep := some [3]) (π := [.dec true]) (hrun := by kernel_rfl) (hps := pc (h2) <| pn)
  · rcases ite_out h with ⟨h3, h⟩ | ⟨h3, h⟩
    · injection h with h; subst h; exact runFn_sound mixedOrders Try.func115 rfl (keep := some [3]) (π := [.dec false, .dec true]) (hrun := by kernel_rfl) (hps := pc (h2) <| pc (h3) <| pn)
    · obtain ⟨x4, h5, h⟩ := bind_out h
      obtain ⟨x6, h7, h⟩ := bind_out h
      obtain ⟨x8, h9, h⟩ := bind_out h
      obtain ⟨x10, h11, h⟩ := bind_out h
      rcases ite_out h with ⟨h12, h⟩ | ⟨h12, h⟩
      · injection h with h; subst h; exact runFn_sound mixedOrders Try.func115 rfl (keep := some [3]) (π := [.dec false, .dec false, .row (c5 x4), .row (c5 x6), .row (c5 x8), .row (c5 x10), .dec true]) (hrun := by kernel_rfl) (hps := pc (h2) <| pc (h3) <| pc (ob5 h5) <| pc (ob5 h7) <| pc (ob5 h9) <| pc (ob5 h11) <| pc ((show (4096 : Int) ≠ 0 from by decide)) <| pc (h12) <| pn)
      · rcases ite_out h with ⟨h13, h⟩ | ⟨h13, h⟩
        · injection h with h; subst h; exact runFn_sound mixedOrders Try.func115 rfl (keep := some [3]) (π := [.dec false, .dec false, .row (c5 x4), .row (c5 x6), .row (c5 x8), .row (c5 x10), .dec false, .dec true]) (hrun := by kernel_rfl) (hps := pc (h2) <| pc (h3) <| pc (ob5 h5) <| pc (ob5 h7) <| pc (ob5 h9) <| pc (ob5 h11) <| pc ((show (4096 : Int) ≠ 0 from by decide)) <| pc (h12) <| pc (h13) <| pn)
        · rcases ite_out h with ⟨h14, h⟩ | ⟨h14, h⟩
          · rcases ite_out h with ⟨h15, h⟩ | ⟨h15, h⟩
            · injection h with h; subst h; exact runFn_sound mixedOrders Try.func115 rfl (keep := some [3]) (π := [.dec false, .dec false, .row (c5 x4), .row (c5 x6), .row (c5 x8), .row (c5 x10), .dec false, .dec false, .sum [5] [] .nor [] [.box 79 (c79 a1) false, .n 5, .box 79 [.v (.int .u64 0), .v (.int .u64 0), .z, .os 1 0] false, .n 5], .sum [9] [] .nor [] [.box 79 (c79 a1) false, .n 5, .box 79 [.v (.int .u64 0), .v (.int .u64 0), .z, .os 1 0] false, .arr 5 (List.drop (Int.toNat 4) (List.take (Int.toNat ((List.length a1.body) : Int)) a1.body)) (List.length (List.drop (Int.toNat 4) (List.take (Int.toNat ((List.length a1.body) : Int)) a1.body))) false], .sum [15] [] .nor [] [.box 79 (c79 a1) false, .n 5, .box 79 [.v (.int .u64 a1.dst), .v (.int .u64 a1.src), .v (.int .i64 (wr_i64 ((wr_i64 ((wr_i64 x8) * 256)) + (wr_i64 x10)))), .os 3 (List.length (List.drop (Int.toNat 4) (List.take (Int.toNat ((List.length a1.body) : Int)) a1.body)))] false, .arr 5 (List.drop (Int.toNat 4) (List.take (Int.toNat ((List.length a1.body) : Int)) a1.body)) (List.length (List.drop (Int.toNat 4) (List.take (Int.toNat ((List.length a1.body) : Int)) a1.body))) false], .obj [] (.n 5), .obj [] (.arr 5 (List.drop (Int.toNat 4) (List.take (Int.toNat ((List.length a1.body) : Int)) a1.body)) (List.length (List.drop (Int.toNat 4) (List.take (Int.toNat ((List.length a1.body) : Int)) a1.body))) false)]) (hrun := by kernel_rfl) (hps := pc (h2) <| pc (h3) <| pc (ob5 h5) <| pc (ob5 h7) <| pc (ob5 h9) <| pc (ob5 h11) <| pc ((show (4096 : Int) ≠ 0 from by decide)) <| pc (h12) <| pc (h13) <| pc ((rfl : (.op 0 1 0 0 : AV DD) = .op 0 1 0 0)) <| pc ((rfl : (.op 0 1 0 0 : AV DD) = .op 0 1 0 0)) <| pc ((rfl : (.v (.int .u64 a1.dst) : AV DD) = .v (.int .u64 a1.dst))) <| pc ((rfl : (.v (.int .u64 a1.dst) : AV DD) = .v (.int .u64 a1.dst))) <| pc ((rfl : (.op 0 1 0 1 : AV DD) = .op 0 1 0 1)) <| pc ((rfl : (.op 0 1 0 1 : AV DD) = .op 0 1 0 1)) <| pc ((rfl : (.v (.int .u64 a1.src) : AV DD) = .v (.int .u64 a1.src))) <| pc ((rfl : (.v (.int .u64 a1.src) : AV DD) = .v (.int .u64 a1.src))) <| pc ((rfl : (.v (.int .i64 (wr_i64 ((wr_i64 ((wr_i64 x8) * 256)) + (wr_i64 x10)))) : AV DD) = .v (.int .i64 (wr_i64 ((wr_i64 ((wr_i64 x8) * 256)) + (wr_i64 x10)))))) <| pc ((rfl : (.v (.int .i64 (wr_i64 ((wr_i64 ((wr_i64 x8) * 256)) + (wr_i64 x10)))) : AV DD) = .v (.int .i64 (wr_i64 ((wr_i64 ((wr_i64 x8) * 256)) + (wr_i64 x10)))))) <| pc ((rfl : ([.box 79 (c79 a1) false, .n 5, .box 79 [.v (.int .u64 0), .v (.int .u64 0), .z, .os 1 0] false, .n 5] : Heap DD) = [.box 79 (c79 a1) false, .n 5, .box 79 [.v (.int .u64 0), .v (.int .u64 0), .z, .os 1 0] false, .n 5])) <| pc (bs_ob 5 []) <| pc ((rfl : (.op 0 1 0 3 : AV DD) = .op 0 1 0 3)) <| pc ((rfl : (.sl 5 a1.body : AV DD) = .sl 5 a1.body)) <| pc (sl_ob h14) <| pc (sl_ob h14) <| pc ((rfl : (.sl 5 (List.drop (Int.toNat 4) (List.take (Int.toNat ((List.length a1.body) : Int)) a1.body)) : AV DD) = .sl 5 (List.drop (Int.toNat 4) (List.take (Int.toNat ((List.length a1.body) : Int)) a1.body)))) <| pc ((rfl : ([.box 79 (c79 a1) false, .n 5, .box 79 [.v (.int .u64 0), .v (.int .u64 0), .z, .os 1 0] false, .arr 5 (List.drop (Int.toNat 4) (List.take (Int.toNat ((List.length a1.body) : Int)) a1.body)) (List.length (List.drop (Int.toNat 4) (List.take (Int.toNat ((List.length a1.body) : Int)) a1.body))) false] : Heap DD) = [.box 79 (c79 a1) false, .n 5, .box 79 [.v (.int .u64 0), .v (.int .u64 0), .z, .os 1 0] false, .arr 5 (List.drop (Int.toNat 4) (List.take (Int.toNat ((List.length a1.body) : Int)) a1.body)) (List.length (List.drop (Int.toNat 4) (List.take (Int.toNat ((List.length a1.body) : Int)) a1.body))) false])) <| pc (app_ob 5 (n := 0) (l := []) (xs := List.drop (Int.toNat 4) (List.take (Int.toNat ((List.length a1.body) : Int)) a1.body)) h15) <| pc ((rfl : (.v (.int .i64 (wr_i64 ((wr_i64 ((wr_i64 x4) * 256)) + (wr_i64 x6)))) : AV DD) = .v (.int .i64 (wr_i64 ((wr_i64 ((wr_i64 x4) * 256)) + (wr_i64 x6)))))) <| pc ((rfl : (.v (.int .i64 (wr_i64 ((wr_i64 ((wr_i64 x4) * 256)) + (wr_i64 x6)))) : AV DD) = .v (.int .i64 (wr_i64 ((wr_i64 ((wr_i64 x4) * 256)) + (wr_i64 x6)))))) <| pc ((rfl : (.v (.int .i64 (wr_i64 ((wr_i64 ((wr_i64 x4) * 256)) + (wr_i64 x6)))) : AV DD) = .v (.int .i64 (wr_i64 ((wr_i64 ((wr_i64 x4) * 256)) + (wr_i64 x6)))))) <| pc ((show (4096 : Int) ≠ 0 from by decide)) <| pc ((show (4096 : Int) ≠ 0 from by decide)) <| pc ((rfl : (.v (.int .i64 (Int.tmod (wr_i64 ((wr_i64 ((wr_i64 x4) * 256)) + (wr_i64 x6))) 4096)) : AV DD) = .v (.int .i64 (Int.tmod (wr_i64 ((wr_i64 ((wr_i64 x4) * 256)) + (wr_i64 x6))) 4096)))) <| pc ((show (4096 : Int) ≠ 0 from by decide)) <| pc ((rfl : (.v (.int .i64 (Int.tmod (wr_i64 ((wr_i64 ((wr_i64 x4) * 256)) + (wr_i64 x6))) 4096)) : AV DD) = .v (.int .i64 (Int.tmod (wr_i64 ((wr_i64 ((wr_i64 x4) * 256)) + (wr_i64 x6))) 4096)))) <| pc ((show (4096 : Int) ≠ 0 from by decide)) <| pc ((rfl : (.v (.int .i64 (Int.tmod (wr_i64 ((wr_i64 ((wr_i64 x4) * 256)) + (wr_i64 x6))) 4096)) : AV DD) = .v (.int .i64 (Int.tmod (wr_i64 ((wr_i64 ((wr_i64 x4) * 256)) + (wr_i64 x6))) 4096)))) <| pc ((rfl : (.v (.int .i64 (wr_i64 ((wr_i64 ((wr_i64 x4) * 256)) + (wr_i64 x6)))) : AV DD) = .v (.int .i64 (wr_i64 ((wr_i64 ((wr_i64 x4) * 256)) + (wr_i64 x6)))))) <| pc ((rfl : (.v (.int .i64 (wr_i64 ((wr_i64 ((wr_i64 x4) * 256)) + (wr_i64 x6)))) : AV DD) = .v (.int .i64 (wr_i64 ((wr_i64 ((wr_i64 x4) * 256)) + (wr_i64 x6)))))) <| pc ((rfl : (.v (.int .i64 (wr_i64 ((wr_i64 ((wr_i64 x4) * 256)) + (wr_i64 x6)))) : AV DD) = .v (.int .i64 (wr_i64 ((wr_i64 ((wr_i64 x4) * 256)) + (wr_i64 x6)))))) <| pc ((show (4096 : Int) ≠ 0 from by decide)) <| pc ((show (4096 : Int) ≠ 0 from by decide)) <| pc ((rfl : (.v (.int .i64 (wr_i64 (Int.tdiv (wr_i64 ((wr_i64 ((wr_i64 x4) * 256)) + (wr_i64 x6))) 4096))) : AV DD) = .v (.int .i64 (wr_i64 (Int.tdiv (wr_i64 ((wr_i64 ((wr_i64 x4) * 256)) + (wr_i64 x6))) 4096))))) <| pc ((show (4096 : Int) ≠ 0 from by decide)) <| pc ((rfl : (.v (.int .i64 (wr_i64 (Int.tdiv (wr_i64 ((wr_i64 ((wr_i64 x4) * 256)) + (wr_i64 x6))) 4096))) : AV DD) = .v (.int .i64 (wr_i64 (Int.tdiv (wr_i64 ((wr_i64 ((wr_i64 x4) * 256)) + (wr_i64 x6))) 4096))))) <| pc ((show (4096 : Int) ≠ 0 from by decide)) <| pc ((rfl : (.v (.int .i64 (wr_i64 (Int.tdiv (wr_i64 ((wr_i64 ((wr_i64 x4) * 256)) + (wr_i64 x6))) 4096))) : AV DD) = .v (.int .i64 (wr_i64 (Int.tdiv (wr_i64 ((wr_i64 ((wr_i64 x4) * 256)) + (wr_i64 x6))) 4096))))) <| pc ((rfl : ([.box 79 (c79 a1) false, .n 5, .box 79 [.v (.int .u64 a1.dst), .v (.int .u64 a1.src), .v (.int .i64 (wr_i64 ((wr_i64 ((wr_i64 x8) * 256)) + (wr_i64 x10)))), .os 3 (List.length (List.drop (Int.toNat 4) (List.take (Int.toNat ((List.length a1.body) : Int)) a1.body)))] false, .arr 5 (List.drop (Int.toNat 4) (List.take (Int.toNat ((List.length a1.body) : Int)) a1.body)) (List.length (List.drop (Int.toNat 4) (List.take (Int.toNat ((List.length a1.body) : Int)) a1.body))) false] : Heap DD) = [.box 79 (c79 a1) false, .n 5, .box 79 [.v (.int .u64 a1.dst), .v (.int .u64 a1.src), .v (.int .i64 (wr_i64 ((wr_i64 ((wr_i64 x8) * 256)) + (wr_i64 x10)))), .os 3 (List.length (List.drop (Int.toNat 4) (List.take (Int.toNat ((List.length a1.body) : Int)) a1.body)))] false, .arr 5 (List.drop (Int.toNat 4) (List.take (Int.toNat ((List.length a1.body) : Int)) a1.body)) (List.length (List.drop (Int.toNat 4) (List.take (Int.toNat ((List.length a1.body) : Int)) a1.body))) false])) <| pn)
            · cases h
          · cases h

theorem k_palingref01_Bytes_L2 {a1 : Int} {l2 : List Int} {v3 : Int} : LoopOK Try.prog UU 0 26 (subC (codeOf Try.f153) [1, 1, 0, 1, 0, 0, 1, 0, 0, 1, 0, 1, 0, 0]) (fun s : Int × Int => match s with | (v5, v6) => palingref01_Bytes_L2 a1 l2 v3 v5 v6)
    (fun s : Int × Int => (match s with | (v5, v6) => [(0, .v (.int .u64 a1)), (2, .os 0 0), (3, .os 1 (List.length l2)), (4, .v (.int .i64 v3)), (5, .v (.int .u64 v5)), (6, .v (.int .i64 v6))] : Fr DD)) (fun s : Int × Int => (match s with | (v5, v6) => [.n 5, .arr 5 l2 (List.length l2) false] : Heap DD)) (fun r => match r with | v9 => .exit 2) (fun r => match r with | v9 => [(0, .v (.int .u64 a1)), (2, .os 0 0), (3, .os 1 (List.length l2)), (4, .v (.int .i64 v3)), (5, .v (.int .u64 v9))]) (fun r => match r with | v9 => [.n 5, .arr 5 l2 (List.length l2) false]) := by
  refine loop_sound3 (fun s q h => ?_) (fun r => ?_)
  · obtain ⟨v5, v6⟩ := s; replace h : palingref01_Bytes_L2 a1 l2 v3 v5 v6 = some q := h
    unfold palingref01_Bytes_L2 at h
    rcases ite_out h with ⟨h7, h⟩ | ⟨h7, h⟩
    · injection h with h; subst h; exact runLp_sound mixedOrders (live := [0, 2, 3, 4, 5, 6]) (ids := [0, 1]) (π := [.dec true]) (hx := by kernel_rfl) (hps := pc (h7) <| pc ((show (256 : Int) ≠ 0 from by decide)) <| pn)
    · injection h with h; subst h; exact runLp_sound mixedOrders (live := [0, 2, 3, 4, 5]) (ids := [0, 1]) (π := [.dec false]) (hx := by kernel_rfl) (hps := pc (h7) <| pn)
  · exact Ex.noConfusion

theorem k_palingref01_Bytes_L1 {a1 : Int} : LoopOK Try.prog UU 0 26 (subC (codeOf Try.f153) [1, 1, 0, 1, 0, 0]) (fun s : (List Int) × Int => match s with | (l2, v3) => palingref01_Bytes_L1 a1 l2 v3)
    (fun s : (List Int) × Int => (match s with | (l2, v3) => [(0, .v (.int .u64 a1)), (2, .os 0 0), (3, .os 1 (List.length l2)), (4, .v (.int .i64 v3))] : Fr DD)) (fun s : (List Int) × Int => (match s with | (l2, v3) => [.n 5, .arr 5 l2 (List.length l2) false] : Heap DD)) (fun r => match r with | l15 => .exit 0) (fun r => match r with | l15 => [(2, .os 0 0), (3, .os 1 (List.length l15))]) (fun r => match r with | l15 => [.n 5, .arr 5 l15 (List.length l15) false]) := by
  refine loop_sound3 (fun s q h => ?_) (fun r => ?_)
  · obtain ⟨l2, v3⟩ := s; replace h : palingref01_Bytes_L1 a1 l2 v3 = some q := h
    unfold palingref01_Bytes_L1 at h
    rcases ite_out h with ⟨h4, h⟩ | ⟨h4, h⟩
    · obtain ⟨v9, h10, h⟩ := bind_out h
      rcases ite_out h with ⟨h12, h⟩ | ⟨h12, h⟩
      · injection h with h; subst h; exact runLp_sound mixedOrders (live := [0, 2, 3, 4]) (ids := [0, 1]) (π := [.dec true, .sum [0, 2, 3, 4, 5, 6] [0, 1] (.exit 2) [(0, .v (.int .u64 a1)), (2, .os 0 0), (3, .os 1 (List.length l2)), (4, .v (.int .i64 v3)), (5, .v (.int .u64 v9))] [.n 5, .arr 5 l2 (List.length l2) false], .obj [] (.arr 5 [(wr_u8 (Int.tmod v9 256) : Int)] (List.length [(wr_u8 (Int.tmod v9 256) : Int)]) false), .obj [2] (.arr 5 (l2 ++ [(wr_u8 (Int.tmod v9 256) : Int)]) (List.length (l2 ++ [(wr_u8 (Int.tmod v9 256) : Int)])) false)]) (hx := by kernel_rfl) (hps := pc (h4) <| pc (k_palingref01_Bytes_L2 _ _ h10) <| pc ((show (256 : Int) ≠ 0 from by decide)) <| pc (bs_ob 5 [(wr_u8 (Int.tmod v9 256) : Int)]) <| pc (app_ob 5 (n := (List.length l2)) (l := l2) (xs := [(wr_u8 (Int.tmod v9 256) : Int)]) h12) <| pc ((rfl : ((List.length [(wr_u8 (Int.tmod v9 256) : Int)]) : Nat) = (List.length [(wr_u8 (Int.tmod v9 256) : Int)]))) <| pn)
      · cases h
    · injection h with h; subst h; exact runLp_sound mixedOrders (live := [2, 3]) (ids := [0, 1]) (π := [.dec false]) (hx := by kernel_rfl) (hps := pc (h4) <| pn)
  · exact Ex.noConfusion

theorem k_palingref01_Bytes {a1 : Int} {r : ((List Int))} (h : palingref01_Bytes a1 = some r) :
    CallsOK Try.prog UU 153 [.v (.int .u64 a1)] [] ((fun r => match r with | l18 => .os 0 (List.length l18)) r) ((fun r => match r with | l18 => [.arr 5 l18 (List.length l18) false]) r) := by
  unfold palingref01_Bytes at h
  obtain ⟨l15, h16, h⟩ := bind_out h
  injection h with h; subst h; exact runFn_sound mixedOrders Try.func153 rfl (keep := some [1]) (π := [.sum [0, 2, 3, 4] [0, 1] (.exit 0) [(2, .os 0 0), (3, .os 1 (List.length l15))] [.n 5, .arr 5 l15 (List.length l15) false]]) (hrun := by kernel_rfl) (hps := pc (k_palingref01_Bytes_L1 _ _ h16) <| pn)

theorem k_palingref01_Group {a1 : Int} {r : Bool} (h : palingref01_Group a1 = some r) :
    CallsOK Try.prog UU 116 [.v (.int .u64 a1)] [] (.v (.bool r)) [] := by
  unfold palingref01_Group at h
  obtain ⟨l4, h3, h⟩ := bind_out h
  rcases ite_out h with ⟨h5, h⟩ | ⟨h5, h⟩
  · obtain ⟨x6, h7, h⟩ := bind_out h
    injection h with h; subst h; exact runFn_sound mixedOrders Try.func116 rfl (keep := none) (π := [.callo (.os 0 (List.length l4)) [.arr 5 l4 (List.length l4) false], .row (c5 x6)]) (hrun := by kernel_rfl) (hps := pc (k_palingref01_Bytes h3) <| pc (im5 l4) <| pc (And.intro (rfl : ((List.length l4) : Nat) = (List.length l4)) (lin_ob h5)) <| pc (And.intro (rfl : ((List.length l4) : Nat) = (List.length l4)) (obn5 h7)) <| pc ((show (2 : Int) ≠ 0 from by decide)) <| pn)
  · cases h

theorem k_palingref27_Vlan {a1 : Api_Port} {a2 : Bool} {a3 : Int} {r : Int × Bool} (h : palingref27_Vlan a1 a2 a3 = some r) :
    CallsOK Try.prog UU 54 [.agg (c60 a1), .v (.bool a2), .v (.int .i64 a3)] [] (.tup [.v (.int .i64 r.1), .v (.bool r.2)]) [] := by
  unfold palingref27_Vlan at h
  rcases ite_out h with ⟨h4, h⟩ | ⟨h4, h⟩
  · injection h with h; subst h; exact runFn_sound mixedOrders Try.func54 rfl (keep := none) (π := [.dec true]) (hrun := by kernel_rfl) (hps := pc (h4) <| pn)
  · rcases ite_out h with ⟨h5, h⟩ | ⟨h5, h⟩
    · injection h with h; subst h; exact runFn_sound mixedOrders Try.func54 rfl (keep := none) (π := [.dec false, .dec true]) (hrun := by kernel_rfl) (hps := pc (h4) <| pc (h5) <| pn)
    · obtain ⟨r6, h7, h⟩ := bind_out h
      rcases ite_out h with ⟨h8, h⟩ | ⟨h8, h⟩
      · injection h with h; subst h; exact runFn_sound mixedOrders Try.func54 rfl (keep := none) (π := [.dec false, .dec false, .callv (.v (.bool r6)), .dec true]) (hrun := by kernel_rfl) (hps := pc (h4) <| pc (h5) <| pc (k_palingref15_In h7) <| pc (h8) <| pn)
      · injection h with h; subst h; exact runFn_sound mixedOrders Try.func54 rfl (keep := none) (π := [.dec false, .dec false, .callv (.v (.bool r6)), .dec false]) (hrun := by kernel_rfl) (hps := pc (h4) <| pc (h5) <| pc (k_palingref15_In h7) <| pc (h8) <| pn)

theorem k_palingref27_At_J1 {a1 : Api_Net} {a2 : Int} {l12 : List Int} {v13 : Int} {v14 : Int} {v15 : Int} {v16 : Int} {r : Int ⊕ ((List Int) × Int × Int × Int × Int)} (h : palingref27_At_J1 a1 a2 l12 v13 v14 v15 v16 = some r) :
    ExecOK Try.prog UU 0 79 (subC (codeOf Try.f52) [1, 1, 1, 1, 1, 1, 0]) [(1, .v (.int .i64 a2)), (3, .op 0 1 0 0), (6, .z), (7, .op 1 1 0 0), (8, .z), (9, .op 3 1 0 0), (10, .v (.int .i64 v16)), (11, .v (.bool (v15 == 33024))), (12, .z)] [.box 31 (c31 a1) false, .box 79 [.v (.int .u64 0), .v (.int .u64 0), .z, .os 2 0] false, .n 5, .box 79 [.v (.int .u64 v13), .v (.int .u64 v14), .v (.int .i64 v15), .os 4 (List.length l12)] false, .arr 5 l12 (List.length l12) false] ((fun r => match r with | Sum.inl v30 => .ret | Sum.inr (l64, v65, v66, v67, v68) => .nor) r) ((fun r => match r with | Sum.inl v30 => [(6, .z), (7, .op 0 1 0 0), (8, .v (.int .i64 v30))] | Sum.inr (l64, v65, v66, v67, v68) => [(1, .v (.int .i64 a2)), (3, .op 0 1 0 0), (6, .z), (7, .op 1 1 0 0), (8, .z), (9, .op 3 1 0 0), (11, .v (.bool (v15 == 33024))), (12, .v (.int .i64 v68))]) r) ((fun r => match r with | Sum.inl v30 => [.box 79 [.v (.int .u64 0), .v (.int .u64 0), .z, .os 1 0] false, .n 5] | Sum.inr (l64, v65, v66, v67, v68) => [.box 31 (c31 a1) false, .box 79 [.v (.int .u64 0), .v (.int .u64 0), .z, .os 2 0] false, .n 5, .box 79 [.v (.int .u64 v65), .v (.int .u64 v66), .v (.int .i64 v67), .os 4 (List.length l64)] false, .arr 5 l64 (List.length l64) false]) r) := by
  unfold palingref27_At_J1 at h
  rcases ite_out h with ⟨h18, h⟩ | ⟨h18, h⟩
  · obtain ⟨r19, h20, h⟩ := bind_out h
    obtain ⟨l21, v22, v23, v24, v25, v26, v27⟩ := r19
    rcases ite_out h with ⟨h28, h⟩ | ⟨h28, h⟩
    · injection h with h; subst h; exact runLp_sound mixedOrders (live := [6, 7, 8]) (ids := [1, 6]) (π := [.dec true, .callo (.tup [.agg [.v (.int .u64 v22), .v (.int .u64 v23), .v (.int .i64 v24), .os 0 (List.length l21)], .v (.int .i64 v25), .v (.int .i64 v26), .v (.int .i64 v27)]) [.arr 5 l21 (List.length l21) false], .dec true]) (hx := by kernel_rfl) (hps := pc (h18) <| pc (k_palingref05_Strip h20) <| pc (im5 l21) <| pc ((rfl : ((List.length l12) : Nat) = (List.length l12))) <| pc (h28) <| pn)
    · injection h with h; subst h; exact runLp_sound mixedOrders (live := [1, 3, 6, 7, 8, 9, 11, 12]) (ids := [0, 1, 2, 3, 5]) (π := [.dec true, .callo (.tup [.agg [.v (.int .u64 v22), .v (.int .u64 v23), .v (.int .i64 v24), .os 0 (List.length l21)], .v (.int .i64 v25), .v (.int .i64 v26), .v (.int .i64 v27)]) [.arr 5 l21 (List.length l21) false], .dec false]) (hx := by kernel_rfl) (hps := pc (h18) <| pc (k_palingref05_Strip h20) <| pc (im5 l21) <| pc ((rfl : ((List.length l12) : Nat) = (List.length l12))) <| pc (h28) <| pn)
  · injection h with h; subst h; exact runLp_sound mixedOrders (live := [1, 3, 6, 7, 8, 9, 11, 12]) (ids := [0, 1, 2, 3, 4]) (π := [.dec false]) (hx := by kernel_rfl) (hps := pc (h18) <| pn)

theorem k_palingref27_At {a1 : Api_Net} {a2 : Int} {a3 : List Int} {r : ((List Int) × Int × Int × Int × Int × Int)} (h : palingref27_At a1 a2 a3 = some r) :
    CallsOK Try.prog UU 52 [.agg (c31 a1), .v (.int .i64 a2), .sl 5 a3] [] ((fun r => match r with | (l83, v84, v85, v86, v87, v88) => .tup [.v (.int .i64 v84), .agg [.v (.int .u64 v85), .v (.int .u64 v86), .v (.int .i64 v87), .os 0 (List.length l83)], .v (.int .i64 v88)]) r) ((fun r => match r with | (l83, v84, v85, v86, v87, v88) => [.arr 5 l83 (List.length l83) false]) r) := by
  unfold palingref27_At at h
  obtain ⟨r4, h5, h⟩ := bind_out h
  rcases ite_out h with ⟨h6, h⟩ | ⟨h6, h⟩
  · injection h with h; subst h; exact runFn_sound mixedOrders Try.func52 rfl (keep := some [3]) (π := [.callv (.v (.bool r4)), .dec true]) (hrun := by kernel_rfl) (hps := pc (k_palingref15_Right h5) <| pc (h6) <| pn)
  · obtain ⟨r7, h8, h⟩ := bind_out h
    rcases ite_out h with ⟨h9, h⟩ | ⟨h9, h⟩
    · injection h with h; subst h; exact runFn_sound mixedOrders Try.func52 rfl (keep := some [3]) (π := [.callv (.v (.bool r4)), .dec false, .callv (.v (.bool r7)), .dec true]) (hrun := by kernel_rfl) (hps := pc (k_palingref15_Right h5) <| pc (h6) <| pc (k_palingref15_Place h8) <| pc (h9) <| pn)
    · obtain ⟨r10, h11, h⟩ := bind_out h
      obtain ⟨l12, v13, v14, v15, v16⟩ := r10
      rcases ite_out h with ⟨h17, h⟩ | ⟨h17, h⟩
      · injection h with h; subst h; exact runFn_sound mixedOrders Try.func52 rfl (keep := some [6]) (π := [.callv (.v (.bool r4)), .dec false, .callv (.v (.bool r7)), .dec false, .callo (.tup [.agg [.v (.int .u64 v13), .v (.int .u64 v14), .v (.int .i64 v15), .os 0 (List.length l12)], .v (.int .i64 v16)]) [.arr 5 l12 (List.length l12) false], .dec true]) (hrun := by kernel_rfl) (hps := pc (k_palingref15_Right h5) <| pc (h6) <| pc (k_palingref15_Place h8) <| pc (h9) <| pc (k_palingref04_Take h11) <| pc (im5 l12) <| pc (h17) <| pn)
      · obtain ⟨r70, h69, h⟩ := bind_out h
        rcases r70 with v30 | ⟨l64, v65, v66, v67, v68⟩
        · injection h with h; subst h; exact runFn_sound mixedOrders Try.func52 rfl (keep := some [1]) (π := [.callv (.v (.bool r4)), .dec false, .callv (.v (.bool r7)), .dec false, .callo (.tup [.agg [.v (.int .u64 v13), .v (.int .u64 v14), .v (.int .i64 v15), .os 0 (List.length l12)], .v (.int .i64 v16)]) [.arr 5 l12 (List.length l12) false], .dec false, .skp, .skp, .cut [1, 3, 6, 7, 8, 9, 10, 11, 12] [0, 2, 1, 5, 3] .ret [(6, .z), (7, .op 0 1 0 0), (8, .v (.int .i64 v30))] [.box 79 [.v (.int .u64 0), .v (.int .u64 0), .z, .os 1 0] false, .n 5]]) (hrun := by kernel_rfl) (hps := pc (k_palingref15_Right h5) <| pc (h6) <| pc (k_palingref15_Place h8) <| pc (h9) <| pc (k_palingref04_Take h11) <| pc (im5 l12) <| pc (h17) <| pc (k_palingref27_At_J1 h69) <| pn)
        · obtain ⟨r71, h72, h⟩ := bind_out h
          rcases ite_out h with ⟨h73, h⟩ | ⟨h73, h⟩
          · injection h with h; subst h; exact runFn_sound mixedOrders Try.func52 rfl (keep := some [5]) (π := [.callv (.v (.bool r4)), .dec false, .callv (.v (.bool r7)), .dec false, .callo (.tup [.agg [.v (.int .u64 v13), .v (.int .u64 v14), .v (.int .i64 v15), .os 0 (List.length l12)], .v (.int .i64 v16)]) [.arr 5 l12 (List.length l12) false], .dec false, .skp, .skp, .cut [1, 3, 6, 7, 8, 9, 10, 11, 12] [0, 2, 1, 5, 3] .nor [(1, .v (.int .i64 a2)), (3, .op 0 1 0 0), (6, .z), (7, .op 1 1 0 0), (8, .z), (9, .op 3 1 0 0), (11, .v (.bool (v15 == 33024))), (12, .v (.int .i64 v68))] [.box 31 (c31 a1) false, .box 79 [.v (.int .u64 0), .v (.int .u64 0), .z, .os 2 0] false, .n 5, .box 79 [.v (.int .u64 v65), .v (.int .u64 v66), .v (.int .i64 v67), .os 4 (List.length l64)] false, .arr 5 l64 (List.length l64) false], .callv (.v (.bool r71)), .dec true]) (hrun := by kernel_rfl) (hps := pc (k_palingref15_Right h5) <| pc (h6) <| pc (k_palingref15_Place h8) <| pc (h9) <| pc (k_palingref04_Take h11) <| pc (im5 l12) <| pc (h17) <| pc (k_palingref27_At_J1 h69) <| pc (k_palingref01_Group h72) <| pc (h73) <| pn)
          · obtain ⟨x74, h75, h⟩ := bind_out h
            obtain ⟨r76, h77, h⟩ := bind_out h
            rcases ite_out h with ⟨h78, h⟩ | ⟨h78, h⟩
            · injection h with h; subst h; exact runFn_sound mixedOrders Try.func52 rfl (keep := some [5]) (π := [.callv (.v (.bool r4)), .dec false, .callv (.v (.bool r7)), .dec false, .callo (.tup [.agg [.v (.int .u64 v13), .v (.int .u64 v14), .v (.int .i64 v15), .os 0 (List.length l12)], .v (.int .i64 v16)]) [.arr 5 l12 (List.length l12) false], .dec false, .skp, .skp, .cut [1, 3, 6, 7, 8, 9, 10, 11, 12] [0, 2, 1, 5, 3] .nor [(1, .v (.int .i64 a2)), (3, .op 0 1 0 0), (6, .z), (7, .op 1 1 0 0), (8, .z), (9, .op 3 1 0 0), (11, .v (.bool (v15 == 33024))), (12, .v (.int .i64 v68))] [.box 31 (c31 a1) false, .box 79 [.v (.int .u64 0), .v (.int .u64 0), .z, .os 2 0] false, .n 5, .box 79 [.v (.int .u64 v65), .v (.int .u64 v66), .v (.int .i64 v67), .os 4 (List.length l64)] false, .arr 5 l64 (List.length l64) false], .callv (.v (.bool r71)), .dec false, .row (c60 x74), .callv (.tup [.v (.int .i64 r76.1), .v (.bool r76.2)]), .dec true]) (hrun := by kernel_rfl) (hps := pc (k_palingref15_Right h5) <| pc (h6) <| pc (k_palingref15_Place h8) <| pc (h9) <| pc (k_palingref04_Take h11) <| pc (im5 l12) <| pc (h17) <| pc (k_palingref27_At_J1 h69) <| pc (k_palingref01_Group h72) <| pc (h73) <| pc (ob60 h75) <| pc (k_palingref27_Vlan h77) <| pc (h78) <| pn)
            · obtain ⟨x79, h80, h⟩ := bind_out h
              obtain ⟨r81, h82, h⟩ := bind_out h
              injection h with h; subst h; exact runFn_sound mixedOrders Try.func52 rfl (keep := some [4]) (π := [.callv (.v (.bool r4)), .dec false, .callv (.v (.bool r7)), .dec false, .callo (.tup [.agg [.v (.int .u64 v13), .v (.int .u64 v14), .v (.int .i64 v15), .os 0 (List.length l12)], .v (.int .i64 v16)]) [.arr 5 l12 (List.length l12) false], .dec false, .skp, .skp, .cut [1, 3, 6, 7, 8, 9, 10, 11, 12] [0, 2, 1, 5, 3] .nor [(1, .v (.int .i64 a2)), (3, .op 0 1 0 0), (6, .z), (7, .op 1 1 0 0), (8, .z), (9, .op 3 1 0 0), (11, .v (.bool (v15 == 33024))), (12, .v (.int .i64 v68))] [.box 31 (c31 a1) false, .box 79 [.v (.int .u64 0), .v (.int .u64 0), .z, .os 2 0] false, .n 5, .box 79 [.v (.int .u64 v65), .v (.int .u64 v66), .v (.int .i64 v67), .os 4 (List.length l64)] false, .arr 5 l64 (List.length l64) false], .callv (.v (.bool r71)), .dec false, .row (c60 x74), .callv (.tup [.v (.int .i64 r76.1), .v (.bool r76.2)]), .dec false, .row (c60 x79), .callv (.v (.int .i64 r81))]) (hrun := by kernel_rfl) (hps := pc (k_palingref15_Right h5) <| pc (h6) <| pc (k_palingref15_Place h8) <| pc (h9) <| pc (k_palingref04_Take h11) <| pc (im5 l12) <| pc (h17) <| pc (k_palingref27_At_J1 h69) <| pc (k_palingref01_Group h72) <| pc (h73) <| pc (ob60 h75) <| pc (k_palingref27_Vlan h77) <| pc (h78) <| pc (ob60 h80) <| pc (k_palingref15_At h82) <| pn)

theorem k_palingref04_Same {a1 : Api_Frame} {a2 : Api_Frame} {r : Bool} (h : palingref04_Same a1 a2 = some r) :
    CallsOK Try.prog UU 55 [.agg (c79 a1), .agg (c79 a2)] [] (.v (.bool r)) [] := by
  unfold palingref04_Same at h
  rcases ite_out h with ⟨h3, h⟩ | ⟨h3, h⟩
  · rcases ite_out h with ⟨h4, h⟩ | ⟨h4, h⟩
    · rcases ite_out h with ⟨h5, h⟩ | ⟨h5, h⟩
      · injection h with h; subst h; exact runFn_sound mixedOrders Try.func55 rfl (keep := none) (π := [.dec true, .dec true, .dec true, .callv (.v (.string (bstr a1.body))), .callv (.v (.string (bstr a2.body)))]) (hrun := by kernel_rfl) (hps := pc (h3) <| pc (h4) <| pc (h5) <| pc (cvb5 a1.body) <| pc (cvb5 a2.body) <| pn)
      · injection h with h; subst h; exact runFn_sound mixedOrders Try.func55 rfl (keep := none) (π := [.dec true, .dec true, .dec false]) (hrun := by kernel_rfl) (hps := pc (h3) <| pc (h4) <| pc (h5) <| pn)
    · injection h with h; subst h; exact runFn_sound mixedOrders Try.func55 rfl (keep := none) (π := [.dec true, .dec false]) (hrun := by kernel_rfl) (hps := pc (h3) <| pc (h4) <| pn)
  · injection h with h; subst h; exact runFn_sound mixedOrders Try.func55 rfl (keep := none) (π := [.dec false]) (hrun := by kernel_rfl) (hps := pc (h3) <| pn)

theorem k_palinglaw27_EnterComes {a1 : Api_Net} {a2 : Int} {a3 : List Int} {a4 : Api_Port} {a5 : Bool} {a6 : Int} {r : Bool} (h : palinglaw27_EnterComes a1 a2 a3 a4 a5 a6 = some r) :
    CallsOK Try.prog UU 14 [.agg (c31 a1), .v (.int .i64 a2), .sl 5 a3, .agg (c60 a4), .v (.bool a5), .v (.int .i64 a6)] [] (.v (.bool r)) [] := by
  unfold palinglaw27_EnterComes at h
  obtain ⟨r7, h8, h⟩ := bind_out h
  rcases ite_out h with ⟨h9, h⟩ | ⟨h9, h⟩
  · obtain ⟨r10, h11, h⟩ := bind_out h
    injection h with h; subst h; exact runFn_sound mixedOrders Try.func14 rfl (keep := none) (π := [.callv (.v (.bool r7)), .dec true, .callv (.v (.bool r10))]) (hrun := by kernel_rfl) (hps := pc (k_palinglaw15_Great h8) <| pc (h9) <| pc (k_palinglaw27_works h11) <| pn)
  · rcases ite_out h with ⟨h12, h⟩ | ⟨h12, h⟩
    · obtain ⟨r13, h14, h⟩ := bind_out h
      injection h with h; subst h; exact runFn_sound mixedOrders Try.func14 rfl (keep := none) (π := [.callv (.v (.bool r7)), .dec false, .dec true, .callv (.v (.bool r13))]) (hrun := by kernel_rfl) (hps := pc (k_palinglaw15_Great h8) <| pc (h9) <| pc (h12) <| pc (k_palinglaw27_works h14) <| pn)
    · rcases ite_out h with ⟨h15, h⟩ | ⟨h15, h⟩
      · obtain ⟨r16, h17, h⟩ := bind_out h
        injection h with h; subst h; exact runFn_sound mixedOrders Try.func14 rfl (keep := none) (π := [.callv (.v (.bool r7)), .dec false, .dec false, .dec true, .callv (.v (.bool r16))]) (hrun := by kernel_rfl) (hps := pc (k_palinglaw15_Great h8) <| pc (h9) <| pc (h12) <| pc (h15) <| pc (k_palinglaw27_works h17) <| pn)
      · obtain ⟨r18, h19, h⟩ := bind_out h
        obtain ⟨l20, n21, v22, v23, v24, v25, v26⟩ := r18
        obtain ⟨r27, h28, h⟩ := bind_out h
        obtain ⟨l29, v30, v31, v32, v33, v34⟩ := r27
        obtain ⟨r35, h36, h⟩ := bind_out h
        obtain ⟨r37, h38, h⟩ := bind_out h
        rcases ite_out h with ⟨h39, h⟩ | ⟨h39, h⟩
        · obtain ⟨r40, h41, h⟩ := bind_out h
          rcases ite_out h with ⟨h42, h⟩ | ⟨h42, h⟩
          · rcases ite_out h with ⟨h43, h⟩ | ⟨h43, h⟩
            · rcases ite_out h with ⟨h44, h⟩ | ⟨h44, h⟩
              · rcases ite_out h with ⟨h45, h⟩ | ⟨h45, h⟩
                · obtain ⟨r46, h47, h⟩ := bind_out h
                  injection h with h; subst h; exact runFn_sound mixedOrders Try.func14 rfl (keep := none) (π := [.callv (.v (.bool r7)), .dec false, .dec false, .dec false, .callo (.tup [.v (.int .i64 v22), .agg [.v (.int .u64 v23), .v (.int .u64 v24), .v (.int .i64 v25), .os 0 n21], .v (.int .i64 v26)]) [.arr 5 l20 n21 false], .callo (.tup [.v (.int .i64 v30), .agg [.v (.int .u64 v31), .v (.int .u64 v32), .v (.int .i64 v33), .os 0 (List.length l29)], .v (.int .i64 v34)]) [.arr 5 l29 (List.length l29) false], .callv (.tup [.v (.int .i64 r35.1), .v (.bool r35.2)]), .callv (.tup [.v (.int .i64 r37.1), .v (.bool r37.2)]), .dec true, .callv (.v (.bool r40)), .dec true, .dec true, .dec true, .dec true, .callv (.v (.bool r46))]) (hrun := by kernel_rfl) (hps := pc (k_palinglaw15_Great h8) <| pc (h9) <| pc (h12) <| pc (h15) <| pc (k_enter_At h19) <| pc (im5 l20) <| pc (k_palingref27_At h28) <| pc (im5 l29) <| pc (k_enter_Vlan h36) <| pc (k_palingref27_Vlan h38) <| pc (h39) <| pc (k_palingref04_Same h41) <| pc ((rfl : (n21 : Nat) = n21)) <| pc ((rfl : ((List.length l29) : Nat) = (List.length l29))) <| pc (h42) <| pc (h43) <| pc (h44) <| pc (h45) <| pc (k_palinglaw27_works h47) <| pn)
                · injection h with h; subst h; exact runFn_sound mixedOrders Try.func14 rfl (keep := none) (π := [.callv (.v (.bool r7)), .dec false, .dec false, .dec false, .callo (.tup [.v (.int .i64 v22), .agg [.v (.int .u64 v23), .v (.int .u64 v24), .v (.int .i64 v25), .os 0 n21], .v (.int .i64 v26)]) [.arr 5 l20 n21 false], .callo (.tup [.v (.int .i64 v30), .agg [.v (.int .u64 v31), .v (.int .u64 v32), .v (.int .i64 v33), .os 0 (List.length l29)], .v (.int .i64 v34)]) [.arr 5 l29 (List.length l29) false], .callv (.tup [.v (.int .i64 r35.1), .v (.bool r35.2)]), .callv (.tup [.v (.int .i64 r37.1), .v (.bool r37.2)]), .dec true, .callv (.v (.bool r40)), .dec true, .dec true, .dec true, .dec false]) (hrun := by kernel_rfl) (hps := pc (k_palinglaw15_Great h8) <| pc (h9) <| pc (h12) <| pc (h15) <| pc (k_enter_At h19) <| pc (im5 l20) <| pc (k_palingref27_At h28) <| pc (im5 l29) <| pc (k_enter_Vlan h36) <| pc (k_palingref27_Vlan h38) <| pc (h39) <| pc (k_palingref04_Same h41) <| pc ((rfl : (n21 : Nat) = n21)) <| pc ((rfl : ((List.length l29) : Nat) = (List.length l29))) <| pc (h42) <| pc (h43) <| pc (h44) <| pc (h45) <| pn)
              · injection h with h; subst h; exact runFn_sound mixedOrders Try.func14 rfl (keep := none) (π := [.callv (.v (.bool r7)), .dec false, .dec false, .dec false, .callo (.tup [.v (.int .i64 v22), .agg [.v (.int .u64 v23), .v (.int .u64 v24), .v (.int .i64 v25), .os 0 n21], .v (.int .i64 v26)]) [.arr 5 l20 n21 false], .callo (.tup [.v (.int .i64 v30), .agg [.v (.int .u64 v31), .v (.int .u64 v32), .v (.int .i64 v33), .os 0 (List.length l29)], .v (.int .i64 v34)]) [.arr 5 l29 (List.length l29) false], .callv (.tup [.v (.int .i64 r35.1), .v (.bool r35.2)]), .callv (.tup [.v (.int .i64 r37.1), .v (.bool r37.2)]), .dec true, .callv (.v (.bool r40)), .dec true, .dec true, .dec false]) (hrun := by kernel_rfl) (hps := pc (k_palinglaw15_Great h8) <| pc (h9) <| pc (h12) <| pc (h15) <| pc (k_enter_At h19) <| pc (im5 l20) <| pc (k_palingref27_At h28) <| pc (im5 l29) <| pc (k_enter_Vlan h36) <| pc (k_palingref27_Vlan h38) <| pc (h39) <| pc (k_palingref04_Same h41) <| pc ((rfl : (n21 : Nat) = n21)) <| pc ((rfl : ((List.length l29) : Nat) = (List.length l29))) <| pc (h42) <| pc (h43) <| pc (h44) <| pn)
            · injection h with h; subst h; exact runFn_sound mixedOrders Try.func14 rfl (keep := none) (π := [.callv (.v (.bool r7)), .dec false, .dec false, .dec false, .callo (.tup [.v (.int .i64 v22), .agg [.v (.int .u64 v23), .v (.int .u64 v24), .v (.int .i64 v25), .os 0 n21], .v (.int .i64 v26)]) [.arr 5 l20 n21 false], .callo (.tup [.v (.int .i64 v30), .agg [.v (.int .u64 v31), .v (.int .u64 v32), .v (.int .i64 v33), .os 0 (List.length l29)], .v (.int .i64 v34)]) [.arr 5 l29 (List.length l29) false], .callv (.tup [.v (.int .i64 r35.1), .v (.bool r35.2)]), .callv (.tup [.v (.int .i64 r37.1), .v (.bool r37.2)]), .dec true, .callv (.v (.bool r40)), .dec true, .dec false]) (hrun := by kernel_rfl) (hps := pc (k_palinglaw15_Great h8) <| pc (h9) <| pc (h12) <| pc (h15) <| pc (k_enter_At h19) <| pc (im5 l20) <| pc (k_palingref27_At h28) <| pc (im5 l29) <| pc (k_enter_Vlan h36) <| pc (k_palingref27_Vlan h38) <| pc (h39) <| pc (k_palingref04_Same h41) <| pc ((rfl : (n21 : Nat) = n21)) <| pc ((rfl : ((List.length l29) : Nat) = (List.length l29))) <| pc (h42) <| pc (h43) <| pn)
          · injection h with h; subst h; exact runFn_sound mixedOrders Try.func14 rfl (keep := none) (π := [.callv (.v (.bool r7)), .dec false, .dec false, .dec false, .callo (.tup [.v (.int .i64 v22), .agg [.v (.int .u64 v23), .v (.int .u64 v24), .v (.int .i64 v25), .os 0 n21], .v (.int .i64 v26)]) [.arr 5 l20 n21 false], .callo (.tup [.v (.int .i64 v30), .agg [.v (.int .u64 v31), .v (.int .u64 v32), .v (.int .i64 v33), .os 0 (List.length l29)], .v (.int .i64 v34)]) [.arr 5 l29 (List.length l29) false], .callv (.tup [.v (.int .i64 r35.1), .v (.bool r35.2)]), .callv (.tup [.v (.int .i64 r37.1), .v (.bool r37.2)]), .dec true, .callv (.v (.bool r40)), .dec false]) (hrun := by kernel_rfl) (hps := pc (k_palinglaw15_Great h8) <| pc (h9) <| pc (h12) <| pc (h15) <| pc (k_enter_At h19) <| pc (im5 l20) <| pc (k_palingref27_At h28) <| pc (im5 l29) <| pc (k_enter_Vlan h36) <| pc (k_palingref27_Vlan h38) <| pc (h39) <| pc (k_palingref04_Same h41) <| pc ((rfl : (n21 : Nat) = n21)) <| pc ((rfl : ((List.length l29) : Nat) = (List.length l29))) <| pc (h42) <| pn)
        · injection h with h; subst h; exact runFn_sound mixedOrders Try.func14 rfl (keep := none) (π := [.callv (.v (.bool r7)), .dec false, .dec false, .dec false, .callo (.tup [.v (.int .i64 v22), .agg [.v (.int .u64 v23), .v (.int .u64 v24), .v (.int .i64 v25), .os 0 n21], .v (.int .i64 v26)]) [.arr 5 l20 n21 false], .callo (.tup [.v (.int .i64 v30), .agg [.v (.int .u64 v31), .v (.int .u64 v32), .v (.int .i64 v33), .os 0 (List.length l29)], .v (.int .i64 v34)]) [.arr 5 l29 (List.length l29) false], .callv (.tup [.v (.int .i64 r35.1), .v (.bool r35.2)]), .callv (.tup [.v (.int .i64 r37.1), .v (.bool r37.2)]), .dec false]) (hrun := by kernel_rfl) (hps := pc (k_palinglaw15_Great h8) <| pc (h9) <| pc (h12) <| pc (h15) <| pc (k_enter_At h19) <| pc (im5 l20) <| pc (k_palingref27_At h28) <| pc (im5 l29) <| pc (k_enter_Vlan h36) <| pc (k_palingref27_Vlan h38) <| pc (h39) <| pn)

end Go.Eng
