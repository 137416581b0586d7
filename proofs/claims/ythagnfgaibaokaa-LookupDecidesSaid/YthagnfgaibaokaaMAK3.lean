/- Part of the proof of LookupDecides: printed mirrors of the functions, or their contracts. No conditions. -/
import Derived.Test.YthagnfgaibaokaaMAK2
set_option linter.unusedVariables false
set_option maxRecDepth 100000
namespace Go.Eng
open Go Go.Proofs
theorem k_palingref15_links_L1 {a1 : Api_Net} : LoopOK Try.prog UU 0 70 (subC (codeOf Try.f71) [1, 0, 1, 0, 0]) (ρ := Unit ⊕ Unit) (palingref15_links_L1 a1)
    (fun v2 : Int => ([(1, .op 0 1 0 0), (2, .v (.bool false)), (3, .v (.int .i64 v2))] : Fr DD)) (fun v2 : Int => ([.box 31 (c31 a1) false] : Heap DD)) (fun r => match r with | Sum.inl _ => .ret | Sum.inr _ => .exit 0) (fun r => match r with | Sum.inl _ => [(2, .v (.bool false))] | Sum.inr _ => [(2, .v (.bool false))]) (fun r => match r with | Sum.inl _ => [] | Sum.inr _ => []) := by
  refine loop_sound3 (fun s q h => ?_) (fun r => ?_)
  · replace h : palingref15_links_L1 a1 s = some q := h; revert h; revert s; intro v2 h
    unfold palingref15_links_L1 at h
    rcases ite_out h with ⟨h3, h⟩ | ⟨h3, h⟩
    · obtain ⟨x4, h5, h⟩ := bind_out h
      obtain ⟨r6, h7, h⟩ := bind_out h
      rcases ite_out h with ⟨h8, h⟩ | ⟨h8, h⟩
      · injection h with h; subst h; exact runLp_sound mixedOrders (live := [2]) (ids := []) (π := [.dec true, .row (c41 x4), .callv (.v (.bool r6)), .dec true]) (hx := by kernel_rfl) (hps := pc (h3) <| pc (ob41 h5) <| pc (k_palingref15_Place h7) <| pc (h8) <| pn)
      · obtain ⟨r9, h10, h⟩ := bind_out h
        rcases ite_out h with ⟨h11, h⟩ | ⟨h11, h⟩
        · injection h with h; subst h; exact runLp_sound mixedOrders (live := [2]) (ids := []) (π := [.dec true, .row (c41 x4), .callv (.v (.bool r6)), .dec false, .callv (.v (.bool r9)), .dec true]) (hx := by kernel_rfl) (hps := pc (h3) <| pc (ob41 h5) <| pc (k_palingref15_Place h7) <| pc (h8) <| pc (k_palingref15_Place h10) <| pc (h11) <| pn)
        · obtain ⟨x12, h13, h⟩ := bind_out h
          obtain ⟨x14, h15, h⟩ := bind_out h
          rcases ite_out h with ⟨h16, h⟩ | ⟨h16, h⟩
          · injection h with h; subst h; exact runLp_sound mixedOrders (live := [2]) (ids := []) (π := [.dec true, .row (c41 x4), .callv (.v (.bool r6)), .dec false, .callv (.v (.bool r9)), .dec false, .row (c36 x12), .row (c36 x14), .dec true]) (hx := by kernel_rfl) (hps := pc (h3) <| pc (ob41 h5) <| pc (k_palingref15_Place h7) <| pc (h8) <| pc (k_palingref15_Place h10) <| pc (h11) <| pc (ob36 h13) <| pc (ob36 h15) <| pc (h16) <| pn)
          · obtain ⟨x17, h18, h⟩ := bind_out h
            rcases ite_out h with ⟨h19, h⟩ | ⟨h19, h⟩
            · injection h with h; subst h; exact runLp_sound mixedOrders (live := [2]) (ids := []) (π := [.dec true, .row (c41 x4), .callv (.v (.bool r6)), .dec false, .callv (.v (.bool r9)), .dec false, .row (c36 x12), .row (c36 x14), .dec false, .row (c36 x17), .dec true]) (hx := by kernel_rfl) (hps := pc (h3) <| pc (ob41 h5) <| pc (k_palingref15_Place h7) <| pc (h8) <| pc (k_palingref15_Place h10) <| pc (h11) <| pc (ob36 h13) <| pc (ob36 h15) <| pc (h16) <| pc (ob36 h18) <| pc (h19) <| pn)
            · obtain ⟨x20, h21, h⟩ := bind_out h
              rcases ite_out h with ⟨h22, h⟩ | ⟨h22, h⟩
              · injection h with h; subst h; exact runLp_sound mixedOrders (live := [2]) (ids := []) (π := [.dec true, .row (c41 x4), .callv (.v (.bool r6)), .dec false, .callv (.v (.bool r9)), .dec false, .row (c36 x12), .row (c36 x14), .dec false, .row (c36 x17), .dec false, .row (c36 x20), .dec true]) (hx := by kernel_rfl) (hps := pc (h3) <| pc (ob41 h5) <| pc (k_palingref15_Place h7) <| pc (h8) <| pc (k_palingref15_Place h10) <| pc (h11) <| pc (ob36 h13) <| pc (ob36 h15) <| pc (h16) <| pc (ob36 h18) <| pc (h19) <| pc (ob36 h21) <| pc (h22) <| pn)
              · injection h with h; subst h; exact runLp_sound mixedOrders (live := [1, 2, 3]) (ids := [0]) (π := [.dec true, .row (c41 x4), .callv (.v (.bool r6)), .dec false, .callv (.v (.bool r9)), .dec false, .row (c36 x12), .row (c36 x14), .dec false, .row (c36 x17), .dec false, .row (c36 x20), .dec false]) (hx := by kernel_rfl) (hps := pc (h3) <| pc (ob41 h5) <| pc (k_palingref15_Place h7) <| pc (h8) <| pc (k_palingref15_Place h10) <| pc (h11) <| pc (ob36 h13) <| pc (ob36 h15) <| pc (h16) <| pc (ob36 h18) <| pc (h19) <| pc (ob36 h21) <| pc (h22) <| pn)
    · injection h with h; subst h; exact runLp_sound mixedOrders (live := [2]) (ids := []) (π := [.dec false]) (hx := by kernel_rfl) (hps := pc (h3) <| pn)
  · rcases r with _ | _ <;> exact Ex.noConfusion

theorem k_palingref15_links {a1 : Api_Net} {r : Bool} (h : palingref15_links a1 = some r) :
    CallsOK Try.prog UU 71 [.agg (c31 a1)] [] (.v (.bool r)) [] := by
  unfold palingref15_links at h
  obtain ⟨r24, h23, h⟩ := bind_out h
  rcases r24 with _ | _
  · injection h with h; subst h; exact runFn_sound mixedOrders Try.func71 rfl (keep := none) (π := [.sum [1, 2, 3] [0] .ret [(2, .v (.bool false))] []]) (hrun := by kernel_rfl) (hps := pc (k_palingref15_links_L1 _ _ h23) <| pn)
  · injection h with h; subst h; exact runFn_sound mixedOrders Try.func71 rfl (keep := none) (π := [.sum [1, 2, 3] [0] (.exit 0) [(2, .v (.bool false))] []]) (hrun := by kernel_rfl) (hps := pc (k_palingref15_links_L1 _ _ h23) <| pn)

theorem k_palingref15_Member {a1 : Api_Port} {a2 : Int} {r : Bool} (h : palingref15_Member a1 a2 = some r) :
    CallsOK Try.prog UU 140 [.agg (c36 a1), .v (.int .i64 a2)] [] (.v (.bool r)) [] := by
  unfold palingref15_Member at h
  rcases ite_out h with ⟨h3, h⟩ | ⟨h3, h⟩
  · rcases ite_out h with ⟨h4, h⟩ | ⟨h4, h⟩
    · injection h with h; subst h; exact runFn_sound mixedOrders Try.func140 rfl (keep := none) (π := [.dec true, .dec true]) (hrun := by kernel_rfl) (hps := pc (h3) <| pc (h4) <| pn)
    · obtain ⟨r5, h6, h⟩ := bind_out h
      injection h with h; subst h; exact runFn_sound mixedOrders Try.func140 rfl (keep := none) (π := [.dec true, .dec false, .callv (.v (.bool r5))]) (hrun := by kernel_rfl) (hps := pc (h3) <| pc (h4) <| pc (k_palingref15_In h6) <| pn)
  · injection h with h; subst h; exact runFn_sound mixedOrders Try.func140 rfl (keep := none) (π := [.dec false]) (hrun := by kernel_rfl) (hps := pc (h3) <| pn)

theorem k_palingref15_rest_L1 {a1 : Api_Net} : LoopOK Try.prog UU 0 192 (subC (codeOf Try.f72) [1, 0, 1, 0, 0]) (ρ := Unit ⊕ Unit) (palingref15_rest_L1 a1)
    (fun v2 : Int => ([(1, .op 0 1 0 0), (2, .v (.bool false)), (3, .v (.int .i64 v2))] : Fr DD)) (fun v2 : Int => ([.box 31 (c31 a1) false] : Heap DD)) (fun r => match r with | Sum.inl _ => .ret | Sum.inr _ => .exit 0) (fun r => match r with | Sum.inl _ => [(2, .v (.bool false))] | Sum.inr _ => [(1, .op 0 1 0 0), (2, .v (.bool false))]) (fun r => match r with | Sum.inl _ => [] | Sum.inr _ => [.box 31 (c31 a1) false]) := by
  refine loop_sound3 (fun s q h => ?_) (fun r => ?_)
  · replace h : palingref15_rest_L1 a1 s = some q := h; revert h; revert s; intro v2 h
    unfold palingref15_rest_L1 at h
    rcases ite_out h with ⟨h3, h⟩ | ⟨h3, h⟩
    · obtain ⟨x4, h5, h⟩ := bind_out h
      obtain ⟨r6, h7, h⟩ := bind_out h
      rcases ite_out h with ⟨h8, h⟩ | ⟨h8, h⟩
      · injection h with h; subst h; exact runLp_sound mixedOrders (live := [2]) (ids := []) (π := [.dec true, .row (c102 x4), .callv (.v (.bool r6)), .dec true]) (hx := by kernel_rfl) (hps := pc (h3) <| pc (ob102 h5) <| pc (k_palingref15_Place h7) <| pc (h8) <| pn)
      · obtain ⟨r9, h10, h⟩ := bind_out h
        rcases ite_out h with ⟨h11, h⟩ | ⟨h11, h⟩
        · injection h with h; subst h; exact runLp_sound mixedOrders (live := [2]) (ids := []) (π := [.dec true, .row (c102 x4), .callv (.v (.bool r6)), .dec false, .callv (.v (.bool r9)), .dec true]) (hx := by kernel_rfl) (hps := pc (h3) <| pc (ob102 h5) <| pc (k_palingref15_Place h7) <| pc (h8) <| pc (k_palingref15_Place h10) <| pc (h11) <| pn)
        · obtain ⟨x12, h13, h⟩ := bind_out h
          obtain ⟨x14, h15, h⟩ := bind_out h
          rcases ite_out h with ⟨h16, h⟩ | ⟨h16, h⟩
          · injection h with h; subst h; exact runLp_sound mixedOrders (live := [2]) (ids := []) (π := [.dec true, .row (c102 x4), .callv (.v (.bool r6)), .dec false, .callv (.v (.bool r9)), .dec false, .row (c56 x12), .row (c36 x14), .dec true]) (hx := by kernel_rfl) (hps := pc (h3) <| pc (ob102 h5) <| pc (k_palingref15_Place h7) <| pc (h8) <| pc (k_palingref15_Place h10) <| pc (h11) <| pc (ob56 h13) <| pc (ob36 h15) <| pc (h16) <| pn)
          · obtain ⟨x17, h18, h⟩ := bind_out h
            obtain ⟨r19, h20, h⟩ := bind_out h
            rcases ite_out h with ⟨h21, h⟩ | ⟨h21, h⟩
            · injection h with h; subst h; exact runLp_sound mixedOrders (live := [2]) (ids := []) (π := [.dec true, .row (c102 x4), .callv (.v (.bool r6)), .dec false, .callv (.v (.bool r9)), .dec false, .row (c56 x12), .row (c36 x14), .dec false, .row (c36 x17), .callv (.v (.bool r19)), .dec true]) (hx := by kernel_rfl) (hps := pc (h3) <| pc (ob102 h5) <| pc (k_palingref15_Place h7) <| pc (h8) <| pc (k_palingref15_Place h10) <| pc (h11) <| pc (ob56 h13) <| pc (ob36 h15) <| pc (h16) <| pc (ob36 h18) <| pc (k_palingref15_Member h20) <| pc (h21) <| pn)
            · injection h with h; subst h; exact runLp_sound mixedOrders (live := [1, 2, 3]) (ids := [0]) (π := [.dec true, .row (c102 x4), .callv (.v (.bool r6)), .dec false, .callv (.v (.bool r9)), .dec false, .row (c56 x12), .row (c36 x14), .dec false, .row (c36 x17), .callv (.v (.bool r19)), .dec false]) (hx := by kernel_rfl) (hps := pc (h3) <| pc (ob102 h5) <| pc (k_palingref15_Place h7) <| pc (h8) <| pc (k_palingref15_Place h10) <| pc (h11) <| pc (ob56 h13) <| pc (ob36 h15) <| pc (h16) <| pc (ob36 h18) <| pc (k_palingref15_Member h20) <| pc (h21) <| pn)
    · injection h with h; subst h; exact runLp_sound mixedOrders (live := [1, 2]) (ids := [0]) (π := [.dec false]) (hx := by kernel_rfl) (hps := pc (h3) <| pn)
  · rcases r with _ | _ <;> exact Ex.noConfusion

theorem k_palingref15_rest_L2 {a1 : Api_Net} : LoopOK Try.prog UU 0 192 (subC (codeOf Try.f72) [1, 1, 0, 1, 0, 0]) (ρ := Unit ⊕ Unit) (palingref15_rest_L2 a1)
    (fun v24 : Int => ([(1, .op 0 1 0 0), (2, .v (.bool false)), (6, .v (.int .i64 v24))] : Fr DD)) (fun v24 : Int => ([.box 31 (c31 a1) false] : Heap DD)) (fun r => match r with | Sum.inl _ => .ret | Sum.inr _ => .exit 2) (fun r => match r with | Sum.inl _ => [(2, .v (.bool false))] | Sum.inr _ => [(1, .op 0 1 0 0), (2, .v (.bool false))]) (fun r => match r with | Sum.inl _ => [] | Sum.inr _ => [.box 31 (c31 a1) false]) := by
  refine loop_sound3 (fun s q h => ?_) (fun r => ?_)
  · replace h : palingref15_rest_L2 a1 s = some q := h; revert h; revert s; intro v24 h
    unfold palingref15_rest_L2 at h
    rcases ite_out h with ⟨h25, h⟩ | ⟨h25, h⟩
    · obtain ⟨x26, h27, h⟩ := bind_out h
      obtain ⟨r28, h29, h⟩ := bind_out h
      rcases ite_out h with ⟨h30, h⟩ | ⟨h30, h⟩
      · injection h with h; subst h; exact runLp_sound mixedOrders (live := [2]) (ids := []) (π := [.dec true, .row (c91 x26), .callv (.v (.bool r28)), .dec true]) (hx := by kernel_rfl) (hps := pc (h25) <| pc (ob91 h27) <| pc (k_palingref15_Place h29) <| pc (h30) <| pn)
      · obtain ⟨x31, h32, h⟩ := bind_out h
        rcases ite_out h with ⟨h33, h⟩ | ⟨h33, h⟩
        · injection h with h; subst h; exact runLp_sound mixedOrders (live := [2]) (ids := []) (π := [.dec true, .row (c91 x26), .callv (.v (.bool r28)), .dec false, .row (c91 x31), .dec true]) (hx := by kernel_rfl) (hps := pc (h25) <| pc (ob91 h27) <| pc (k_palingref15_Place h29) <| pc (h30) <| pc (ob91 h32) <| pc (h33) <| pn)
        · injection h with h; subst h; exact runLp_sound mixedOrders (live := [1, 2, 6]) (ids := [0]) (π := [.dec true, .row (c91 x26), .callv (.v (.bool r28)), .dec false, .row (c91 x31), .dec false]) (hx := by kernel_rfl) (hps := pc (h25) <| pc (ob91 h27) <| pc (k_palingref15_Place h29) <| pc (h30) <| pc (ob91 h32) <| pc (h33) <| pn)
    · injection h with h; subst h; exact runLp_sound mixedOrders (live := [1, 2]) (ids := [0]) (π := [.dec false]) (hx := by kernel_rfl) (hps := pc (h25) <| pn)
  · rcases r with _ | _ <;> exact Ex.noConfusion

theorem k_palingref15_rest_L3 {a1 : Api_Net} : LoopOK Try.prog UU 0 192 (subC (codeOf Try.f72) [1, 1, 1, 0, 1, 0, 0]) (ρ := Unit ⊕ Unit) (palingref15_rest_L3 a1)
    (fun v36 : Int => ([(1, .op 0 1 0 0), (2, .v (.bool false)), (7, .v (.int .i64 v36))] : Fr DD)) (fun v36 : Int => ([.box 31 (c31 a1) false] : Heap DD)) (fun r => match r with | Sum.inl _ => .ret | Sum.inr _ => .exit 4) (fun r => match r with | Sum.inl _ => [(2, .v (.bool false))] | Sum.inr _ => [(1, .op 0 1 0 0), (2, .v (.bool false))]) (fun r => match r with | Sum.inl _ => [] | Sum.inr _ => [.box 31 (c31 a1) false]) := by
  refine loop_sound3 (fun s q h => ?_) (fun r => ?_)
  · replace h : palingref15_rest_L3 a1 s = some q := h; revert h; revert s; intro v36 h
    unfold palingref15_rest_L3 at h
    rcases ite_out h with ⟨h37, h⟩ | ⟨h37, h⟩
    · obtain ⟨x38, h39, h⟩ := bind_out h
      obtain ⟨r40, h41, h⟩ := bind_out h
      rcases ite_out h with ⟨h42, h⟩ | ⟨h42, h⟩
      · injection h with h; subst h; exact runLp_sound mixedOrders (live := [2]) (ids := []) (π := [.dec true, .row (c58 x38), .callv (.v (.bool r40)), .dec true]) (hx := by kernel_rfl) (hps := pc (h37) <| pc (ob58 h39) <| pc (k_palingref15_Place h41) <| pc (h42) <| pn)
      · obtain ⟨r43, h44, h⟩ := bind_out h
        rcases ite_out h with ⟨h45, h⟩ | ⟨h45, h⟩
        · injection h with h; subst h; exact runLp_sound mixedOrders (live := [2]) (ids := []) (π := [.dec true, .row (c58 x38), .callv (.v (.bool r40)), .dec false, .callv (.v (.bool r43)), .dec true]) (hx := by kernel_rfl) (hps := pc (h37) <| pc (ob58 h39) <| pc (k_palingref15_Place h41) <| pc (h42) <| pc (k_palingref15_rising h44) <| pc (h45) <| pn)
        · obtain ⟨r46, h47, h⟩ := bind_out h
          rcases ite_out h with ⟨h48, h⟩ | ⟨h48, h⟩
          · injection h with h; subst h; exact runLp_sound mixedOrders (live := [2]) (ids := []) (π := [.dec true, .row (c58 x38), .callv (.v (.bool r40)), .dec false, .callv (.v (.bool r43)), .dec false, .callv (.v (.bool r46)), .dec true]) (hx := by kernel_rfl) (hps := pc (h37) <| pc (ob58 h39) <| pc (k_palingref15_Place h41) <| pc (h42) <| pc (k_palingref15_rising h44) <| pc (h45) <| pc (k_palingref15_rising h47) <| pc (h48) <| pn)
          · injection h with h; subst h; exact runLp_sound mixedOrders (live := [1, 2, 7]) (ids := [0]) (π := [.dec true, .row (c58 x38), .callv (.v (.bool r40)), .dec false, .callv (.v (.bool r43)), .dec false, .callv (.v (.bool r46)), .dec false]) (hx := by kernel_rfl) (hps := pc (h37) <| pc (ob58 h39) <| pc (k_palingref15_Place h41) <| pc (h42) <| pc (k_palingref15_rising h44) <| pc (h45) <| pc (k_palingref15_rising h47) <| pc (h48) <| pn)
    · injection h with h; subst h; exact runLp_sound mixedOrders (live := [1, 2]) (ids := [0]) (π := [.dec false]) (hx := by kernel_rfl) (hps := pc (h37) <| pn)
  · rcases r with _ | _ <;> exact Ex.noConfusion

theorem k_palingref15_rest_L4 {a1 : Api_Net} : LoopOK Try.prog UU 0 192 (subC (codeOf Try.f72) [1, 1, 1, 1, 0, 1, 0, 0]) (ρ := Unit ⊕ Unit) (palingref15_rest_L4 a1)
    (fun v51 : Int => ([(1, .op 0 1 0 0), (2, .v (.bool false)), (9, .v (.int .i64 v51))] : Fr DD)) (fun v51 : Int => ([.box 31 (c31 a1) false] : Heap DD)) (fun r => match r with | Sum.inl _ => .ret | Sum.inr _ => .exit 6) (fun r => match r with | Sum.inl _ => [(2, .v (.bool false))] | Sum.inr _ => [(2, .v (.bool false))]) (fun r => match r with | Sum.inl _ => [] | Sum.inr _ => []) := by
  refine loop_sound3 (fun s q h => ?_) (fun r => ?_)
  · replace h : palingref15_rest_L4 a1 s = some q := h; revert h; revert s; intro v51 h
    unfold palingref15_rest_L4 at h
    rcases ite_out h with ⟨h52, h⟩ | ⟨h52, h⟩
    · obtain ⟨x53, h54, h⟩ := bind_out h
      obtain ⟨r55, h56, h⟩ := bind_out h
      rcases ite_out h with ⟨h57, h⟩ | ⟨h57, h⟩
      · injection h with h; subst h; exact runLp_sound mixedOrders (live := [2]) (ids := []) (π := [.dec true, .row (c74 x53), .callv (.v (.bool r55)), .dec true]) (hx := by kernel_rfl) (hps := pc (h52) <| pc (ob74 h54) <| pc (k_palingref15_Place h56) <| pc (h57) <| pn)
      · obtain ⟨r58, h59, h⟩ := bind_out h
        rcases ite_out h with ⟨h60, h⟩ | ⟨h60, h⟩
        · injection h with h; subst h; exact runLp_sound mixedOrders (live := [2]) (ids := []) (π := [.dec true, .row (c74 x53), .callv (.v (.bool r55)), .dec false, .callv (.v (.bool r58)), .dec true]) (hx := by kernel_rfl) (hps := pc (h52) <| pc (ob74 h54) <| pc (k_palingref15_Place h56) <| pc (h57) <| pc (k_palingref15_Place h59) <| pc (h60) <| pn)
        · rcases ite_out h with ⟨h61, h⟩ | ⟨h61, h⟩
          · injection h with h; subst h; exact runLp_sound mixedOrders (live := [2]) (ids := []) (π := [.dec true, .row (c74 x53), .callv (.v (.bool r55)), .dec false, .callv (.v (.bool r58)), .dec false, .dec true]) (hx := by kernel_rfl) (hps := pc (h52) <| pc (ob74 h54) <| pc (k_palingref15_Place h56) <| pc (h57) <| pc (k_palingref15_Place h59) <| pc (h60) <| pc (h61) <| pn)
          · rcases ite_out h with ⟨h62, h⟩ | ⟨h62, h⟩
            · injection h with h; subst h; exact runLp_sound mixedOrders (live := [2]) (ids := []) (π := [.dec true, .row (c74 x53), .callv (.v (.bool r55)), .dec false, .callv (.v (.bool r58)), .dec false, .dec false, .dec true]) (hx := by kernel_rfl) (hps := pc (h52) <| pc (ob74 h54) <| pc (k_palingref15_Place h56) <| pc (h57) <| pc (k_palingref15_Place h59) <| pc (h60) <| pc (h61) <| pc (h62) <| pn)
            · obtain ⟨x63, h64, h⟩ := bind_out h
              obtain ⟨x65, h66, h⟩ := bind_out h
              rcases ite_out h with ⟨h67, h⟩ | ⟨h67, h⟩
              · injection h with h; subst h; exact runLp_sound mixedOrders (live := [2]) (ids := []) (π := [.dec true, .row (c74 x53), .callv (.v (.bool r55)), .dec false, .callv (.v (.bool r58)), .dec false, .dec false, .dec false, .row (c56 x63), .row (c58 x65), .dec true]) (hx := by kernel_rfl) (hps := pc (h52) <| pc (ob74 h54) <| pc (k_palingref15_Place h56) <| pc (h57) <| pc (k_palingref15_Place h59) <| pc (h60) <| pc (h61) <| pc (h62) <| pc (ob56 h64) <| pc (ob58 h66) <| pc (h67) <| pn)
              · obtain ⟨x68, h69, h⟩ := bind_out h
                rcases ite_out h with ⟨h70, h⟩ | ⟨h70, h⟩
                · injection h with h; subst h; exact runLp_sound mixedOrders (live := [2]) (ids := []) (π := [.dec true, .row (c74 x53), .callv (.v (.bool r55)), .dec false, .callv (.v (.bool r58)), .dec false, .dec false, .dec false, .row (c56 x63), .row (c58 x65), .dec false, .row (c56 x68), .dec true]) (hx := by kernel_rfl) (hps := pc (h52) <| pc (ob74 h54) <| pc (k_palingref15_Place h56) <| pc (h57) <| pc (k_palingref15_Place h59) <| pc (h60) <| pc (h61) <| pc (h62) <| pc (ob56 h64) <| pc (ob58 h66) <| pc (h67) <| pc (ob56 h69) <| pc (h70) <| pn)
                · injection h with h; subst h; exact runLp_sound mixedOrders (live := [1, 2, 9]) (ids := [0]) (π := [.dec true, .row (c74 x53), .callv (.v (.bool r55)), .dec false, .callv (.v (.bool r58)), .dec false, .dec false, .dec false, .row (c56 x63), .row (c58 x65), .dec false, .row (c56 x68), .dec false]) (hx := by kernel_rfl) (hps := pc (h52) <| pc (ob74 h54) <| pc (k_palingref15_Place h56) <| pc (h57) <| pc (k_palingref15_Place h59) <| pc (h60) <| pc (h61) <| pc (h62) <| pc (ob56 h64) <| pc (ob58 h66) <| pc (h67) <| pc (ob56 h69) <| pc (h70) <| pn)
    · injection h with h; subst h; exact runLp_sound mixedOrders (live := [2]) (ids := []) (π := [.dec false]) (hx := by kernel_rfl) (hps := pc (h52) <| pn)
  · rcases r with _ | _ <;> exact Ex.noConfusion

theorem k_palingref15_rest {a1 : Api_Net} {r : Bool} (h : palingref15_rest a1 = some r) :
    CallsOK Try.prog UU 72 [.agg (c31 a1)] [] (.v (.bool r)) [] := by
  unfold palingref15_rest at h
  obtain ⟨r23, h22, h⟩ := bind_out h
  rcases r23 with _ | _
  · injection h with h; subst h; exact runFn_sound mixedOrders Try.func72 rfl (keep := none) (π := [.sum [1, 2, 3] [0] .ret [(2, .v (.bool false))] []]) (hrun := by kernel_rfl) (hps := pc (k_palingref15_rest_L1 _ _ h22) <| pn)
  · obtain ⟨r35, h34, h⟩ := bind_out h
    rcases r35 with _ | _
    · injection h with h; subst h; exact runFn_sound mixedOrders Try.func72 rfl (keep := none) (π := [.sum [1, 2, 3] [0] (.exit 0) [(1, .op 0 1 0 0), (2, .v (.bool false))] [.box 31 (c31 a1) false], .sum [1, 2, 6] [0] .ret [(2, .v (.bool false))] []]) (hrun := by kernel_rfl) (hps := pc (k_palingref15_rest_L1 _ _ h22) <| pc (k_palingref15_rest_L2 _ _ h34) <| pn)
    · obtain ⟨r50, h49, h⟩ := bind_out h
      rcases r50 with _ | _
      · injection h with h; subst h; exact runFn_sound mixedOrders Try.func72 rfl (keep := none) (π := [.sum [1, 2, 3] [0] (.exit 0) [(1, .op 0 1 0 0), (2, .v (.bool false))] [.box 31 (c31 a1) false], .sum [1, 2, 6] [0] (.exit 2) [(1, .op 0 1 0 0), (2, .v (.bool false))] [.box 31 (c31 a1) false], .sum [1, 2, 7] [0] .ret [(2, .v (.bool false))] []]) (hrun := by kernel_rfl) (hps := pc (k_palingref15_rest_L1 _ _ h22) <| pc (k_palingref15_rest_L2 _ _ h34) <| pc (k_palingref15_rest_L3 _ _ h49) <| pn)
      · obtain ⟨r72, h71, h⟩ := bind_out h
        rcases r72 with _ | _
        · injection h with h; subst h; exact runFn_sound mixedOrders Try.func72 rfl (keep := none) (π := [.sum [1, 2, 3] [0] (.exit 0) [(1, .op 0 1 0 0), (2, .v (.bool false))] [.box 31 (c31 a1) false], .sum [1, 2, 6] [0] (.exit 2) [(1, .op 0 1 0 0), (2, .v (.bool false))] [.box 31 (c31 a1) false], .sum [1, 2, 7] [0] (.exit 4) [(1, .op 0 1 0 0), (2, .v (.bool false))] [.box 31 (c31 a1) false], .sum [1, 2, 9] [0] .ret [(2, .v (.bool false))] []]) (hrun := by kernel_rfl) (hps := pc (k_palingref15_rest_L1 _ _ h22) <| pc (k_palingref15_rest_L2 _ _ h34) <| pc (k_palingref15_rest_L3 _ _ h49) <| pc (k_palingref15_rest_L4 _ _ h71) <| pn)
        · injection h with h; subst h; exact runFn_sound mixedOrders Try.func72 rfl (keep := none) (π := [.sum [1, 2, 3] [0] (.exit 0) [(1, .op 0 1 0 0), (2, .v (.bool false))] [.box 31 (c31 a1) false], .sum [1, 2, 6] [0] (.exit 2) [(1, .op 0 1 0 0), (2, .v (.bool false))] [.box 31 (c31 a1) false], .sum [1, 2, 7] [0] (.exit 4) [(1, .op 0 1 0 0), (2, .v (.bool false))] [.box 31 (c31 a1) false], .sum [1, 2, 9] [0] (.exit 6) [(2, .v (.bool false))] []]) (hrun := by kernel_rfl) (hps := pc (k_palingref15_rest_L1 _ _ h22) <| pc (k_palingref15_rest_L2 _ _ h34) <| pc (k_palingref15_rest_L3 _ _ h49) <| pc (k_palingref15_rest_L4 _ _ h71) <| pn)

theorem k_palingref15_Right {a1 : Api_Net} {r : Bool} (h : palingref15_Right a1 = some r) :
    CallsOK Try.prog UU 23 [.agg (c31 a1)] [] (.v (.bool r)) [] := by
  unfold palingref15_Right at h
  rcases ite_out h with ⟨h2, h⟩ | ⟨h2, h⟩
  · injection h with h; subst h; exact runFn_sound mixedOrders Try.func23 rfl (keep := none) (π := [.dec true]) (hrun := by kernel_rfl) (hps := pc (h2) <| pn)
  · rcases ite_out h with ⟨h3, h⟩ | ⟨h3, h⟩
    · injection h with h; subst h; exact runFn_sound mixedOrders Try.func23 rfl (keep := none) (π := [.dec false, .dec true]) (hrun := by kernel_rfl) (hps := pc (h2) <| pc (h3) <| pn)
    · rcases ite_out h with ⟨h4, h⟩ | ⟨h4, h⟩
      · injection h with h; subst h; exact runFn_sound mixedOrders Try.func23 rfl (keep := none) (π := [.dec false, .dec false, .dec true]) (hrun := by kernel_rfl) (hps := pc (h2) <| pc (h3) <| pc (h4) <| pn)
      · rcases ite_out h with ⟨h5, h⟩ | ⟨h5, h⟩
        · injection h with h; subst h; exact runFn_sound mixedOrders Try.func23 rfl (keep := none) (π := [.dec false, .dec false, .dec false, .dec true]) (hrun := by kernel_rfl) (hps := pc (h2) <| pc (h3) <| pc (h4) <| pc (h5) <| pn)
        · rcases ite_out h with ⟨h6, h⟩ | ⟨h6, h⟩
          · injection h with h; subst h; exact runFn_sound mixedOrders Try.func23 rfl (keep := none) (π := [.dec false, .dec false, .dec false, .dec false, .dec true]) (hrun := by kernel_rfl) (hps := pc (h2) <| pc (h3) <| pc (h4) <| pc (h5) <| pc (h6) <| pn)
          · rcases ite_out h with ⟨h7, h⟩ | ⟨h7, h⟩
            · injection h with h; subst h; exact runFn_sound mixedOrders Try.func23 rfl (keep := none) (π := [.dec false, .dec false, .dec false, .dec false, .dec false, .dec true]) (hrun := by kernel_rfl) (hps := pc (h2) <| pc (h3) <| pc (h4) <| pc (h5) <| pc (h6) <| pc (h7) <| pn)
            · rcases ite_out h with ⟨h8, h⟩ | ⟨h8, h⟩
              · injection h with h; subst h; exact runFn_sound mixedOrders Try.func23 rfl (keep := none) (π := [.dec false, .dec false, .dec false, .dec false, .dec false, .dec false, .dec true]) (hrun := by kernel_rfl) (hps := pc (h2) <| pc (h3) <| pc (h4) <| pc (h5) <| pc (h6) <| pc (h7) <| pc (h8) <| pn)
              · rcases ite_out h with ⟨h9, h⟩ | ⟨h9, h⟩
                · injection h with h; subst h; exact runFn_sound mixedOrders Try.func23 rfl (keep := none) (π := [.dec false, .dec false, .dec false, .dec false, .dec false, .dec false, .dec false, .dec true]) (hrun := by kernel_rfl) (hps := pc (h2) <| pc (h3) <| pc (h4) <| pc (h5) <| pc (h6) <| pc (h7) <| pc (h8) <| pc (h9) <| pn)
                · obtain ⟨r10, h11, h⟩ := bind_out h
                  rcases ite_out h with ⟨h12, h⟩ | ⟨h12, h⟩
                  · obtain ⟨r13, h14, h⟩ := bind_out h
                    rcases ite_out h with ⟨h15, h⟩ | ⟨h15, h⟩
                    · obtain ⟨r16, h17, h⟩ := bind_out h
                      rcases ite_out h with ⟨h18, h⟩ | ⟨h18, h⟩
                      · obtain ⟨r19, h20, h⟩ := bind_out h
                        injection h with h; subst h; exact runFn_sound mixedOrders Try.func23 rfl (keep := none) (π := [.dec false, .dec false, .dec false, .dec false, .dec false, .dec false, .dec false, .dec false, .callv (.v (.bool r10)), .dec true, .callv (.v (.bool r13)), .dec true, .callv (.v (.bool r16)), .dec true, .callv (.v (.bool r19))]) (hrun := by kernel_rfl) (hps := pc (h2) <| pc (h3) <| pc (h4) <| pc (h5) <| pc (h6) <| pc (h7) <| pc (h8) <| pc (h9) <| pc (k_palingref15_domains h11) <| pc (h12) <| pc (k_palingref15_ports h14) <| pc (h15) <| pc (k_palingref15_links h17) <| pc (h18) <| pc (k_palingref15_rest h20) <| pn)
                      · injection h with h; subst h; exact runFn_sound mixedOrders Try.func23 rfl (keep := none) (π := [.dec false, .dec false, .dec false, .dec false, .dec false, .dec false, .dec false, .dec false, .callv (.v (.bool r10)), .dec true, .callv (.v (.bool r13)), .dec true, .callv (.v (.bool r16)), .dec false]) (hrun := by kernel_rfl) (hps := pc (h2) <| pc (h3) <| pc (h4) <| pc (h5) <| pc (h6) <| pc (h7) <| pc (h8) <| pc (h9) <| pc (k_palingref15_domains h11) <| pc (h12) <| pc (k_palingref15_ports h14) <| pc (h15) <| pc (k_palingref15_links h17) <| pc (h18) <| pn)
                    · injection h with h; subst h; exact runFn_sound mixedOrders Try.func23 rfl (keep := none) (π := [.dec false, .dec false, .dec false, .dec false, .dec false, .dec false, .dec false, .dec false, .callv (.v (.bool r10)), .dec true, .callv (.v (.bool r13)), .dec false]) (hrun := by kernel_rfl) (hps := pc (h2) <| pc (h3) <| pc (h4) <| pc (h5) <| pc (h6) <| pc (h7) <| pc (h8) <| pc (h9) <| pc (k_palingref15_domains h11) <| pc (h12) <| pc (k_palingref15_ports h14) <| pc (h15) <| pn)
                  · injection h with h; subst h; exact runFn_sound mixedOrders Try.func23 rfl (keep := none) (π := [.dec false, .dec false, .dec false, .dec false, .dec false, .dec false, .dec false, .dec false, .callv (.v (.bool r10)), .dec false]) (hrun := by kernel_rfl) (hps := pc (h2) <| pc (h3) <| pc (h4) <| pc (h5) <| pc (h6) <| pc (h7) <| pc (h8) <| pc (h9) <| pc (k_palingref15_domains h11) <| pc (h12) <| pn)

theorem k_palingref15_Members_L1 {a1 : Api_Net} {x6 : Api_Domain} : LoopOK Try.prog UU 0 50 (subC (codeOf Try.f121) [1, 1, 1, 1, 0, 1, 0, 0]) (fun s : (List Int) × Int => match s with | (l8, v9) => palingref15_Members_L1 a1 x6 l8 v9)
    (fun s : (List Int) × Int => (match s with | (l8, v9) => [(2, .op 0 1 0 0), (4, .os 1 0), (5, .os 2 (List.length l8)), (6, .op 3 1 0 0), (7, .v (.int .i64 v9))] : Fr DD)) (fun s : (List Int) × Int => (match s with | (l8, v9) => [.box 31 (c31 a1) false, .arr 3 [] 0 false, .arr 3 l8 (List.length l8) false, .box 56 (c56 x6) false] : Heap DD)) (fun r => match r with | l22 => .exit 0) (fun r => match r with | l22 => [(4, .os 0 0), (5, .os 1 (List.length l22))]) (fun r => match r with | l22 => [.arr 3 [] 0 false, .arr 3 l22 (List.length l22) false]) := by
  refine loop_sound3 (fun s q h => ?_) (fun r => ?_)
  · obtain ⟨l8, v9⟩ := s; replace h : palingref15_Members_L1 a1 x6 l8 v9 = some q := h
    unfold palingref15_Members_L1 at h
    rcases ite_out h with ⟨h10, h⟩ | ⟨h10, h⟩
    · obtain ⟨x11, h12, h⟩ := bind_out h
      rcases ite_out h with ⟨h13, h⟩ | ⟨h13, h⟩
      · obtain ⟨x14, h15, h⟩ := bind_out h
        obtain ⟨r16, h17, h⟩ := bind_out h
        rcases ite_out h with ⟨h18, h⟩ | ⟨h18, h⟩
        · rcases ite_out h with ⟨h19, h⟩ | ⟨h19, h⟩
          · injection h with h; subst h; exact runLp_sound mixedOrders (live := [2, 4, 5, 6, 7]) (ids := [0, 1, 2, 3]) (π := [.dec true, .row (c36 x11), .dec true, .row (c36 x14), .callv (.v (.bool r16)), .dec true, .obj [] (.arr 3 [v9] (List.length [v9]) false), .obj [4] (.arr 3 (l8 ++ [v9]) (List.length (l8 ++ [v9])) false)]) (hx := by kernel_rfl) (hps := pc (h10) <| pc (ob36 h12) <| pc (h13) <| pc (ob36 h15) <| pc (k_palingref15_Member h17) <| pc (h18) <| pc (bs_ob 3 [v9]) <| pc (app_ob 3 (n := (List.length l8)) (l := l8) (xs := [v9]) h19) <| pc ((rfl : ((List.length [v9]) : Nat) = (List.length [v9]))) <| pn)
          · cases h
        · injection h with h; subst h; exact runLp_sound mixedOrders (live := [2, 4, 5, 6, 7]) (ids := [0, 1, 2, 3]) (π := [.dec true, .row (c36 x11), .dec true, .row (c36 x14), .callv (.v (.bool r16)), .dec false]) (hx := by kernel_rfl) (hps := pc (h10) <| pc (ob36 h12) <| pc (h13) <| pc (ob36 h15) <| pc (k_palingref15_Member h17) <| pc (h18) <| pn)
      · injection h with h; subst h; exact runLp_sound mixedOrders (live := [2, 4, 5, 6, 7]) (ids := [0, 1, 2, 3]) (π := [.dec true, .row (c36 x11), .dec false]) (hx := by kernel_rfl) (hps := pc (h10) <| pc (ob36 h12) <| pc (h13) <| pn)
    · injection h with h; subst h; exact runLp_sound mixedOrders (live := [4, 5]) (ids := [1, 2]) (π := [.dec false]) (hx := by kernel_rfl) (hps := pc (h10) <| pn)
  · exact Ex.noConfusion

theorem k_palingref15_Members {a1 : Api_Net} {a2 : Int} {r : ((List Int))} (h : palingref15_Members a1 a2 = some r) :
    CallsOK Try.prog UU 121 [.agg (c31 a1), .v (.int .i64 a2)] [] ((fun r => match r with | l25 => .os 0 (List.length l25)) r) ((fun r => match r with | l25 => [.arr 3 l25 (List.length l25) false]) r) := by
  unfold palingref15_Members at h
  obtain ⟨r3, h4, h⟩ := bind_out h
  rcases ite_out h with ⟨h5, h⟩ | ⟨h5, h⟩
  · injection h with h; subst h; exact runFn_sound mixedOrders Try.func121 rfl (keep := some [3]) (π := [.callv (.v (.bool r3)), .dec true]) (hrun := by kernel_rfl) (hps := pc (k_palingref15_Place h4) <| pc (h5) <| pn)
  · obtain ⟨x6, h7, h⟩ := bind_out h
    obtain ⟨l22, h23, h⟩ := bind_out h
    injection h with h; subst h; exact runFn_sound mixedOrders Try.func121 rfl (keep := some [1]) (π := [.callv (.v (.bool r3)), .dec false, .row (c56 x6), .sum [2, 4, 5, 6, 7] [0, 1, 2, 4] (.exit 0) [(4, .os 0 0), (5, .os 1 (List.length l22))] [.arr 3 [] 0 false, .arr 3 l22 (List.length l22) false]]) (hrun := by kernel_rfl) (hps := pc (k_palingref15_Place h4) <| pc (h5) <| pc (ob56 h7) <| pc (k_palingref15_Members_L1 _ _ h23) <| pn)

theorem k_palingref29_fits {a1 : Api_Net} {a2 : List Bool} {a3 : Int} {a4 : Int} {r : Bool} (h : palingref29_fits a1 a2 a3 a4 = some r) :
    CallsOK Try.prog UU 122 [.agg (c31 a1), .sl 4 a2, .v (.int .i64 a3), .v (.int .i64 a4)] [] (.v (.bool r)) [] := by
  unfold palingref29_fits at h
  obtain ⟨r5, h6, h⟩ := bind_out h
  rcases ite_out h with ⟨h7, h⟩ | ⟨h7, h⟩
  · injection h with h; subst h; exact runFn_sound mixedOrders Try.func122 rfl (keep := none) (π := [.callv (.v (.bool r5)), .dec true]) (hrun := by kernel_rfl) (hps := pc (k_palingref15_Right h6) <| pc (h7) <| pn)
  · rcases ite_out h with ⟨h8, h⟩ | ⟨h8, h⟩
    · injection h with h; subst h; exact runFn_sound mixedOrders Try.func122 rfl (keep := none) (π := [.callv (.v (.bool r5)), .dec false, .dec true]) (hrun := by kernel_rfl) (hps := pc (k_palingref15_Right h6) <| pc (h7) <| pc (h8) <| pn)
    · obtain ⟨r9, h10, h⟩ := bind_out h
      rcases ite_out h with ⟨h11, h⟩ | ⟨h11, h⟩
      · injection h with h; subst h; exact runFn_sound mixedOrders Try.func122 rfl (keep := none) (π := [.callv (.v (.bool r5)), .dec false, .dec false, .callv (.v (.bool r9)), .dec true]) (hrun := by kernel_rfl) (hps := pc (k_palingref15_Right h6) <| pc (h7) <| pc (h8) <| pc (k_palingref15_Place h10) <| pc (h11) <| pn)
      · rcases ite_out h with ⟨h12, h⟩ | ⟨h12, h⟩
        · injection h with h; subst h; exact runFn_sound mixedOrders Try.func122 rfl (keep := none) (π := [.callv (.v (.bool r5)), .dec false, .dec false, .callv (.v (.bool r9)), .dec false, .dec true]) (hrun := by kernel_rfl) (hps := pc (k_palingref15_Right h6) <| pc (h7) <| pc (h8) <| pc (k_palingref15_Place h10) <| pc (h11) <| pc (h12) <| pn)
        · rcases ite_out h with ⟨h13, h⟩ | ⟨h13, h⟩
          · injection h with h; subst h; exact runFn_sound mixedOrders Try.func122 rfl (keep := none) (π := [.callv (.v (.bool r5)), .dec false, .dec false, .callv (.v (.bool r9)), .dec false, .dec false, .dec true]) (hrun := by kernel_rfl) (hps := pc (k_palingref15_Right h6) <| pc (h7) <| pc (h8) <| pc (k_palingref15_Place h10) <| pc (h11) <| pc (h12) <| pc (h13) <| pn)
          · obtain ⟨l16, h15, h⟩ := bind_out h
            obtain ⟨r17, h18, h⟩ := bind_out h
            injection h with h; subst h; exact runFn_sound mixedOrders Try.func122 rfl (keep := none) (π := [.callv (.v (.bool r5)), .dec false, .dec false, .callv (.v (.bool r9)), .dec false, .dec false, .dec false, .callo (.os 0 (List.length l16)) [.arr 3 l16 (List.length l16) false], .callv (.v (.bool r17))]) (hrun := by kernel_rfl) (hps := pc (k_palingref15_Right h6) <| pc (h7) <| pc (h8) <| pc (k_palingref15_Place h10) <| pc (h11) <| pc (h12) <| pc (h13) <| pc (k_palingref15_Members h15) <| pc (im3 l16) <| pc (k_palingref15_In h18) <| pc ((rfl : ((List.length l16) : Nat) = (List.length l16))) <| pn)

theorem k_palingref29_Usable {a1 : Api_Net} {a2 : List Bool} {a3 : Int} {r : Bool} (h : palingref29_Usable a1 a2 a3 = some r) :
    CallsOK Try.prog UU 31 [.agg (c31 a1), .sl 4 a2, .v (.int .i64 a3)] [] (.v (.bool r)) [] := by
  unfold palingref29_Usable at h
  obtain ⟨r4, h5, h⟩ := bind_out h
  rcases ite_out h with ⟨h6, h⟩ | ⟨h6, h⟩
  · obtain ⟨x7, h8, h⟩ := bind_out h
    rcases ite_out h with ⟨h9, h⟩ | ⟨h9, h⟩
    · injection h with h; subst h; exact runFn_sound mixedOrders Try.func31 rfl (keep := none) (π := [.callv (.v (.bool r4)), .dec true, .row (c36 x7), .dec true]) (hrun := by kernel_rfl) (hps := pc (k_palingref15_Place h5) <| pc (h6) <| pc (ob36 h8) <| pc (h9) <| pn)
    · obtain ⟨x10, h11, h⟩ := bind_out h
      obtain ⟨x12, h13, h⟩ := bind_out h
      injection h with h; subst h; exact runFn_sound mixedOrders Try.func31 rfl (keep := none) (π := [.callv (.v (.bool r4)), .dec true, .row (c36 x7), .dec false, .row (c36 x10), .row (c4 x12)]) (hrun := by kernel_rfl) (hps := pc (k_palingref15_Place h5) <| pc (h6) <| pc (ob36 h8) <| pc (h9) <| pc (ob36 h11) <| pc (ob4 h13) <| pn)
  · injection h with h; subst h; exact runFn_sound mixedOrders Try.func31 rfl (keep := none) (π := [.callv (.v (.bool r4)), .dec false]) (hrun := by kernel_rfl) (hps := pc (k_palingref15_Place h5) <| pc (h6) <| pn)

theorem k_palingref29_Flood_L1 {a1 : Api_Net} {a2 : List Bool} {a3 : Int} {a4 : Int} {l10 : List Int} : LoopOK Try.prog UU 0 61 (subC (codeOf Try.f43) [1, 1, 1, 1, 0, 1, 0, 0]) (fun s : (List Int) × Int => match s with | (l11, v12) => palingref29_Flood_L1 a1 a2 a3 a4 l10 l11 v12)
    (fun s : (List Int) × Int => (match s with | (l11, v12) => [(1, .sl 4 a2), (2, .v (.int .i64 a3)), (3, .v (.int .i64 a4)), (4, .op 0 1 0 0), (8, .os 1 0), (9, .os 2 0), (10, .v (.int .i64 0)), (11, .os 3 (List.length l11)), (12, .os 4 (List.length l10)), (13, .v (.int .i64 v12))] : Fr DD)) (fun s : (List Int) × Int => (match s with | (l11, v12) => [.box 31 (c31 a1) false, .arr 3 [] 0 false, .arr 3 [] 0 false, .arr 3 l11 (List.length l11) false, .arr 3 l10 (List.length l10) false] : Heap DD)) (fun r => match r with | l33 => .exit 0) (fun r => match r with | l33 => [(2, .v (.int .i64 a3)), (3, .v (.int .i64 a4)), (4, .op 0 1 0 0), (8, .os 1 0), (9, .os 2 0), (10, .v (.int .i64 0)), (11, .os 3 (List.length l33))]) (fun r => match r with | l33 => [.box 31 (c31 a1) false, .arr 3 [] 0 false, .arr 3 [] 0 false, .arr 3 l33 (List.length l33) false]) := by
  refine loop_sound3 (fun s q h => ?_) (fun r => ?_)
  · obtain ⟨l11, v12⟩ := s; replace h : palingref29_Flood_L1 a1 a2 a3 a4 l10 l11 v12 = some q := h
    unfold palingref29_Flood_L1 at h
    rcases ite_out h with ⟨h13, h⟩ | ⟨h13, h⟩
    · rcases ite_out h with ⟨h14, h⟩ | ⟨h14, h⟩
      · obtain ⟨x15, h16, h⟩ := bind_out h
        rcases ite_out h with ⟨h17, h⟩ | ⟨h17, h⟩
        · obtain ⟨x18, h19, h⟩ := bind_out h
          obtain ⟨r20, h21, h⟩ := bind_out h
          rcases ite_out h with ⟨h22, h⟩ | ⟨h22, h⟩
          · obtain ⟨x23, h24, h⟩ := bind_out h
            rcases ite_out h with ⟨h25, h⟩ | ⟨h25, h⟩
            · injection h with h; subst h; exact runLp_sound mixedOrders (live := [1, 2, 3, 4, 8, 9, 10, 11, 12, 13]) (ids := [0, 1, 2, 3, 4]) (π := [.dec true, .row (c3 x15), .dec true, .row (c3 x18), .callv (.v (.bool r20)), .dec true, .row (c3 x23), .obj [] (.arr 3 [x23] (List.length [x23]) false), .obj [5] (.arr 3 (l11 ++ [x23]) (List.length (l11 ++ [x23])) false)]) (hx := by kernel_rfl) (hps := pc ((rfl : ((List.length l10) : Nat) = (List.length l10))) <| pc (h13) <| pc (And.intro (rfl : ((List.length l10) : Nat) = (List.length l10)) (lin_ob h14)) <| pc (And.intro (rfl : ((List.length l10) : Nat) = (List.length l10)) (obn3 h16)) <| pc (h17) <| pc (And.intro (rfl : ((List.length l10) : Nat) = (List.length l10)) (lin_ob h14)) <| pc (And.intro (rfl : ((List.length l10) : Nat) = (List.length l10)) (obn3 h19)) <| pc (k_palingref29_Usable h21) <| pc (h22) <| pc (And.intro (rfl : ((List.length l10) : Nat) = (List.length l10)) (lin_ob h14)) <| pc (And.intro (rfl : ((List.length l10) : Nat) = (List.length l10)) (obn3 h24)) <| pc (bs_ob 3 [x23]) <| pc (app_ob 3 (n := (List.length l11)) (l := l11) (xs := [x23]) h25) <| pc ((rfl : ((List.length [x23]) : Nat) = (List.length [x23]))) <| pn)
            · cases h
          · injection h with h; subst h; exact runLp_sound mixedOrders (live := [1, 2, 3, 4, 8, 9, 10, 11, 12, 13]) (ids := [0, 1, 2, 3, 4]) (π := [.dec true, .row (c3 x15), .dec true, .row (c3 x18), .callv (.v (.bool r20)), .dec false]) (hx := by kernel_rfl) (hps := pc ((rfl : ((List.length l10) : Nat) = (List.length l10))) <| pc (h13) <| pc (And.intro (rfl : ((List.length l10) : Nat) = (List.length l10)) (lin_ob h14)) <| pc (And.intro (rfl : ((List.length l10) : Nat) = (List.length l10)) (obn3 h16)) <| pc (h17) <| pc (And.intro (rfl : ((List.length l10) : Nat) = (List.length l10)) (lin_ob h14)) <| pc (And.intro (rfl : ((List.length l10) : Nat) = (List.length l10)) (obn3 h19)) <| pc (k_palingref29_Usable h21) <| pc (h22) <| pn)
        · injection h with h; subst h; exact runLp_sound mixedOrders (live := [1, 2, 3, 4, 8, 9, 10, 11, 12, 13]) (ids := [0, 1, 2, 3, 4]) (π := [.dec true, .row (c3 x15), .dec false]) (hx := by kernel_rfl) (hps := pc ((rfl : ((List.length l10) : Nat) = (List.length l10))) <| pc (h13) <| pc (And.intro (rfl : ((List.length l10) : Nat) = (List.length l10)) (lin_ob h14)) <| pc (And.intro (rfl : ((List.length l10) : Nat) = (List.length l10)) (obn3 h16)) <| pc (h17) <| pn)
      · cases h
    · injection h with h; subst h; exact runLp_sound mixedOrders (live := [2, 3, 4, 8, 9, 10, 11]) (ids := [0, 1, 2, 3]) (π := [.dec false]) (hx := by kernel_rfl) (hps := pc ((rfl : ((List.length l10) : Nat) = (List.length l10))) <| pc (h13) <| pn)
  · exact Ex.noConfusion

theorem k_palingref29_Flood {a1 : Api_Net} {a2 : List Bool} {a3 : Int} {a4 : Int} {r : ((List Int) × (List Int) × Int)} (h : palingref29_Flood a1 a2 a3 a4 = some r) :
    CallsOK Try.prog UU 43 [.agg (c31 a1), .sl 4 a2, .v (.int .i64 a3), .v (.int .i64 a4)] [] ((fun r => match r with | (l39, l40, v41) => .tup [.sl 3 l39, .sl 3 l40, .v (.int .i64 v41)]) r) ((fun r => match r with | (l39, l40, v41) => []) r) := by
  unfold palingref29_Flood at h
  obtain ⟨r5, h6, h⟩ := bind_out h
  rcases ite_out h with ⟨h7, h⟩ | ⟨h7, h⟩
  · injection h with h; subst h; exact runFz_sound mixedOrders Try.func43 rfl (ids := []) (fz := [3, 4]) (π := [.callv (.v (.bool r5)), .dec true]) (hrun := by kernel_rfl) (hps := pc (k_palingref29_fits h6) <| pc (h7) <| pc ((rfl : (0 : Nat) = 0)) <| pc ((rfl : (0 : Nat) = 0)) <| pn)
  · obtain ⟨l10, h9, h⟩ := bind_out h
    obtain ⟨l33, h34, h⟩ := bind_out h
    rcases ite_out h with ⟨h36, h⟩ | ⟨h36, h⟩
    · injection h with h; subst h; exact runFz_sound mixedOrders Try.func43 rfl (ids := []) (fz := [3, 4]) (π := [.callv (.v (.bool r5)), .dec false, .callo (.os 0 (List.length l10)) [.arr 3 l10 (List.length l10) false], .sum [1, 2, 3, 4, 8, 9, 10, 11, 12, 13] [0, 1, 2, 3, 4] (.exit 0) [(2, .v (.int .i64 a3)), (3, .v (.int .i64 a4)), (4, .op 0 1 0 0), (8, .os 1 0), (9, .os 2 0), (10, .v (.int .i64 0)), (11, .os 3 (List.length l33))] [.box 31 (c31 a1) false, .arr 3 [] 0 false, .arr 3 [] 0 false, .arr 3 l33 (List.length l33) false], .dec true]) (hrun := by kernel_rfl) (hps := pc (k_palingref29_fits h6) <| pc (h7) <| pc (k_palingref15_Members h9) <| pc (im3 l10) <| pc (k_palingref29_Flood_L1 _ _ h34) <| pc (h36) <| pc ((rfl : ((List.length l33) : Nat) = (List.length l33))) <| pc ((rfl : (0 : Nat) = 0)) <| pn)
    · obtain ⟨x37, h38, h⟩ := bind_out h
      injection h with h; subst h; exact runFz_sound mixedOrders Try.func43 rfl (ids := []) (fz := [3]) (π := [.callv (.v (.bool r5)), .dec false, .callo (.os 0 (List.length l10)) [.arr 3 l10 (List.length l10) false], .sum [1, 2, 3, 4, 8, 9, 10, 11, 12, 13] [0, 1, 2, 3, 4] (.exit 0) [(2, .v (.int .i64 a3)), (3, .v (.int .i64 a4)), (4, .op 0 1 0 0), (8, .os 1 0), (9, .os 2 0), (10, .v (.int .i64 0)), (11, .os 3 (List.length l33))] [.box 31 (c31 a1) false, .arr 3 [] 0 false, .arr 3 [] 0 false, .arr 3 l33 (List.length l33) false], .dec false, .row (c56 x37)]) (hrun := by kernel_rfl) (hps := pc (k_palingref29_fits h6) <| pc (h7) <| pc (k_palingref15_Members h9) <| pc (im3 l10) <| pc (k_palingref29_Flood_L1 _ _ h34) <| pc (h36) <| pc (ob56 h38) <| pc ((rfl : ((List.length l33) : Nat) = (List.length l33))) <| pn)

theorem k_palingref01_Bytes_L2 {a1 : Int} {l2 : List Int} {v3 : Int} : LoopOK Try.prog UU 0 26 (subC (codeOf Try.f159) [1, 1, 0, 1, 0, 0, 1, 0, 0, 1, 0, 1, 0, 0]) (fun s : Int × Int => match s with | (v5, v6) => palingref01_Bytes_L2 a1 l2 v3 v5 v6)
    (fun s : Int × Int => (match s with | (v5, v6) => [(0, .v (.int .u64 a1)), (2, .os 0 0), (3, .os 1 (List.length l2)), (4, .v (.int .i64 v3)), (5, .v (.int .u64 v5)), (6, .v (.int .i64 v6))] : Fr DD)) (fun s : Int × Int => (match s with | (v5, v6) => [.arr 5 [] 0 false, .arr 5 l2 (List.length l2) false] : Heap DD)) (fun r => match r with | v9 => .exit 2) (fun r => match r with | v9 => [(0, .v (.int .u64 a1)), (2, .os 0 0), (3, .os 1 (List.length l2)), (4, .v (.int .i64 v3)), (5, .v (.int .u64 v9))]) (fun r => match r with | v9 => [.arr 5 [] 0 false, .arr 5 l2 (List.length l2) false]) := by
  refine loop_sound3 (fun s q h => ?_) (fun r => ?_)
  · obtain ⟨v5, v6⟩ := s; replace h : palingref01_Bytes_L2 a1 l2 v3 v5 v6 = some q := h
    unfold palingref01_Bytes_L2 at h
    rcases ite_out h with ⟨h7, h⟩ | ⟨h7, h⟩
    · injection h with h; subst h; exact runLp_sound mixedOrders (live := [0, 2, 3, 4, 5, 6]) (ids := [0, 1]) (π := [.dec true]) (hx := by kernel_rfl) (hps := pc (h7) <| pc ((show (256 : Int) ≠ 0 from by decide)) <| pn)
    · injection h with h; subst h; exact runLp_sound mixedOrders (live := [0, 2, 3, 4, 5]) (ids := [0, 1]) (π := [.dec false]) (hx := by kernel_rfl) (hps := pc (h7) <| pn)
  · exact Ex.noConfusion

theorem k_palingref01_Bytes_L1 {a1 : Int} : LoopOK Try.prog UU 0 26 (subC (codeOf Try.f159) [1, 1, 0, 1, 0, 0]) (fun s : (List Int) × Int => match s with | (l2, v3) => palingref01_Bytes_L1 a1 l2 v3)
    (fun s : (List Int) × Int => (match s with | (l2, v3) => [(0, .v (.int .u64 a1)), (2, .os 0 0), (3, .os 1 (List.length l2)), (4, .v (.int .i64 v3))] : Fr DD)) (fun s : (List Int) × Int => (match s with | (l2, v3) => [.arr 5 [] 0 false, .arr 5 l2 (List.length l2) false] : Heap DD)) (fun r => match r with | l15 => .exit 0) (fun r => match r with | l15 => [(2, .os 0 0), (3, .os 1 (List.length l15))]) (fun r => match r with | l15 => [.arr 5 [] 0 false, .arr 5 l15 (List.length l15) false]) := by
  refine loop_sound3 (fun s q h => ?_) (fun r => ?_)
  · obtain ⟨l2, v3⟩ := s; replace h : palingref01_Bytes_L1 a1 l2 v3 = some q := h
    unfold palingref01_Bytes_L1 at h
    rcases ite_out h with ⟨h4, h⟩ | ⟨h4, h⟩
    · obtain ⟨v9, h10, h⟩ := bind_out h
      rcases ite_out h with ⟨h12, h⟩ | ⟨h12, h⟩
      · injection h with h; subst h; exact runLp_sound mixedOrders (live := [0, 2, 3, 4]) (ids := [0, 1]) (π := [.dec true, .sum [0, 2, 3, 4, 5, 6] [0, 1] (.exit 2) [(0, .v (.int .u64 a1)), (2, .os 0 0), (3, .os 1 (List.length l2)), (4, .v (.int .i64 v3)), (5, .v (.int .u64 v9))] [.arr 5 [] 0 false, .arr 5 l2 (List.length l2) false], .obj [] (.arr 5 [(wr_u8 (Int.tmod v9 256) : Int)] (List.length [(wr_u8 (Int.tmod v9 256) : Int)]) false), .obj [2] (.arr 5 (l2 ++ [(wr_u8 (Int.tmod v9 256) : Int)]) (List.length (l2 ++ [(wr_u8 (Int.tmod v9 256) : Int)])) false)]) (hx := by kernel_rfl) (hps := pc (h4) <| pc (k_palingref01_Bytes_L2 _ _ h10) <| pc ((show (256 : Int) ≠ 0 from by decide)) <| pc (bs_ob 5 [(wr_u8 (Int.tmod v9 256) : Int)]) <| pc (app_ob 5 (n := (List.length l2)) (l := l2) (xs := [(wr_u8 (Int.tmod v9 256) : Int)]) h12) <| pc ((rfl : ((List.length [(wr_u8 (Int.tmod v9 256) : Int)]) : Nat) = (List.length [(wr_u8 (Int.tmod v9 256) : Int)]))) <| pn)
      · cases h
    · injection h with h; subst h; exact runLp_sound mixedOrders (live := [2, 3]) (ids := [0, 1]) (π := [.dec false]) (hx := by kernel_rfl) (hps := pc (h4) <| pn)
  · exact Ex.noConfusion

theorem k_palingref01_Bytes {a1 : Int} {r : ((List Int))} (h : palingref01_Bytes a1 = some r) :
    CallsOK Try.prog UU 159 [.v (.int .u64 a1)] [] ((fun r => match r with | l18 => .os 0 (List.length l18)) r) ((fun r => match r with | l18 => [.arr 5 l18 (List.length l18) false]) r) := by
  unfold palingref01_Bytes at h
  obtain ⟨l15, h16, h⟩ := bind_out h
  injection h with h; subst h; exact runFn_sound mixedOrders Try.func159 rfl (keep := some [1]) (π := [.sum [0, 2, 3, 4] [0, 1] (.exit 0) [(2, .os 0 0), (3, .os 1 (List.length l15))] [.arr 5 [] 0 false, .arr 5 l15 (List.length l15) false]]) (hrun := by kernel_rfl) (hps := pc (k_palingref01_Bytes_L1 _ _ h16) <| pn)

theorem k_palingref01_Group {a1 : Int} {r : Bool} (h : palingref01_Group a1 = some r) :
    CallsOK Try.prog UU 117 [.v (.int .u64 a1)] [] (.v (.bool r)) [] := by
  unfold palingref01_Group at h
  obtain ⟨l4, h3, h⟩ := bind_out h
  rcases ite_out h with ⟨h5, h⟩ | ⟨h5, h⟩
  · obtain ⟨x6, h7, h⟩ := bind_out h
    injection h with h; subst h; exact runFn_sound mixedOrders Try.func117 rfl (keep := none) (π := [.callo (.os 0 (List.length l4)) [.arr 5 l4 (List.length l4) false], .row (c5 x6)]) (hrun := by kernel_rfl) (hps := pc (k_palingref01_Bytes h3) <| pc (im5 l4) <| pc (And.intro (rfl : ((List.length l4) : Nat) = (List.length l4)) (lin_ob h5)) <| pc (And.intro (rfl : ((List.length l4) : Nat) = (List.length l4)) (obn5 h7)) <| pc ((show (2 : Int) ≠ 0 from by decide)) <| pn)
  · cases h

theorem k_palingref18_Lookup_L1 {a1 : Api_Net} {a2 : Int} {a3 : Int} : LoopOK Try.prog UU 0 39 (subC (codeOf Try.f118) [1, 0, 1, 0, 0]) (ρ := Int ⊕ Unit) (palingref18_Lookup_L1 a1 a2 a3)
    (fun v4 : Int => ([(1, .v (.int .i64 a2)), (2, .v (.int .u64 a3)), (3, .op 0 1 0 0), (6, .v (.int .i64 0)), (7, .v (.int .i64 v4))] : Fr DD)) (fun v4 : Int => ([.box 31 (c31 a1) false] : Heap DD)) (fun r => match r with | Sum.inl v15 => .ret | Sum.inr _ => .exit 0) (fun r => match r with | Sum.inl v15 => [(6, .v (.int .i64 v15))] | Sum.inr _ => [(6, .v (.int .i64 0))]) (fun r => match r with | Sum.inl v15 => [] | Sum.inr _ => []) := by
  refine loop_sound3 (fun s q h => ?_) (fun r => ?_)
  · replace h : palingref18_Lookup_L1 a1 a2 a3 s = some q := h; revert h; revert s; intro v4 h
    unfold palingref18_Lookup_L1 at h
    rcases ite_out h with ⟨h5, h⟩ | ⟨h5, h⟩
    · obtain ⟨x6, h7, h⟩ := bind_out h
      rcases ite_out h with ⟨h8, h⟩ | ⟨h8, h⟩
      · obtain ⟨x9, h10, h⟩ := bind_out h
        rcases ite_out h with ⟨h11, h⟩ | ⟨h11, h⟩
        · obtain ⟨x12, h13, h⟩ := bind_out h
          injection h with h; subst h; exact runLp_sound mixedOrders (live := [6]) (ids := []) (π := [.dec true, .row (c102 x6), .dec true, .row (c102 x9), .dec true, .row (c102 x12)]) (hx := by kernel_rfl) (hps := pc (h5) <| pc (ob102 h7) <| pc (h8) <| pc (ob102 h10) <| pc (h11) <| pc (ob102 h13) <| pn)
        · injection h with h; subst h; exact runLp_sound mixedOrders (live := [1, 2, 3, 6, 7]) (ids := [0]) (π := [.dec true, .row (c102 x6), .dec true, .row (c102 x9), .dec false]) (hx := by kernel_rfl) (hps := pc (h5) <| pc (ob102 h7) <| pc (h8) <| pc (ob102 h10) <| pc (h11) <| pn)
      · injection h with h; subst h; exact runLp_sound mixedOrders (live := [1, 2, 3, 6, 7]) (ids := [0]) (π := [.dec true, .row (c102 x6), .dec false]) (hx := by kernel_rfl) (hps := pc (h5) <| pc (ob102 h7) <| pc (h8) <| pn)
    · injection h with h; subst h; exact runLp_sound mixedOrders (live := [6]) (ids := []) (π := [.dec false]) (hx := by kernel_rfl) (hps := pc (h5) <| pn)
  · rcases r with _ | _ <;> exact Ex.noConfusion

theorem k_palingref18_Lookup {a1 : Api_Net} {a2 : Int} {a3 : Int} {r : Int} (h : palingref18_Lookup a1 a2 a3 = some r) :
    CallsOK Try.prog UU 118 [.agg (c31 a1), .v (.int .i64 a2), .v (.int .u64 a3)] [] (.v (.int .i64 r)) [] := by
  unfold palingref18_Lookup at h
  obtain ⟨r17, h16, h⟩ := bind_out h
  rcases r17 with v15 | _
  · injection h with h; subst h; exact runFn_sound mixedOrders Try.func118 rfl (keep := none) (π := [.sum [1, 2, 3, 6, 7] [0] .ret [(6, .v (.int .i64 v15))] []]) (hrun := by kernel_rfl) (hps := pc (k_palingref18_Lookup_L1 _ _ h16) <| pn)
  · injection h with h; subst h; exact runFn_sound mixedOrders Try.func118 rfl (keep := none) (π := [.sum [1, 2, 3, 6, 7] [0] (.exit 0) [(6, .v (.int .i64 0))] []]) (hrun := by kernel_rfl) (hps := pc (k_palingref18_Lookup_L1 _ _ h16) <| pn)

theorem k_palingref29_one {a1 : Api_Net} {a2 : List Bool} {a3 : Int} {a4 : Int} {r : ((List Int))} (h : palingref29_one a1 a2 a3 a4 = some r) :
    CallsOK Try.prog UU 119 [.agg (c31 a1), .sl 4 a2, .v (.int .i64 a3), .v (.int .i64 a4)] [] ((fun r => match r with | l9 => .os 0 (List.length l9)) r) ((fun r => match r with | l9 => [.arr 3 l9 (List.length l9) false]) r) := by
  unfold palingref29_one at h
  rcases ite_out h with ⟨h5, h⟩ | ⟨h5, h⟩
  · injection h with h; subst h; exact runFn_sound mixedOrders Try.func119 rfl (keep := some [2]) (π := [.dec true]) (hrun := by kernel_rfl) (hps := pc (h5) <| pn)
  · obtain ⟨r6, h7, h⟩ := bind_out h
    rcases ite_out h with ⟨h8, h⟩ | ⟨h8, h⟩
    · injection h with h; subst h; exact runFn_sound mixedOrders Try.func119 rfl (keep := some [2]) (π := [.dec false, .callv (.v (.bool r6)), .dec true]) (hrun := by kernel_rfl) (hps := pc (h5) <| pc (k_palingref29_Usable h7) <| pc (h8) <| pn)
    · injection h with h; subst h; exact runFn_sound mixedOrders Try.func119 rfl (keep := some [2]) (π := [.dec false, .callv (.v (.bool r6)), .dec false, .obj [] (.arr 3 [a3] (List.length [a3]) false)]) (hrun := by kernel_rfl) (hps := pc (h5) <| pc (k_palingref29_Usable h7) <| pc (h8) <| pc (bs_ob 3 [a3]) <| pn)

theorem k_palingref26_Find_L1 {a1 : List Api_Entry} {a2 : Int} : LoopOK Try.prog UU 0 25 (subC (codeOf Try.f120) [1, 0, 1, 0, 0]) (ρ := Int ⊕ Unit) (palingref26_Find_L1 a1 a2)
    (fun v3 : Int => ([(0, .sl 139 a1), (1, .v (.int .u64 a2)), (4, .v (.int .i64 0)), (5, .v (.bool false)), (6, .v (.int .i64 v3))] : Fr DD)) (fun v3 : Int => ([] : Heap DD)) (fun r => match r with | Sum.inl v11 => .ret | Sum.inr _ => .exit 0) (fun r => match r with | Sum.inl v11 => [(4, .v (.int .i64 v11)), (5, .v (.bool true))] | Sum.inr _ => [(4, .v (.int .i64 0)), (5, .v (.bool false))]) (fun r => match r with | Sum.inl v11 => [] | Sum.inr _ => []) := by
  refine loop_sound3 (fun s q h => ?_) (fun r => ?_)
  · replace h : palingref26_Find_L1 a1 a2 s = some q := h; revert h; revert s; intro v3 h
    unfold palingref26_Find_L1 at h
    rcases ite_out h with ⟨h4, h⟩ | ⟨h4, h⟩
    · obtain ⟨x5, h6, h⟩ := bind_out h
      rcases ite_out h with ⟨h7, h⟩ | ⟨h7, h⟩
      · obtain ⟨x8, h9, h⟩ := bind_out h
        injection h with h; subst h; exact runLp_sound mixedOrders (live := [4, 5]) (ids := []) (π := [.dec true, .row (c139 x5), .dec true, .row (c139 x8)]) (hx := by kernel_rfl) (hps := pc (h4) <| pc (ob139 h6) <| pc (h7) <| pc (ob139 h9) <| pn)
      · injection h with h; subst h; exact runLp_sound mixedOrders (live := [0, 1, 4, 5, 6]) (ids := []) (π := [.dec true, .row (c139 x5), .dec false]) (hx := by kernel_rfl) (hps := pc (h4) <| pc (ob139 h6) <| pc (h7) <| pn)
    · injection h with h; subst h; exact runLp_sound mixedOrders (live := [4, 5]) (ids := []) (π := [.dec false]) (hx := by kernel_rfl) (hps := pc (h4) <| pn)
  · rcases r with _ | _ <;> exact Ex.noConfusion

theorem k_palingref26_Find {a1 : List Api_Entry} {a2 : Int} {r : Int × Bool} (h : palingref26_Find a1 a2 = some r) :
    CallsOK Try.prog UU 120 [.sl 139 a1, .v (.int .u64 a2)] [] (.tup [.v (.int .i64 r.1), .v (.bool r.2)]) [] := by
  unfold palingref26_Find at h
  obtain ⟨r13, h12, h⟩ := bind_out h
  rcases r13 with v11 | _
  · injection h with h; subst h; exact runFn_sound mixedOrders Try.func120 rfl (keep := none) (π := [.sum [0, 1, 4, 5, 6] [] .ret [(4, .v (.int .i64 v11)), (5, .v (.bool true))] []]) (hrun := by kernel_rfl) (hps := pc (k_palingref26_Find_L1 _ _ h12) <| pn)
  · injection h with h; subst h; exact runFn_sound mixedOrders Try.func120 rfl (keep := none) (π := [.sum [0, 1, 4, 5, 6] [] (.exit 0) [(4, .v (.int .i64 0)), (5, .v (.bool false))] []]) (hrun := by kernel_rfl) (hps := pc (k_palingref26_Find_L1 _ _ h12) <| pn)

theorem k_palingref29_Decide_J1 {a1 : Api_Net} {a2 : List Bool} {a4 : Int} {a5 : Int} {l9 : List Int} {l10 : List Int} {r22 : Int × Bool} {r : (List Int) ⊕ Unit} (h : palingref29_Decide_J1 a1 a2 a4 a5 l9 l10 r22 = some r) :
    ExecOK Try.prog UU 0 94 (subC (codeOf Try.f40) [1, 1, 1, 1, 1, 1, 0]) [(1, .sl 4 a2), (3, .v (.int .i64 a4)), (4, .v (.int .i64 a5)), (6, .op 0 1 0 0), (12, .os 1 0), (13, .os 2 0), (14, .v (.int .i64 0)), (15, .sl 3 l9), (16, .sl 3 l10), (19, .v (.int .i64 r22.1)), (20, .v (.bool r22.2))] [.box 31 (c31 a1) false, .arr 3 [] 0 false, .arr 3 [] 0 false] ((fun r => match r with | Sum.inl l37 => .ret | Sum.inr _ => .nor) r) ((fun r => match r with | Sum.inl l37 => [(12, .os 0 (List.length l37)), (13, .os 1 0), (14, .v (.int .i64 0))] | Sum.inr _ => [(3, .v (.int .i64 a4)), (4, .v (.int .i64 a5)), (6, .op 0 1 0 0), (12, .os 1 0), (13, .os 2 0), (14, .v (.int .i64 0)), (15, .sl 3 l9), (16, .sl 3 l10), (19, .v (.int .i64 r22.1)), (20, .v (.bool r22.2))]) r) ((fun r => match r with | Sum.inl l37 => [.arr 3 l37 (List.length l37) false, .arr 3 [] 0 false] | Sum.inr _ => [.box 31 (c31 a1) false, .arr 3 [] 0 false, .arr 3 [] 0 false]) r) := by
  unfold palingref29_Decide_J1 at h
  rcases ite_out h with ⟨h24, h⟩ | ⟨h24, h⟩
  · obtain ⟨l27, h26, h⟩ := bind_out h
    obtain ⟨r28, h29, h⟩ := bind_out h
    rcases ite_out h with ⟨h30, h⟩ | ⟨h30, h⟩
    · obtain ⟨l33, h32, h⟩ := bind_out h
      injection h with h; subst h; exact runLp_sound mixedOrders (live := [12, 13, 14]) (ids := [4, 5]) (π := [.dec true, .callo (.os 0 (List.length l27)) [.arr 3 l27 (List.length l27) false], .callv (.v (.bool r28)), .dec true, .callo (.os 0 (List.length l33)) [.arr 3 l33 (List.length l33) false]]) (hx := by kernel_rfl) (hps := pc (h24) <| pc (k_palingref15_Members h26) <| pc (im3 l27) <| pc (k_palingref15_In h29) <| pc ((rfl : ((List.length l27) : Nat) = (List.length l27))) <| pc (h30) <| pc (k_palingref29_one h32) <| pc (im3 l33) <| pn)
    · injection h with h; subst h; exact runLp_sound mixedOrders (live := [3, 4, 6, 12, 13, 14, 15, 16, 19, 20]) (ids := [0, 1, 2]) (π := [.dec true, .callo (.os 0 (List.length l27)) [.arr 3 l27 (List.length l27) false], .callv (.v (.bool r28)), .dec false]) (hx := by kernel_rfl) (hps := pc (h24) <| pc (k_palingref15_Members h26) <| pc (im3 l27) <| pc (k_palingref15_In h29) <| pc ((rfl : ((List.length l27) : Nat) = (List.length l27))) <| pc (h30) <| pn)
  · injection h with h; subst h; exact runLp_sound mixedOrders (live := [3, 4, 6, 12, 13, 14, 15, 16, 19, 20]) (ids := [0, 1, 2]) (π := [.dec false]) (hx := by kernel_rfl) (hps := pc (h24) <| pn)

theorem k_palingref29_Decide_J2 {a1 : Api_Net} {a4 : Int} {a5 : Int} {l9 : List Int} {l10 : List Int} {r22 : Int × Bool} {r : Bool} (h : palingref29_Decide_J2 a1 a4 a5 l9 l10 r22 = some r) :
    ExecOK Try.prog UU 0 94 (subC (codeOf Try.f40) [1, 1, 1, 1, 1, 1, 1, 0, 0]) [(3, .v (.int .i64 a4)), (4, .v (.int .i64 a5)), (6, .op 0 1 0 0), (12, .os 1 0), (13, .os 2 0), (14, .v (.int .i64 0)), (15, .sl 3 l9), (16, .sl 3 l10), (19, .v (.int .i64 r22.1)), (20, .v (.bool r22.2))] [.box 31 (c31 a1) false, .arr 3 [] 0 false, .arr 3 [] 0 false] ((fun r => match r with | v47 => .nor) r) ((fun r => match r with | v47 => [(4, .v (.int .i64 a5)), (12, .os 0 0), (13, .os 1 0), (14, .v (.int .i64 0)), (15, .sl 3 l9), (16, .sl 3 l10), (19, .v (.int .i64 r22.1)), (85, .v (.bool v47))]) r) ((fun r => match r with | v47 => [.arr 3 [] 0 false, .arr 3 [] 0 false]) r) := by
  unfold palingref29_Decide_J2 at h
  rcases ite_out h with ⟨h40, h⟩ | ⟨h40, h⟩
  · rcases ite_out h with ⟨h41, h⟩ | ⟨h41, h⟩
    · obtain ⟨x42, h43, h⟩ := bind_out h
      obtain ⟨r44, h45, h⟩ := bind_out h
      injection h with h; subst h; exact runLp_sound mixedOrders (live := [4, 12, 13, 14, 15, 16, 19, 85]) (ids := [1, 2]) (π := [.dec true, .dec true, .row (c56 x42), .callv (.v (.bool r44))]) (hx := by kernel_rfl) (hps := pc (h40) <| pc (h41) <| pc (ob56 h43) <| pc (k_palingref15_In h45) <| pn)
    · injection h with h; subst h; exact runLp_sound mixedOrders (live := [4, 12, 13, 14, 15, 16, 19, 85]) (ids := [1, 2]) (π := [.dec true, .dec false]) (hx := by kernel_rfl) (hps := pc (h40) <| pc (h41) <| pn)
  · injection h with h; subst h; exact runLp_sound mixedOrders (live := [4, 12, 13, 14, 15, 16, 19, 85]) (ids := [1, 2]) (π := [.dec false]) (hx := by kernel_rfl) (hps := pc (h40) <| pn)

theorem k_palingref29_Decide {a1 : Api_Net} {a2 : List Bool} {a3 : List Api_Entry} {a4 : Int} {a5 : Int} {a6 : Int} {r : ((List Int) × (List Int) × Int)} (h : palingref29_Decide a1 a2 a3 a4 a5 a6 = some r) :
    CallsOK Try.prog UU 40 [.agg (c31 a1), .sl 4 a2, .sl 139 a3, .v (.int .i64 a4), .v (.int .i64 a5), .v (.int .u64 a6)] [] ((fun r => match r with | (l52, l53, v54) => .tup [.sl 3 l52, .sl 3 l53, .v (.int .i64 v54)]) r) ((fun r => match r with | (l52, l53, v54) => []) r) := by
  unfold palingref29_Decide at h
  obtain ⟨r7, h8, h⟩ := bind_out h
  obtain ⟨l9, l10, v11⟩ := r7
  rcases ite_out h with ⟨h12, h⟩ | ⟨h12, h⟩
  · injection h with h; subst h; exact runFz_sound mixedOrders Try.func40 rfl (ids := []) (fz := []) (π := [.callm [] (.tup [.sl 3 l9, .sl 3 l10, .v (.int .i64 v11)]) [], .dec true]) (hrun := by kernel_rfl) (hps := pc (k_palingref29_Flood h8) <| pc (h12) <| pn)
  · obtain ⟨r13, h14, h⟩ := bind_out h
    rcases ite_out h with ⟨h15, h⟩ | ⟨h15, h⟩
    · injection h with h; subst h; exact runFz_sound mixedOrders Try.func40 rfl (ids := []) (fz := []) (π := [.callm [] (.tup [.sl 3 l9, .sl 3 l10, .v (.int .i64 v11)]) [], .dec false, .callv (.v (.bool r13)), .dec true]) (hrun := by kernel_rfl) (hps := pc (k_palingref29_Flood h8) <| pc (h12) <| pc (k_palingref01_Group h14) <| pc (h15) <| pn)
    · obtain ⟨r16, h17, h⟩ := bind_out h
      rcases ite_out h with ⟨h18, h⟩ | ⟨h18, h⟩
      · obtain ⟨l21, h20, h⟩ := bind_out h
        injection h with h; subst h; exact runFz_sound mixedOrders Try.func40 rfl (ids := []) (fz := [3, 4]) (π := [.callm [] (.tup [.sl 3 l9, .sl 3 l10, .v (.int .i64 v11)]) [], .dec false, .callv (.v (.bool r13)), .dec false, .callv (.v (.int .i64 r16)), .dec true, .callo (.os 0 (List.length l21)) [.arr 3 l21 (List.length l21) false]]) (hrun := by kernel_rfl) (hps := pc (k_palingref29_Flood h8) <| pc (h12) <| pc (k_palingref01_Group h14) <| pc (h15) <| pc (k_palingref18_Lookup h17) <| pc (h18) <| pc (k_palingref29_one h20) <| pc (im3 l21) <| pc ((rfl : ((List.length l21) : Nat) = (List.length l21))) <| pc ((rfl : (0 : Nat) = 0)) <| pn)
      · obtain ⟨r22, h23, h⟩ := bind_out h
        obtain ⟨r39, h38, h⟩ := bind_out h
        rcases r39 with l37 | _
        · injection h with h; subst h; exact runFz_sound mixedOrders Try.func40 rfl (ids := []) (fz := [0, 1]) (π := [.callm [] (.tup [.sl 3 l9, .sl 3 l10, .v (.int .i64 v11)]) [], .dec false, .callv (.v (.bool r13)), .dec false, .callv (.v (.int .i64 r16)), .dec false, .callv (.tup [.v (.int .i64 r22.1), .v (.bool r22.2)]), .cut [1, 3, 4, 6, 12, 13, 14, 15, 16, 19, 20] [0, 1, 2] .ret [(12, .os 0 (List.length l37)), (13, .os 1 0), (14, .v (.int .i64 0))] [.arr 3 l37 (List.length l37) false, .arr 3 [] 0 false]]) (hrun := by kernel_rfl) (hps := pc (k_palingref29_Flood h8) <| pc (h12) <| pc (k_palingref01_Group h14) <| pc (h15) <| pc (k_palingref18_Lookup h17) <| pc (h18) <| pc (k_palingref26_Find h23) <| pc (k_palingref29_Decide_J1 h38) <| pc ((rfl : ((List.length l37) : Nat) = (List.length l37))) <| pc ((rfl : (0 : Nat) = 0)) <| pn)
        · obtain ⟨v47, h48, h⟩ := bind_out h
          rcases ite_out h with ⟨h50, h⟩ | ⟨h50, h⟩
          · rcases ite_out h with ⟨h51, h⟩ | ⟨h51, h⟩
            · injection h with h; subst h; exact runFz_sound mixedOrders Try.func40 rfl (ids := []) (fz := [2, 3]) (π := [.callm [] (.tup [.sl 3 l9, .sl 3 l10, .v (.int .i64 v11)]) [], .dec false, .callv (.v (.bool r13)), .dec false, .callv (.v (.int .i64 r16)), .dec false, .callv (.tup [.v (.int .i64 r22.1), .v (.bool r22.2)]), .cut [1, 3, 4, 6, 12, 13, 14, 15, 16, 19, 20] [0, 1, 2] .nor [(3, .v (.int .i64 a4)), (4, .v (.int .i64 a5)), (6, .op 0 1 0 0), (12, .os 1 0), (13, .os 2 0), (14, .v (.int .i64 0)), (15, .sl 3 l9), (16, .sl 3 l10), (19, .v (.int .i64 r22.1)), (20, .v (.bool r22.2))] [.box 31 (c31 a1) false, .arr 3 [] 0 false, .arr 3 [] 0 false], .skp, .cut [3, 4, 6, 12, 13, 14, 15, 16, 19, 20] [0, 1, 2] .nor [(4, .v (.int .i64 a5)), (12, .os 0 0), (13, .os 1 0), (14, .v (.int .i64 0)), (15, .sl 3 l9), (16, .sl 3 l10), (19, .v (.int .i64 r22.1)), (85, .v (.bool v47))] [.arr 3 [] 0 false, .arr 3 [] 0 false], .dec true, .dec true]) (hrun := by kernel_rfl) (hps := pc (k_palingref29_Flood h8) <| pc (h12) <| pc (k_palingref01_Group h14) <| pc (h15) <| pc (k_palingref18_Lookup h17) <| pc (h18) <| pc (k_palingref26_Find h23) <| pc (k_palingref29_Decide_J1 h38) <| pc (k_palingref29_Decide_J2 h48) <| pc (h50) <| pc (h51) <| pc ((rfl : (0 : Nat) = 0)) <| pc ((rfl : (0 : Nat) = 0)) <| pn)
            · injection h with h; subst h; exact runFz_sound mixedOrders Try.func40 rfl (ids := []) (fz := [3, 2]) (π := [.callm [] (.tup [.sl 3 l9, .sl 3 l10, .v (.int .i64 v11)]) [], .dec false, .callv (.v (.bool r13)), .dec false, .callv (.v (.int .i64 r16)), .dec false, .callv (.tup [.v (.int .i64 r22.1), .v (.bool r22.2)]), .cut [1, 3, 4, 6, 12, 13, 14, 15, 16, 19, 20] [0, 1, 2] .nor [(3, .v (.int .i64 a4)), (4, .v (.int .i64 a5)), (6, .op 0 1 0 0), (12, .os 1 0), (13, .os 2 0), (14, .v (.int .i64 0)), (15, .sl 3 l9), (16, .sl 3 l10), (19, .v (.int .i64 r22.1)), (20, .v (.bool r22.2))] [.box 31 (c31 a1) false, .arr 3 [] 0 false, .arr 3 [] 0 false], .skp, .cut [3, 4, 6, 12, 13, 14, 15, 16, 19, 20] [0, 1, 2] .nor [(4, .v (.int .i64 a5)), (12, .os 0 0), (13, .os 1 0), (14, .v (.int .i64 0)), (15, .sl 3 l9), (16, .sl 3 l10), (19, .v (.int .i64 r22.1)), (85, .v (.bool v47))] [.arr 3 [] 0 false, .arr 3 [] 0 false], .dec true, .dec false, .obj [] (.arr 3 [(wr_i64 (0 - (wr_i64 (r22.1 + 1))) : Int)] (List.length [(wr_i64 (0 - (wr_i64 (r22.1 + 1))) : Int)]) false)]) (hrun := by kernel_rfl) (hps := pc (k_palingref29_Flood h8) <| pc (h12) <| pc (k_palingref01_Group h14) <| pc (h15) <| pc (k_palingref18_Lookup h17) <| pc (h18) <| pc (k_palingref26_Find h23) <| pc (k_palingref29_Decide_J1 h38) <| pc (k_palingref29_Decide_J2 h48) <| pc (h50) <| pc (h51) <| pc (bs_ob 3 [(wr_i64 (0 - (wr_i64 (r22.1 + 1))) : Int)]) <| pc ((rfl : (0 : Nat) = 0)) <| pc ((rfl : ((List.length [(wr_i64 (0 - (wr_i64 (r22.1 + 1))) : Int)]) : Nat) = (List.length [(wr_i64 (0 - (wr_i64 (r22.1 + 1))) : Int)]))) <| pn)
          · injection h with h; subst h; exact runFz_sound mixedOrders Try.func40 rfl (ids := []) (fz := []) (π := [.callm [] (.tup [.sl 3 l9, .sl 3 l10, .v (.int .i64 v11)]) [], .dec false, .callv (.v (.bool r13)), .dec false, .callv (.v (.int .i64 r16)), .dec false, .callv (.tup [.v (.int .i64 r22.1), .v (.bool r22.2)]), .cut [1, 3, 4, 6, 12, 13, 14, 15, 16, 19, 20] [0, 1, 2] .nor [(3, .v (.int .i64 a4)), (4, .v (.int .i64 a5)), (6, .op 0 1 0 0), (12, .os 1 0), (13, .os 2 0), (14, .v (.int .i64 0)), (15, .sl 3 l9), (16, .sl 3 l10), (19, .v (.int .i64 r22.1)), (20, .v (.bool r22.2))] [.box 31 (c31 a1) false, .arr 3 [] 0 false, .arr 3 [] 0 false], .skp, .cut [3, 4, 6, 12, 13, 14, 15, 16, 19, 20] [0, 1, 2] .nor [(4, .v (.int .i64 a5)), (12, .os 0 0), (13, .os 1 0), (14, .v (.int .i64 0)), (15, .sl 3 l9), (16, .sl 3 l10), (19, .v (.int .i64 r22.1)), (85, .v (.bool v47))] [.arr 3 [] 0 false, .arr 3 [] 0 false], .dec false]) (hrun := by kernel_rfl) (hps := pc (k_palingref29_Flood h8) <| pc (h12) <| pc (k_palingref01_Group h14) <| pc (h15) <| pc (k_palingref18_Lookup h17) <| pc (h18) <| pc (k_palingref26_Find h23) <| pc (k_palingref29_Decide_J1 h38) <| pc (k_palingref29_Decide_J2 h48) <| pc (h50) <| pn)

theorem k_palingref03_Ints_L1 {a1 : List Int} {a2 : List Int} : LoopOK Try.prog UU 0 26 (subC (codeOf Try.f41) [1, 1, 0, 1, 0, 0]) (ρ := Unit ⊕ Unit) (palingref03_Ints_L1 a1 a2)
    (fun v4 : Int => ([(0, .sl 3 a1), (1, .sl 3 a2), (4, .v (.bool false)), (5, .v (.int .i64 v4))] : Fr DD)) (fun v4 : Int => ([] : Heap DD)) (fun r => match r with | Sum.inl _ => .ret | Sum.inr _ => .exit 0) (fun r => match r with | Sum.inl _ => [(4, .v (.bool false))] | Sum.inr _ => [(4, .v (.bool false))]) (fun r => match r with | Sum.inl _ => [] | Sum.inr _ => []) := by
  refine loop_sound3 (fun s q h => ?_) (fun r => ?_)
  · replace h : palingref03_Ints_L1 a1 a2 s = some q := h; revert h; revert s; intro v4 h
    unfold palingref03_Ints_L1 at h
    rcases ite_out h with ⟨h5, h⟩ | ⟨h5, h⟩
    · obtain ⟨x6, h7, h⟩ := bind_out h
      obtain ⟨x8, h9, h⟩ := bind_out h
      rcases ite_out h with ⟨h10, h⟩ | ⟨h10, h⟩
      · injection h with h; subst h; exact runLp_sound mixedOrders (live := [4]) (ids := []) (π := [.dec true, .row (c3 x6), .row (c3 x8), .dec true]) (hx := by kernel_rfl) (hps := pc (h5) <| pc (ob3 h7) <| pc (ob3 h9) <| pc (h10) <| pn)
      · injection h with h; subst h; exact runLp_sound mixedOrders (live := [0, 1, 4, 5]) (ids := []) (π := [.dec true, .row (c3 x6), .row (c3 x8), .dec false]) (hx := by kernel_rfl) (hps := pc (h5) <| pc (ob3 h7) <| pc (ob3 h9) <| pc (h10) <| pn)
    · injection h with h; subst h; exact runLp_sound mixedOrders (live := [4]) (ids := []) (π := [.dec false]) (hx := by kernel_rfl) (hps := pc (h5) <| pn)
  · rcases r with _ | _ <;> exact Ex.noConfusion

theorem k_palingref03_Ints {a1 : List Int} {a2 : List Int} {r : Bool} (h : palingref03_Ints a1 a2 = some r) :
    CallsOK Try.prog UU 41 [.sl 3 a1, .sl 3 a2] [] (.v (.bool r)) [] := by
  unfold palingref03_Ints at h
  rcases ite_out h with ⟨h3, h⟩ | ⟨h3, h⟩
  · injection h with h; subst h; exact runFn_sound mixedOrders Try.func41 rfl (keep := none) (π := [.dec true]) (hrun := by kernel_rfl) (hps := pc (h3) <| pn)
  · obtain ⟨r12, h11, h⟩ := bind_out h
    rcases r12 with _ | _
    · injection h with h; subst h; exact runFn_sound mixedOrders Try.func41 rfl (keep := none) (π := [.dec false, .sum [0, 1, 4, 5] [] .ret [(4, .v (.bool false))] []]) (hrun := by kernel_rfl) (hps := pc (h3) <| pc (k_palingref03_Ints_L1 _ _ h11) <| pn)
    · injection h with h; subst h; exact runFn_sound mixedOrders Try.func41 rfl (keep := none) (π := [.dec false, .sum [0, 1, 4, 5] [] (.exit 0) [(4, .v (.bool false))] []]) (hrun := by kernel_rfl) (hps := pc (h3) <| pc (k_palingref03_Ints_L1 _ _ h11) <| pn)

theorem k_lookup_Flood {a1 : Api_Net} {a2 : List Bool} {a3 : Int} {a4 : Int} {r : ((List Int) × (List Int) × Int)} (h : lookup_Flood a1 a2 a3 a4 = some r) :
    CallsOK Try.prog UU 42 [.agg (c31 a1), .sl 4 a2, .v (.int .i64 a3), .v (.int .i64 a4)] [] ((fun r => match r with | (l19, l20, v21) => .tup [.sl 3 l19, .sl 3 l20, .v (.int .i64 v21)]) r) ((fun r => match r with | (l19, l20, v21) => []) r) := by
  unfold lookup_Flood at h
  obtain ⟨r9, h10, h⟩ := bind_out h
  rcases r9 with _ | ⟨l11, v12⟩
  · injection h with h; subst h; exact runFz_sound mixedOrders Try.func42 rfl (ids := []) (fz := [3, 4]) (π := [.callm [] (.tup [.v (.pointer none), .v (.bool false)]) [], .dec true]) (hrun := by kernel_rfl) (hps := pc (k_lookup_open h10) <| pc ((rfl : (!false) = true)) <| pc ((rfl : (0 : Nat) = 0)) <| pc ((rfl : (0 : Nat) = 0)) <| pn)
  · rcases ite_out h with ⟨h13, h⟩ | ⟨h13, h⟩
    · injection h with h; subst h; exact runFz_sound mixedOrders Try.func42 rfl (ids := []) (fz := [5, 6]) (π := [.callm [] (.tup [.op 0 1 0 0, .v (.bool v12)]) [.box 153 [.sl 54 a1.devices, .sl 36 a1.ports, .sl 41 a1.links, .sl 56 a1.domains, .sl 102 a1.statics, .sl 91 a1.floods, .sl 58 a1.vrfs, .sl 74 a1.irbs, .sl 4 a2, .v (.int .i64 a3), .v (.int .i64 a4), .os 1 (List.length l11)] false, .arr 3 l11 (List.length l11) false], .dec true]) (hrun := by kernel_rfl) (hps := pc (k_lookup_open h10) <| pc (h13) <| pc ((rfl : (0 : Nat) = 0)) <| pc ((rfl : (0 : Nat) = 0)) <| pn)
    · obtain ⟨r14, h15, h⟩ := bind_out h
      obtain ⟨l18, h17, h⟩ := bind_out h
      injection h with h; subst h; exact runFz_sound mixedOrders Try.func42 rfl (ids := []) (fz := [5]) (π := [.callm [] (.tup [.op 0 1 0 0, .v (.bool v12)]) [.box 153 [.sl 54 a1.devices, .sl 36 a1.ports, .sl 41 a1.links, .sl 56 a1.domains, .sl 102 a1.statics, .sl 91 a1.floods, .sl 58 a1.vrfs, .sl 74 a1.irbs, .sl 4 a2, .v (.int .i64 a3), .v (.int .i64 a4), .os 1 (List.length l11)] false, .arr 3 l11 (List.length l11) false], .dec false, .callf [3, 4] (.sl 3 r14), .callo (.os 0 (List.length l18)) [.arr 3 l18 (List.length l18) false]]) (hrun := by kernel_rfl) (hps := pc (k_lookup_open h10) <| pc (h13) <| pc (k_lookup_room_ports h15) <| pc ((rfl : ((List.length l11) : Nat) = (List.length l11))) <| pc ((rfl : ((List.length l11) : Nat) = (List.length l11))) <| pc (k_lookup_room_peers h17) <| pc (im3 l18) <| pc ((rfl : ((List.length l11) : Nat) = (List.length l11))) <| pc ((rfl : ((List.length l18) : Nat) = (List.length l18))) <| pn)

theorem k_palinglaw29_LookupDecides {a1 : Api_Net} {a2 : List Bool} {a3 : List Api_Entry} {a4 : Int} {a5 : Int} {a6 : Int} {r : Bool} (h : palinglaw29_LookupDecides a1 a2 a3 a4 a5 a6 = some r) :
    CallsOK Try.prog UU 11 [.agg (c31 a1), .sl 4 a2, .sl 139 a3, .v (.int .i64 a4), .v (.int .i64 a5), .v (.int .u64 a6)] [] (.v (.bool r)) [] := by
  unfold palinglaw29_LookupDecides at h
  obtain ⟨r7, h8, h⟩ := bind_out h
  rcases ite_out h with ⟨h9, h⟩ | ⟨h9, h⟩
  · obtain ⟨r10, h11, h⟩ := bind_out h
    injection h with h; subst h; exact runFn_sound mixedOrders Try.func11 rfl (keep := none) (π := [.callv (.v (.bool r7)), .dec true, .callv (.v (.bool r10))]) (hrun := by kernel_rfl) (hps := pc (k_palinglaw15_Great h8) <| pc (h9) <| pc (k_palinglaw29_works h11) <| pn)
  · rcases ite_out h with ⟨h12, h⟩ | ⟨h12, h⟩
    · obtain ⟨r13, h14, h⟩ := bind_out h
      injection h with h; subst h; exact runFn_sound mixedOrders Try.func11 rfl (keep := none) (π := [.callv (.v (.bool r7)), .dec false, .dec true, .callv (.v (.bool r13))]) (hrun := by kernel_rfl) (hps := pc (k_palinglaw15_Great h8) <| pc (h9) <| pc (h12) <| pc (k_palinglaw29_works h14) <| pn)
    · rcases ite_out h with ⟨h15, h⟩ | ⟨h15, h⟩
      · obtain ⟨r16, h17, h⟩ := bind_out h
        injection h with h; subst h; exact runFn_sound mixedOrders Try.func11 rfl (keep := none) (π := [.callv (.v (.bool r7)), .dec false, .dec false, .dec true, .callv (.v (.bool r16))]) (hrun := by kernel_rfl) (hps := pc (k_palinglaw15_Great h8) <| pc (h9) <| pc (h12) <| pc (h15) <| pc (k_palinglaw29_works h17) <| pn)
      · obtain ⟨r18, h19, h⟩ := bind_out h
        obtain ⟨l20, l21, v22⟩ := r18
        obtain ⟨r23, h24, h⟩ := bind_out h
        obtain ⟨l25, l26, v27⟩ := r23
        obtain ⟨r28, h29, h⟩ := bind_out h
        rcases ite_out h with ⟨h30, h⟩ | ⟨h30, h⟩
        · injection h with h; subst h; exact runFn_sound mixedOrders Try.func11 rfl (keep := none) (π := [.callv (.v (.bool r7)), .dec false, .dec false, .dec false, .callm [] (.tup [.sl 3 l20, .sl 3 l21, .v (.int .i64 v22)]) [], .callm [] (.tup [.sl 3 l25, .sl 3 l26, .v (.int .i64 v27)]) [], .callv (.v (.bool r28)), .dec true]) (hrun := by kernel_rfl) (hps := pc (k_palinglaw15_Great h8) <| pc (h9) <| pc (h12) <| pc (h15) <| pc (k_lookup_Decide h19) <| pc (k_palingref29_Decide h24) <| pc (k_palingref03_Ints h29) <| pc (h30) <| pn)
        · obtain ⟨r31, h32, h⟩ := bind_out h
          rcases ite_out h with ⟨h33, h⟩ | ⟨h33, h⟩
          · injection h with h; subst h; exact runFn_sound mixedOrders Try.func11 rfl (keep := none) (π := [.callv (.v (.bool r7)), .dec false, .dec false, .dec false, .callm [] (.tup [.sl 3 l20, .sl 3 l21, .v (.int .i64 v22)]) [], .callm [] (.tup [.sl 3 l25, .sl 3 l26, .v (.int .i64 v27)]) [], .callv (.v (.bool r28)), .dec false, .callv (.v (.bool r31)), .dec true]) (hrun := by kernel_rfl) (hps := pc (k_palinglaw15_Great h8) <| pc (h9) <| pc (h12) <| pc (h15) <| pc (k_lookup_Decide h19) <| pc (k_palingref29_Decide h24) <| pc (k_palingref03_Ints h29) <| pc (h30) <| pc (k_palingref03_Ints h32) <| pc (h33) <| pn)
          · rcases ite_out h with ⟨h34, h⟩ | ⟨h34, h⟩
            · injection h with h; subst h; exact runFn_sound mixedOrders Try.func11 rfl (keep := none) (π := [.callv (.v (.bool r7)), .dec false, .dec false, .dec false, .callm [] (.tup [.sl 3 l20, .sl 3 l21, .v (.int .i64 v22)]) [], .callm [] (.tup [.sl 3 l25, .sl 3 l26, .v (.int .i64 v27)]) [], .callv (.v (.bool r28)), .dec false, .callv (.v (.bool r31)), .dec false, .dec true]) (hrun := by kernel_rfl) (hps := pc (k_palinglaw15_Great h8) <| pc (h9) <| pc (h12) <| pc (h15) <| pc (k_lookup_Decide h19) <| pc (k_palingref29_Decide h24) <| pc (k_palingref03_Ints h29) <| pc (h30) <| pc (k_palingref03_Ints h32) <| pc (h33) <| pc (h34) <| pn)
            · obtain ⟨r35, h36, h⟩ := bind_out h
              obtain ⟨l37, l38, v39⟩ := r35
              obtain ⟨r40, h41, h⟩ := bind_out h
              obtain ⟨l42, l43, v44⟩ := r40
              obtain ⟨r45, h46, h⟩ := bind_out h
              rcases ite_out h with ⟨h47, h⟩ | ⟨h47, h⟩
              · obtain ⟨r48, h49, h⟩ := bind_out h
                rcases ite_out h with ⟨h50, h⟩ | ⟨h50, h⟩
                · rcases ite_out h with ⟨h51, h⟩ | ⟨h51, h⟩
                  · obtain ⟨r52, h53, h⟩ := bind_out h
                    injection h with h; subst h; exact runFn_sound mixedOrders Try.func11 rfl (keep := none) (π := [.callv (.v (.bool r7)), .dec false, .dec false, .dec false, .callm [] (.tup [.sl 3 l20, .sl 3 l21, .v (.int .i64 v22)]) [], .callm [] (.tup [.sl 3 l25, .sl 3 l26, .v (.int .i64 v27)]) [], .callv (.v (.bool r28)), .dec false, .callv (.v (.bool r31)), .dec false, .dec false, .callm [] (.tup [.sl 3 l37, .sl 3 l38, .v (.int .i64 v39)]) [], .callm [] (.tup [.sl 3 l42, .sl 3 l43, .v (.int .i64 v44)]) [], .callv (.v (.bool r45)), .dec true, .callv (.v (.bool r48)), .dec true, .dec true, .callv (.v (.bool r52))]) (hrun := by kernel_rfl) (hps := pc (k_palinglaw15_Great h8) <| pc (h9) <| pc (h12) <| pc (h15) <| pc (k_lookup_Decide h19) <| pc (k_palingref29_Decide h24) <| pc (k_palingref03_Ints h29) <| pc (h30) <| pc (k_palingref03_Ints h32) <| pc (h33) <| pc (h34) <| pc (k_lookup_Flood h36) <| pc (k_palingref29_Flood h41) <| pc (k_palingref03_Ints h46) <| pc (h47) <| pc (k_palingref03_Ints h49) <| pc (h50) <| pc (h51) <| pc (k_palinglaw29_works h53) <| pn)
                  · injection h with h; subst h; exact runFn_sound mixedOrders Try.func11 rfl (keep := none) (π := [.callv (.v (.bool r7)), .dec false, .dec false, .dec false, .callm [] (.tup [.sl 3 l20, .sl 3 l21, .v (.int .i64 v22)]) [], .callm [] (.tup [.sl 3 l25, .sl 3 l26, .v (.int .i64 v27)]) [], .callv (.v (.bool r28)), .dec false, .callv (.v (.bool r31)), .dec false, .dec false, .callm [] (.tup [.sl 3 l37, .sl 3 l38, .v (.int .i64 v39)]) [], .callm [] (.tup [.sl 3 l42, .sl 3 l43, .v (.int .i64 v44)]) [], .callv (.v (.bool r45)), .dec true, .callv (.v (.bool r48)), .dec true, .dec false]) (hrun := by kernel_rfl) (hps := pc (k_palinglaw15_Great h8) <| pc (h9) <| pc (h12) <| pc (h15) <| pc (k_lookup_Decide h19) <| pc (k_palingref29_Decide h24) <| pc (k_palingref03_Ints h29) <| pc (h30) <| pc (k_palingref03_Ints h32) <| pc (h33) <| pc (h34) <| pc (k_lookup_Flood h36) <| pc (k_palingref29_Flood h41) <| pc (k_palingref03_Ints h46) <| pc (h47) <| pc (k_palingref03_Ints h49) <| pc (h50) <| pc (h51) <| pn)
                · injection h with h; subst h; exact runFn_sound mixedOrders Try.func11 rfl (keep := none) (π := [.callv (.v (.bool r7)), .dec false, .dec false, .dec false, .callm [] (.tup [.sl 3 l20, .sl 3 l21, .v (.int .i64 v22)]) [], .callm [] (.tup [.sl 3 l25, .sl 3 l26, .v (.int .i64 v27)]) [], .callv (.v (.bool r28)), .dec false, .callv (.v (.bool r31)), .dec false, .dec false, .callm [] (.tup [.sl 3 l37, .sl 3 l38, .v (.int .i64 v39)]) [], .callm [] (.tup [.sl 3 l42, .sl 3 l43, .v (.int .i64 v44)]) [], .callv (.v (.bool r45)), .dec true, .callv (.v (.bool r48)), .dec false]) (hrun := by kernel_rfl) (hps := pc (k_palinglaw15_Great h8) <| pc (h9) <| pc (h12) <| pc (h15) <| pc (k_lookup_Decide h19) <| pc (k_palingref29_Decide h24) <| pc (k_palingref03_Ints h29) <| pc (h30) <| pc (k_palingref03_Ints h32) <| pc (h33) <| pc (h34) <| pc (k_lookup_Flood h36) <| pc (k_palingref29_Flood h41) <| pc (k_palingref03_Ints h46) <| pc (h47) <| pc (k_palingref03_Ints h49) <| pc (h50) <| pn)
              · injection h with h; subst h; exact runFn_sound mixedOrders Try.func11 rfl (keep := none) (π := [.callv (.v (.bool r7)), .dec false, .dec false, .dec false, .callm [] (.tup [.sl 3 l20, .sl 3 l21, .v (.int .i64 v22)]) [], .callm [] (.tup [.sl 3 l25, .sl 3 l26, .v (.int .i64 v27)]) [], .callv (.v (.bool r28)), .dec false, .callv (.v (.bool r31)), .dec false, .dec false, .callm [] (.tup [.sl 3 l37, .sl 3 l38, .v (.int .i64 v39)]) [], .callm [] (.tup [.sl 3 l42, .sl 3 l43, .v (.int .i64 v44)]) [], .callv (.v (.bool r45)), .dec false]) (hrun := by kernel_rfl) (hps := pc (k_palinglaw15_Great h8) <| pc (h9) <| pc (h12) <| pc (h15) <| pc (k_lookup_Decide h19) <| pc (k_palingref29_Decide h24) <| pc (k_palingref03_Ints h29) <| pc (h30) <| pc (k_palingref03_Ints h32) <| pc (h33) <| pc (h34) <| pc (k_lookup_Flood h36) <| pc (k_palingref29_Flood h41) <| pc (k_palingref03_Ints h46) <| pc (h47) <| pn)

end Go.Eng
