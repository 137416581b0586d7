/- Part of the proof of OwnersAsks: printed mirrors of the functions, or their contracts. No conditions. -/
import Derived.Test.YtakginbgngjhkaaMAK2
set_option linter.unusedVariables false
set_option maxRecDepth 100000
namespace Go.Eng
open Go Go.Proofs
theorem k_palingref15_links_L1 {a1 : Api_Net} : LoopOK Try.prog UU 0 70 (subC (codeOf Try.f65) [1, 0, 1, 0, 0]) (ρ := Unit ⊕ Unit) (palingref15_links_L1 a1)
    (fun v2 : Int => ([(1, .op 0 1 0 0), (2, .v (.bool false)), (3, .v (.int .i64 v2))] : Fr DD)) (fun v2 : Int => ([.box 31 (c31 a1) false] : Heap DD)) (fun r => match r with | Sum.inl _ => .ret | Sum.inr _ => .exit 0) (fun r => match r with | Sum.inl _ => [(2, .v (.bool false))] | Sum.inr _ => [(2, .v (.bool false))]) (fun r => match r with | Sum.inl _ => [] | Sum.inr _ => []) := by
  refine loop_sound3 (fun s q h => ?_) (fun r => ?_)
  · replace h : palingref15_links_L1 a1 s = some q := h; revert h; revert s; intro v2 h
    unfold palingref15_links_L1 at h
    rcases ite_out h with ⟨h3, h⟩ | ⟨h3, h⟩
    · obtain ⟨x4, h5, h⟩ := bind_out h
      obtain ⟨r6, h7, h⟩ := bind_out h
      rcases ite_out h with ⟨h8, h⟩ | ⟨h8, h⟩
      · injection h with h; subst h; exact runLp_sound mixedOrders (live := [2]) (ids := []) (π := [.dec true, .row (c98 x4), .callv (.v (.bool r6)), .dec true]) (hx := by kernel_rfl) (hps := pc (h3) <| pc (ob98 h5) <| pc (k_palingref15_Place h7) <| pc (h8) <| pn)
      · obtain ⟨r9, h10, h⟩ := bind_out h
        rcases ite_out h with ⟨h11, h⟩ | ⟨h11, h⟩
        · injection h with h; subst h; exact runLp_sound mixedOrders (live := [2]) (ids := []) (π := [.dec true, .row (c98 x4), .callv (.v (.bool r6)), .dec false, .callv (.v (.bool r9)), .dec true]) (hx := by kernel_rfl) (hps := pc (h3) <| pc (ob98 h5) <| pc (k_palingref15_Place h7) <| pc (h8) <| pc (k_palingref15_Place h10) <| pc (h11) <| pn)
        · obtain ⟨x12, h13, h⟩ := bind_out h
          obtain ⟨x14, h15, h⟩ := bind_out h
          rcases ite_out h with ⟨h16, h⟩ | ⟨h16, h⟩
          · injection h with h; subst h; exact runLp_sound mixedOrders (live := [2]) (ids := []) (π := [.dec true, .row (c98 x4), .callv (.v (.bool r6)), .dec false, .callv (.v (.bool r9)), .dec false, .row (c60 x12), .row (c60 x14), .dec true]) (hx := by kernel_rfl) (hps := pc (h3) <| pc (ob98 h5) <| pc (k_palingref15_Place h7) <| pc (h8) <| pc (k_palingref15_Place h10) <| pc (h11) <| pc (ob60 h13) <| pc (ob60 h15) <| pc (h16) <| pn)
          · obtain ⟨x17, h18, h⟩ := bind_out h
            rcases ite_out h with ⟨h19, h⟩ | ⟨h19, h⟩
            · injection h with h; subst h; exact runLp_sound mixedOrders (live := [2]) (ids := []) (π := [.dec true, .row (c98 x4), .callv (.v (.bool r6)), .dec false, .callv (.v (.bool r9)), .dec false, .row (c60 x12), .row (c60 x14), .dec false, .row (c60 x17), .dec true]) (hx := by kernel_rfl) (hps := pc (h3) <| pc (ob98 h5) <| pc (k_palingref15_Place h7) <| pc (h8) <| pc (k_palingref15_Place h10) <| pc (h11) <| pc (ob60 h13) <| pc (ob60 h15) <| pc (h16) <| pc (ob60 h18) <| pc (h19) <| pn)
            · obtain ⟨x20, h21, h⟩ := bind_out h
              rcases ite_out h with ⟨h22, h⟩ | ⟨h22, h⟩
              · injection h with h; subst h; exact runLp_sound mixedOrders (live := [2]) (ids := []) (π := [.dec true, .row (c98 x4), .callv (.v (.bool r6)), .dec false, .callv (.v (.bool r9)), .dec false, .row (c60 x12), .row (c60 x14), .dec false, .row (c60 x17), .dec false, .row (c60 x20), .dec true]) (hx := by kernel_rfl) (hps := pc (h3) <| pc (ob98 h5) <| pc (k_palingref15_Place h7) <| pc (h8) <| pc (k_palingref15_Place h10) <| pc (h11) <| pc (ob60 h13) <| pc (ob60 h15) <| pc (h16) <| pc (ob60 h18) <| pc (h19) <| pc (ob60 h21) <| pc (h22) <| pn)
              · injection h with h; subst h; exact runLp_sound mixedOrders (live := [1, 2, 3]) (ids := [0]) (π := [.dec true, .row (c98 x4), .callv (.v (.bool r6)), .dec false, .callv (.v (.bool r9)), .dec false, .row (c60 x12), .row (c60 x14), .dec false, .row (c60 x17), .dec false, .row (c60 x20), .dec false]) (hx := by kernel_rfl) (hps := pc (h3) <| pc (ob98 h5) <| pc (k_palingref15_Place h7) <| pc (h8) <| pc (k_palingref15_Place h10) <| pc (h11) <| pc (ob60 h13) <| pc (ob60 h15) <| pc (h16) <| pc (ob60 h18) <| pc (h19) <| pc (ob60 h21) <| pc (h22) <| pn)
    · injection h with h; subst h; exact runLp_sound mixedOrders (live := [2]) (ids := []) (π := [.dec false]) (hx := by kernel_rfl) (hps := pc (h3) <| pn)
  · rcases r with _ | _ <;> exact Ex.noConfusion

theorem k_palingref15_links {a1 : Api_Net} {r : Bool} (h : palingref15_links a1 = some r) :
    CallsOK Try.prog UU 65 [.agg (c31 a1)] [] (.v (.bool r)) [] := by
  unfold palingref15_links at h
  obtain ⟨r24, h23, h⟩ := bind_out h
  rcases r24 with _ | _
  · injection h with h; subst h; exact runFn_sound mixedOrders Try.func65 rfl (keep := none) (π := [.sum [1, 2, 3] [0] .ret [(2, .v (.bool false))] []]) (hrun := by kernel_rfl) (hps := pc (k_palingref15_links_L1 _ _ h23) <| pn)
  · injection h with h; subst h; exact runFn_sound mixedOrders Try.func65 rfl (keep := none) (π := [.sum [1, 2, 3] [0] (.exit 0) [(2, .v (.bool false))] []]) (hrun := by kernel_rfl) (hps := pc (k_palingref15_links_L1 _ _ h23) <| pn)

theorem k_palingref15_Member {a1 : Api_Port} {a2 : Int} {r : Bool} (h : palingref15_Member a1 a2 = some r) :
    CallsOK Try.prog UU 123 [.agg (c60 a1), .v (.int .i64 a2)] [] (.v (.bool r)) [] := by
  unfold palingref15_Member at h
  rcases ite_out h with ⟨h3, h⟩ | ⟨h3, h⟩
  · rcases ite_out h with ⟨h4, h⟩ | ⟨h4, h⟩
    · injection h with h; subst h; exact runFn_sound mixedOrders Try.func123 rfl (keep := none) (π := [.dec true, .dec true]) (hrun := by kernel_rfl) (hps := pc (h3) <| pc (h4) <| pn)
    · obtain ⟨r5, h6, h⟩ := bind_out h
      injection h with h; subst h; exact runFn_sound mixedOrders Try.func123 rfl (keep := none) (π := [.dec true, .dec false, .callv (.v (.bool r5))]) (hrun := by kernel_rfl) (hps := pc (h3) <| pc (h4) <| pc (k_palingref15_In h6) <| pn)
  · injection h with h; subst h; exact runFn_sound mixedOrders Try.func123 rfl (keep := none) (π := [.dec false]) (hrun := by kernel_rfl) (hps := pc (h3) <| pn)

theorem k_palingref15_rest_L1 {a1 : Api_Net} : LoopOK Try.prog UU 0 192 (subC (codeOf Try.f66) [1, 0, 1, 0, 0]) (ρ := Unit ⊕ Unit) (palingref15_rest_L1 a1)
    (fun v2 : Int => ([(1, .op 0 1 0 0), (2, .v (.bool false)), (3, .v (.int .i64 v2))] : Fr DD)) (fun v2 : Int => ([.box 31 (c31 a1) false] : Heap DD)) (fun r => match r with | Sum.inl _ => .ret | Sum.inr _ => .exit 0) (fun r => match r with | Sum.inl _ => [(2, .v (.bool false))] | Sum.inr _ => [(1, .op 0 1 0 0), (2, .v (.bool false))]) (fun r => match r with | Sum.inl _ => [] | Sum.inr _ => [.box 31 (c31 a1) false]) := by
  refine loop_sound3 (fun s q h => ?_) (fun r => ?_)
  · replace h : palingref15_rest_L1 a1 s = some q := h; revert h; revert s; intro v2 h
    unfold palingref15_rest_L1 at h
    rcases ite_out h with ⟨h3, h⟩ | ⟨h3, h⟩
    · obtain ⟨x4, h5, h⟩ := bind_out h
      obtain ⟨r6, h7, h⟩ := bind_out h
      rcases ite_out h with ⟨h8, h⟩ | ⟨h8, h⟩
      · injection h with h; subst h; exact runLp_sound mixedOrders (live := [2]) (ids := []) (π := [.dec true, .row (c118 x4), .callv (.v (.bool r6)), .dec true]) (hx := by kernel_rfl) (hps := pc (h3) <| pc (ob118 h5) <| pc (k_palingref15_Place h7) <| pc (h8) <| pn)
      · obtain ⟨r9, h10, h⟩ := bind_out h
        rcases ite_out h with ⟨h11, h⟩ | ⟨h11, h⟩
        · injection h with h; subst h; exact runLp_sound mixedOrders (live := [2]) (ids := []) (π := [.dec true, .row (c118 x4), .callv (.v (.bool r6)), .dec false, .callv (.v (.bool r9)), .dec true]) (hx := by kernel_rfl) (hps := pc (h3) <| pc (ob118 h5) <| pc (k_palingref15_Place h7) <| pc (h8) <| pc (k_palingref15_Place h10) <| pc (h11) <| pn)
        · obtain ⟨x12, h13, h⟩ := bind_out h
          obtain ⟨x14, h15, h⟩ := bind_out h
          rcases ite_out h with ⟨h16, h⟩ | ⟨h16, h⟩
          · injection h with h; subst h; exact runLp_sound mixedOrders (live := [2]) (ids := []) (π := [.dec true, .row (c118 x4), .callv (.v (.bool r6)), .dec false, .callv (.v (.bool r9)), .dec false, .row (c40 x12), .row (c60 x14), .dec true]) (hx := by kernel_rfl) (hps := pc (h3) <| pc (ob118 h5) <| pc (k_palingref15_Place h7) <| pc (h8) <| pc (k_palingref15_Place h10) <| pc (h11) <| pc (ob40 h13) <| pc (ob60 h15) <| pc (h16) <| pn)
          · obtain ⟨x17, h18, h⟩ := bind_out h
            obtain ⟨r19, h20, h⟩ := bind_out h
            rcases ite_out h with ⟨h21, h⟩ | ⟨h21, h⟩
            · injection h with h; subst h; exact runLp_sound mixedOrders (live := [2]) (ids := []) (π := [.dec true, .row (c118 x4), .callv (.v (.bool r6)), .dec false, .callv (.v (.bool r9)), .dec false, .row (c40 x12), .row (c60 x14), .dec false, .row (c60 x17), .callv (.v (.bool r19)), .dec true]) (hx := by kernel_rfl) (hps := pc (h3) <| pc (ob118 h5) <| pc (k_palingref15_Place h7) <| pc (h8) <| pc (k_palingref15_Place h10) <| pc (h11) <| pc (ob40 h13) <| pc (ob60 h15) <| pc (h16) <| pc (ob60 h18) <| pc (k_palingref15_Member h20) <| pc (h21) <| pn)
            · injection h with h; subst h; exact runLp_sound mixedOrders (live := [1, 2, 3]) (ids := [0]) (π := [.dec true, .row (c118 x4), .callv (.v (.bool r6)), .dec false, .callv (.v (.bool r9)), .dec false, .row (c40 x12), .row (c60 x14), .dec false, .row (c60 x17), .callv (.v (.bool r19)), .dec false]) (hx := by kernel_rfl) (hps := pc (h3) <| pc (ob118 h5) <| pc (k_palingref15_Place h7) <| pc (h8) <| pc (k_palingref15_Place h10) <| pc (h11) <| pc (ob40 h13) <| pc (ob60 h15) <| pc (h16) <| pc (ob60 h18) <| pc (k_palingref15_Member h20) <| pc (h21) <| pn)
    · injection h with h; subst h; exact runLp_sound mixedOrders (live := [1, 2]) (ids := [0]) (π := [.dec false]) (hx := by kernel_rfl) (hps := pc (h3) <| pn)
  · rcases r with _ | _ <;> exact Ex.noConfusion

theorem k_palingref15_rest_L2 {a1 : Api_Net} : LoopOK Try.prog UU 0 192 (subC (codeOf Try.f66) [1, 1, 0, 1, 0, 0]) (ρ := Unit ⊕ Unit) (palingref15_rest_L2 a1)
    (fun v24 : Int => ([(1, .op 0 1 0 0), (2, .v (.bool false)), (6, .v (.int .i64 v24))] : Fr DD)) (fun v24 : Int => ([.box 31 (c31 a1) false] : Heap DD)) (fun r => match r with | Sum.inl _ => .ret | Sum.inr _ => .exit 2) (fun r => match r with | Sum.inl _ => [(2, .v (.bool false))] | Sum.inr _ => [(1, .op 0 1 0 0), (2, .v (.bool false))]) (fun r => match r with | Sum.inl _ => [] | Sum.inr _ => [.box 31 (c31 a1) false]) := by
  refine loop_sound3 (fun s q h => ?_) (fun r => ?_)
  · replace h : palingref15_rest_L2 a1 s = some q := h; revert h; revert s; intro v24 h
    unfold palingref15_rest_L2 at h
    rcases ite_out h with ⟨h25, h⟩ | ⟨h25, h⟩
    · obtain ⟨x26, h27, h⟩ := bind_out h
      obtain ⟨r28, h29, h⟩ := bind_out h
      rcases ite_out h with ⟨h30, h⟩ | ⟨h30, h⟩
      · injection h with h; subst h; exact runLp_sound mixedOrders (live := [2]) (ids := []) (π := [.dec true, .row (c92 x26), .callv (.v (.bool r28)), .dec true]) (hx := by kernel_rfl) (hps := pc (h25) <| pc (ob92 h27) <| pc (k_palingref15_Place h29) <| pc (h30) <| pn)
      · obtain ⟨x31, h32, h⟩ := bind_out h
        rcases ite_out h with ⟨h33, h⟩ | ⟨h33, h⟩
        · injection h with h; subst h; exact runLp_sound mixedOrders (live := [2]) (ids := []) (π := [.dec true, .row (c92 x26), .callv (.v (.bool r28)), .dec false, .row (c92 x31), .dec true]) (hx := by kernel_rfl) (hps := pc (h25) <| pc (ob92 h27) <| pc (k_palingref15_Place h29) <| pc (h30) <| pc (ob92 h32) <| pc (h33) <| pn)
        · injection h with h; subst h; exact runLp_sound mixedOrders (live := [1, 2, 6]) (ids := [0]) (π := [.dec true, .row (c92 x26), .callv (.v (.bool r28)), .dec false, .row (c92 x31), .dec false]) (hx := by kernel_rfl) (hps := pc (h25) <| pc (ob92 h27) <| pc (k_palingref15_Place h29) <| pc (h30) <| pc (ob92 h32) <| pc (h33) <| pn)
    · injection h with h; subst h; exact runLp_sound mixedOrders (live := [1, 2]) (ids := [0]) (π := [.dec false]) (hx := by kernel_rfl) (hps := pc (h25) <| pn)
  · rcases r with _ | _ <;> exact Ex.noConfusion

theorem k_palingref15_rest_L3 {a1 : Api_Net} : LoopOK Try.prog UU 0 192 (subC (codeOf Try.f66) [1, 1, 1, 0, 1, 0, 0]) (ρ := Unit ⊕ Unit) (palingref15_rest_L3 a1)
    (fun v36 : Int => ([(1, .op 0 1 0 0), (2, .v (.bool false)), (7, .v (.int .i64 v36))] : Fr DD)) (fun v36 : Int => ([.box 31 (c31 a1) false] : Heap DD)) (fun r => match r with | Sum.inl _ => .ret | Sum.inr _ => .exit 4) (fun r => match r with | Sum.inl _ => [(2, .v (.bool false))] | Sum.inr _ => [(1, .op 0 1 0 0), (2, .v (.bool false))]) (fun r => match r with | Sum.inl _ => [] | Sum.inr _ => [.box 31 (c31 a1) false]) := by
  refine loop_sound3 (fun s q h => ?_) (fun r => ?_)
  · replace h : palingref15_rest_L3 a1 s = some q := h; revert h; revert s; intro v36 h
    unfold palingref15_rest_L3 at h
    rcases ite_out h with ⟨h37, h⟩ | ⟨h37, h⟩
    · obtain ⟨x38, h39, h⟩ := bind_out h
      obtain ⟨r40, h41, h⟩ := bind_out h
      rcases ite_out h with ⟨h42, h⟩ | ⟨h42, h⟩
      · injection h with h; subst h; exact runLp_sound mixedOrders (live := [2]) (ids := []) (π := [.dec true, .row (c94 x38), .callv (.v (.bool r40)), .dec true]) (hx := by kernel_rfl) (hps := pc (h37) <| pc (ob94 h39) <| pc (k_palingref15_Place h41) <| pc (h42) <| pn)
      · obtain ⟨r43, h44, h⟩ := bind_out h
        rcases ite_out h with ⟨h45, h⟩ | ⟨h45, h⟩
        · injection h with h; subst h; exact runLp_sound mixedOrders (live := [2]) (ids := []) (π := [.dec true, .row (c94 x38), .callv (.v (.bool r40)), .dec false, .callv (.v (.bool r43)), .dec true]) (hx := by kernel_rfl) (hps := pc (h37) <| pc (ob94 h39) <| pc (k_palingref15_Place h41) <| pc (h42) <| pc (k_palingref15_rising h44) <| pc (h45) <| pn)
        · obtain ⟨r46, h47, h⟩ := bind_out h
          rcases ite_out h with ⟨h48, h⟩ | ⟨h48, h⟩
          · injection h with h; subst h; exact runLp_sound mixedOrders (live := [2]) (ids := []) (π := [.dec true, .row (c94 x38), .callv (.v (.bool r40)), .dec false, .callv (.v (.bool r43)), .dec false, .callv (.v (.bool r46)), .dec true]) (hx := by kernel_rfl) (hps := pc (h37) <| pc (ob94 h39) <| pc (k_palingref15_Place h41) <| pc (h42) <| pc (k_palingref15_rising h44) <| pc (h45) <| pc (k_palingref15_rising h47) <| pc (h48) <| pn)
          · injection h with h; subst h; exact runLp_sound mixedOrders (live := [1, 2, 7]) (ids := [0]) (π := [.dec true, .row (c94 x38), .callv (.v (.bool r40)), .dec false, .callv (.v (.bool r43)), .dec false, .callv (.v (.bool r46)), .dec false]) (hx := by kernel_rfl) (hps := pc (h37) <| pc (ob94 h39) <| pc (k_palingref15_Place h41) <| pc (h42) <| pc (k_palingref15_rising h44) <| pc (h45) <| pc (k_palingref15_rising h47) <| pc (h48) <| pn)
    · injection h with h; subst h; exact runLp_sound mixedOrders (live := [1, 2]) (ids := [0]) (π := [.dec false]) (hx := by kernel_rfl) (hps := pc (h37) <| pn)
  · rcases r with _ | _ <;> exact Ex.noConfusion

theorem k_palingref15_rest_L4 {a1 : Api_Net} : LoopOK Try.prog UU 0 192 (subC (codeOf Try.f66) [1, 1, 1, 1, 0, 1, 0, 0]) (ρ := Unit ⊕ Unit) (palingref15_rest_L4 a1)
    (fun v51 : Int => ([(1, .op 0 1 0 0), (2, .v (.bool false)), (9, .v (.int .i64 v51))] : Fr DD)) (fun v51 : Int => ([.box 31 (c31 a1) false] : Heap DD)) (fun r => match r with | Sum.inl _ => .ret | Sum.inr _ => .exit 6) (fun r => match r with | Sum.inl _ => [(2, .v (.bool false))] | Sum.inr _ => [(2, .v (.bool false))]) (fun r => match r with | Sum.inl _ => [] | Sum.inr _ => []) := by
  refine loop_sound3 (fun s q h => ?_) (fun r => ?_)
  · replace h : palingref15_rest_L4 a1 s = some q := h; revert h; revert s; intro v51 h
    unfold palingref15_rest_L4 at h
    rcases ite_out h with ⟨h52, h⟩ | ⟨h52, h⟩
    · obtain ⟨x53, h54, h⟩ := bind_out h
      obtain ⟨r55, h56, h⟩ := bind_out h
      rcases ite_out h with ⟨h57, h⟩ | ⟨h57, h⟩
      · injection h with h; subst h; exact runLp_sound mixedOrders (live := [2]) (ids := []) (π := [.dec true, .row (c130 x53), .callv (.v (.bool r55)), .dec true]) (hx := by kernel_rfl) (hps := pc (h52) <| pc (ob130 h54) <| pc (k_palingref15_Place h56) <| pc (h57) <| pn)
      · obtain ⟨r58, h59, h⟩ := bind_out h
        rcases ite_out h with ⟨h60, h⟩ | ⟨h60, h⟩
        · injection h with h; subst h; exact runLp_sound mixedOrders (live := [2]) (ids := []) (π := [.dec true, .row (c130 x53), .callv (.v (.bool r55)), .dec false, .callv (.v (.bool r58)), .dec true]) (hx := by kernel_rfl) (hps := pc (h52) <| pc (ob130 h54) <| pc (k_palingref15_Place h56) <| pc (h57) <| pc (k_palingref15_Place h59) <| pc (h60) <| pn)
        · rcases ite_out h with ⟨h61, h⟩ | ⟨h61, h⟩
          · injection h with h; subst h; exact runLp_sound mixedOrders (live := [2]) (ids := []) (π := [.dec true, .row (c130 x53), .callv (.v (.bool r55)), .dec false, .callv (.v (.bool r58)), .dec false, .dec true]) (hx := by kernel_rfl) (hps := pc (h52) <| pc (ob130 h54) <| pc (k_palingref15_Place h56) <| pc (h57) <| pc (k_palingref15_Place h59) <| pc (h60) <| pc (h61) <| pn)
          · rcases ite_out h with ⟨h62, h⟩ | ⟨h62, h⟩
            · injection h with h; subst h; exact runLp_sound mixedOrders (live := [2]) (ids := []) (π := [.dec true, .row (c130 x53), .callv (.v (.bool r55)), .dec false, .callv (.v (.bool r58)), .dec false, .dec false, .dec true]) (hx := by kernel_rfl) (hps := pc (h52) <| pc (ob130 h54) <| pc (k_palingref15_Place h56) <| pc (h57) <| pc (k_palingref15_Place h59) <| pc (h60) <| pc (h61) <| pc (h62) <| pn)
            · obtain ⟨x63, h64, h⟩ := bind_out h
              obtain ⟨x65, h66, h⟩ := bind_out h
              rcases ite_out h with ⟨h67, h⟩ | ⟨h67, h⟩
              · injection h with h; subst h; exact runLp_sound mixedOrders (live := [2]) (ids := []) (π := [.dec true, .row (c130 x53), .callv (.v (.bool r55)), .dec false, .callv (.v (.bool r58)), .dec false, .dec false, .dec false, .row (c40 x63), .row (c94 x65), .dec true]) (hx := by kernel_rfl) (hps := pc (h52) <| pc (ob130 h54) <| pc (k_palingref15_Place h56) <| pc (h57) <| pc (k_palingref15_Place h59) <| pc (h60) <| pc (h61) <| pc (h62) <| pc (ob40 h64) <| pc (ob94 h66) <| pc (h67) <| pn)
              · obtain ⟨x68, h69, h⟩ := bind_out h
                rcases ite_out h with ⟨h70, h⟩ | ⟨h70, h⟩
                · injection h with h; subst h; exact runLp_sound mixedOrders (live := [2]) (ids := []) (π := [.dec true, .row (c130 x53), .callv (.v (.bool r55)), .dec false, .callv (.v (.bool r58)), .dec false, .dec false, .dec false, .row (c40 x63), .row (c94 x65), .dec false, .row (c40 x68), .dec true]) (hx := by kernel_rfl) (hps := pc (h52) <| pc (ob130 h54) <| pc (k_palingref15_Place h56) <| pc (h57) <| pc (k_palingref15_Place h59) <| pc (h60) <| pc (h61) <| pc (h62) <| pc (ob40 h64) <| pc (ob94 h66) <| pc (h67) <| pc (ob40 h69) <| pc (h70) <| pn)
                · injection h with h; subst h; exact runLp_sound mixedOrders (live := [1, 2, 9]) (ids := [0]) (π := [.dec true, .row (c130 x53), .callv (.v (.bool r55)), .dec false, .callv (.v (.bool r58)), .dec false, .dec false, .dec false, .row (c40 x63), .row (c94 x65), .dec false, .row (c40 x68), .dec false]) (hx := by kernel_rfl) (hps := pc (h52) <| pc (ob130 h54) <| pc (k_palingref15_Place h56) <| pc (h57) <| pc (k_palingref15_Place h59) <| pc (h60) <| pc (h61) <| pc (h62) <| pc (ob40 h64) <| pc (ob94 h66) <| pc (h67) <| pc (ob40 h69) <| pc (h70) <| pn)
    · injection h with h; subst h; exact runLp_sound mixedOrders (live := [2]) (ids := []) (π := [.dec false]) (hx := by kernel_rfl) (hps := pc (h52) <| pn)
  · rcases r with _ | _ <;> exact Ex.noConfusion

theorem k_palingref15_rest {a1 : Api_Net} {r : Bool} (h : palingref15_rest a1 = some r) :
    CallsOK Try.prog UU 66 [.agg (c31 a1)] [] (.v (.bool r)) [] := by
  unfold palingref15_rest at h
  obtain ⟨r23, h22, h⟩ := bind_out h
  rcases r23 with _ | _
  · injection h with h; subst h; exact runFn_sound mixedOrders Try.func66 rfl (keep := none) (π := [.sum [1, 2, 3] [0] .ret [(2, .v (.bool false))] []]) (hrun := by kernel_rfl) (hps := pc (k_palingref15_rest_L1 _ _ h22) <| pn)
  · obtain ⟨r35, h34, h⟩ := bind_out h
    rcases r35 with _ | _
    · injection h with h; subst h; exact runFn_sound mixedOrders Try.func66 rfl (keep := none) (π := [.sum [1, 2, 3] [0] (.exit 0) [(1, .op 0 1 0 0), (2, .v (.bool false))] [.box 31 (c31 a1) false], .sum [1, 2, 6] [0] .ret [(2, .v (.bool false))] []]) (hrun := by kernel_rfl) (hps := pc (k_palingref15_rest_L1 _ _ h22) <| pc (k_palingref15_rest_L2 _ _ h34) <| pn)
    · obtain ⟨r50, h49, h⟩ := bind_out h
      rcases r50 with _ | _
      · injection h with h; subst h; exact runFn_sound mixedOrders Try.func66 rfl (keep := none) (π := [.sum [1, 2, 3] [0] (.exit 0) [(1, .op 0 1 0 0), (2, .v (.bool false))] [.box 31 (c31 a1) false], .sum [1, 2, 6] [0] (.exit 2) [(1, .op 0 1 0 0), (2, .v (.bool false))] [.box 31 (c31 a1) false], .sum [1, 2, 7] [0] .ret [(2, .v (.bool false))] []]) (hrun := by kernel_rfl) (hps := pc (k_palingref15_rest_L1 _ _ h22) <| pc (k_palingref15_rest_L2 _ _ h34) <| pc (k_palingref15_rest_L3 _ _ h49) <| pn)
      · obtain ⟨r72, h71, h⟩ := bind_out h
        rcases r72 with _ | _
        · injection h with h; subst h; exact runFn_sound mixedOrders Try.func66 rfl (keep := none) (π := [.sum [1, 2, 3] [0] (.exit 0) [(1, .op 0 1 0 0), (2, .v (.bool false))] [.box 31 (c31 a1) false], .sum [1, 2, 6] [0] (.exit 2) [(1, .op 0 1 0 0), (2, .v (.bool false))] [.box 31 (c31 a1) false], .sum [1, 2, 7] [0] (.exit 4) [(1, .op 0 1 0 0), (2, .v (.bool false))] [.box 31 (c31 a1) false], .sum [1, 2, 9] [0] .ret [(2, .v (.bool false))] []]) (hrun := by kernel_rfl) (hps := pc (k_palingref15_rest_L1 _ _ h22) <| pc (k_palingref15_rest_L2 _ _ h34) <| pc (k_palingref15_rest_L3 _ _ h49) <| pc (k_palingref15_rest_L4 _ _ h71) <| pn)
        · injection h with h; subst h; exact runFn_sound mixedOrders Try.func66 rfl (keep := none) (π := [.sum [1, 2, 3] [0] (.exit 0) [(1, .op 0 1 0 0), (2, .v (.bool false))] [.box 31 (c31 a1) false], .sum [1, 2, 6] [0] (.exit 2) [(1, .op 0 1 0 0), (2, .v (.bool false))] [.box 31 (c31 a1) false], .sum [1, 2, 7] [0] (.exit 4) [(1, .op 0 1 0 0), (2, .v (.bool false))] [.box 31 (c31 a1) false], .sum [1, 2, 9] [0] (.exit 6) [(2, .v (.bool false))] []]) (hrun := by kernel_rfl) (hps := pc (k_palingref15_rest_L1 _ _ h22) <| pc (k_palingref15_rest_L2 _ _ h34) <| pc (k_palingref15_rest_L3 _ _ h49) <| pc (k_palingref15_rest_L4 _ _ h71) <| pn)

theorem k_palingref15_Right {a1 : Api_Net} {r : Bool} (h : palingref15_Right a1 = some r) :
    CallsOK Try.prog UU 19 [.agg (c31 a1)] [] (.v (.bool r)) [] := by
  unfold palingref15_Right at h
  rcases ite_out h with ⟨h2, h⟩ | ⟨h2, h⟩
  · injection h with h; subst h; exact runFn_sound mixedOrders Try.func19 rfl (keep := none) (π := [.dec true]) (hrun := by kernel_rfl) (hps := pc (h2) <| pn)
  · rcases ite_out h with ⟨h3, h⟩ | ⟨h3, h⟩
    · injection h with h; subst h; exact runFn_sound mixedOrders Try.func19 rfl (keep := none) (π := [.dec false, .dec true]) (hrun := by kernel_rfl) (hps := pc (h2) <| pc (h3) <| pn)
    · rcases ite_out h with ⟨h4, h⟩ | ⟨h4, h⟩
      · injection h with h; subst h; exact runFn_sound mixedOrders Try.func19 rfl (keep := none) (π := [.dec false, .dec false, .dec true]) (hrun := by kernel_rfl) (hps := pc (h2) <| pc (h3) <| pc (h4) <| pn)
      · rcases ite_out h with ⟨h5, h⟩ | ⟨h5, h⟩
        · injection h with h; subst h; exact runFn_sound mixedOrders Try.func19 rfl (keep := none) (π := [.dec false, .dec false, .dec false, .dec true]) (hrun := by kernel_rfl) (hps := pc (h2) <| pc (h3) <| pc (h4) <| pc (h5) <| pn)
        · rcases ite_out h with ⟨h6, h⟩ | ⟨h6, h⟩
          · injection h with h; subst h; exact runFn_sound mixedOrders Try.func19 rfl (keep := none) (π := [.dec false, .dec false, .dec false, .dec false, .dec true]) (hrun := by kernel_rfl) (hps := pc (h2) <| pc (h3) <| pc (h4) <| pc (h5) <| pc (h6) <| pn)
          · rcases ite_out h with ⟨h7, h⟩ | ⟨h7, h⟩
            · injection h with h; subst h; exact runFn_sound mixedOrders Try.func19 rfl (keep := none) (π := [.dec false, .dec false, .dec false, .dec false, .dec false, .dec true]) (hrun := by kernel_rfl) (hps := pc (h2) <| pc (h3) <| pc (h4) <| pc (h5) <| pc (h6) <| pc (h7) <| pn)
            · rcases ite_out h with ⟨h8, h⟩ | ⟨h8, h⟩
              · injection h with h; subst h; exact runFn_sound mixedOrders Try.func19 rfl (keep := none) (π := [.dec false, .dec false, .dec false, .dec false, .dec false, .dec false, .dec true]) (hrun := by kernel_rfl) (hps := pc (h2) <| pc (h3) <| pc (h4) <| pc (h5) <| pc (h6) <| pc (h7) <| pc (h8) <| pn)
              · rcases ite_out h with ⟨h9, h⟩ | ⟨h9, h⟩
                · injection h with h; subst h; exact runFn_sound mixedOrders Try.func19 rfl (keep := none) (π := [.dec false, .dec false, .dec false, .dec false, .dec false, .dec false, .dec false, .dec true]) (hrun := by kernel_rfl) (hps := pc (h2) <| pc (h3) <| pc (h4) <| pc (h5) <| pc (h6) <| pc (h7) <| pc (h8) <| pc (h9) <| pn)
                · obtain ⟨r10, h11, h⟩ := bind_out h
                  rcases ite_out h with ⟨h12, h⟩ | ⟨h12, h⟩
                  · obtain ⟨r13, h14, h⟩ := bind_out h
                    rcases ite_out h with ⟨h15, h⟩ | ⟨h15, h⟩
                    · obtain ⟨r16, h17, h⟩ := bind_out h
                      rcases ite_out h with ⟨h18, h⟩ | ⟨h18, h⟩
                      · obtain ⟨r19, h20, h⟩ := bind_out h
                        injection h with h; subst h; exact runFn_sound mixedOrders Try.func19 rfl (keep := none) (π := [.dec false, .dec false, .dec false, .dec false, .dec false, .dec false, .dec false, .dec false, .callv (.v (.bool r10)), .dec true, .callv (.v (.bool r13)), .dec true, .callv (.v (.bool r16)), .dec true, .callv (.v (.bool r19))]) (hrun := by kernel_rfl) (hps := pc (h2) <| pc (h3) <| pc (h4) <| pc (h5) <| pc (h6) <| pc (h7) <| pc (h8) <| pc (h9) <| pc (k_palingref15_domains h11) <| pc (h12) <| pc (k_palingref15_ports h14) <| pc (h15) <| pc (k_palingref15_links h17) <| pc (h18) <| pc (k_palingref15_rest h20) <| pn)
                      · injection h with h; subst h; exact runFn_sound mixedOrders Try.func19 rfl (keep := none) (π := [.dec false, .dec false, .dec false, .dec false, .dec false, .dec false, .dec false, .dec false, .callv (.v (.bool r10)), .dec true, .callv (.v (.bool r13)), .dec true, .callv (.v (.bool r16)), .dec false]) (hrun := by kernel_rfl) (hps := pc (h2) <| pc (h3) <| pc (h4) <| pc (h5) <| pc (h6) <| pc (h7) <| pc (h8) <| pc (h9) <| pc (k_palingref15_domains h11) <| pc (h12) <| pc (k_palingref15_ports h14) <| pc (h15) <| pc (k_palingref15_links h17) <| pc (h18) <| pn)
                    · injection h with h; subst h; exact runFn_sound mixedOrders Try.func19 rfl (keep := none) (π := [.dec false, .dec false, .dec false, .dec false, .dec false, .dec false, .dec false, .dec false, .callv (.v (.bool r10)), .dec true, .callv (.v (.bool r13)), .dec false]) (hrun := by kernel_rfl) (hps := pc (h2) <| pc (h3) <| pc (h4) <| pc (h5) <| pc (h6) <| pc (h7) <| pc (h8) <| pc (h9) <| pc (k_palingref15_domains h11) <| pc (h12) <| pc (k_palingref15_ports h14) <| pc (h15) <| pn)
                  · injection h with h; subst h; exact runFn_sound mixedOrders Try.func19 rfl (keep := none) (π := [.dec false, .dec false, .dec false, .dec false, .dec false, .dec false, .dec false, .dec false, .callv (.v (.bool r10)), .dec false]) (hrun := by kernel_rfl) (hps := pc (h2) <| pc (h3) <| pc (h4) <| pc (h5) <| pc (h6) <| pc (h7) <| pc (h8) <| pc (h9) <| pc (k_palingref15_domains h11) <| pc (h12) <| pn)

theorem k_palingref23_Right_J2 {a1 : Api_Net} {a2 : List Int} {v7 : Int} {r : Unit ⊕ Unit} (h : palingref23_Right_J2 a1 a2 v7 = some r) :
    ExecOK Try.prog UU 0 58 (subC (codeOf Try.f35) [1, 1, 0, 1, 0, 0, 1, 0, 0, 0]) [(1, .sl 3 a2), (2, .op 0 1 0 0), (4, .v (.bool false)), (5, .v (.int .i64 v7))] [.box 31 (c31 a1) false] ((fun r => match r with | Sum.inl _ => .ret | Sum.inr _ => .nor) r) ((fun r => match r with | Sum.inl _ => [(4, .v (.bool false))] | Sum.inr _ => [(1, .sl 3 a2), (2, .op 0 1 0 0), (4, .v (.bool false)), (5, .v (.int .i64 v7))]) r) ((fun r => match r with | Sum.inl _ => [] | Sum.inr _ => [.box 31 (c31 a1) false]) r) := by
  unfold palingref23_Right_J2 at h
  obtain ⟨x9, h10, h⟩ := bind_out h
  rcases ite_out h with ⟨h11, h⟩ | ⟨h11, h⟩
  · obtain ⟨x12, h13, h⟩ := bind_out h
    rcases ite_out h with ⟨h14, h⟩ | ⟨h14, h⟩
    · injection h with h; subst h; exact runLp_sound mixedOrders (live := [4]) (ids := []) (π := [.row (c60 x9), .dec true, .row (c3 x12), .dec true]) (hx := by kernel_rfl) (hps := pc (ob60 h10) <| pc (h11) <| pc (ob3 h13) <| pc (h14) <| pn)
    · injection h with h; subst h; exact runLp_sound mixedOrders (live := [1, 2, 4, 5]) (ids := [0]) (π := [.row (c60 x9), .dec true, .row (c3 x12), .dec false]) (hx := by kernel_rfl) (hps := pc (ob60 h10) <| pc (h11) <| pc (ob3 h13) <| pc (h14) <| pn)
  · injection h with h; subst h; exact runLp_sound mixedOrders (live := [1, 2, 4, 5]) (ids := [0]) (π := [.row (c60 x9), .dec false]) (hx := by kernel_rfl) (hps := pc (ob60 h10) <| pc (h11) <| pn)

theorem k_palingref23_Right_L1 {a1 : Api_Net} {a2 : List Int} : LoopOK Try.prog UU 0 58 (subC (codeOf Try.f35) [1, 1, 0, 1, 0, 0]) (ρ := Unit ⊕ Unit) (palingref23_Right_L1 a1 a2)
    (fun v7 : Int => ([(1, .sl 3 a2), (2, .op 0 1 0 0), (4, .v (.bool false)), (5, .v (.int .i64 v7))] : Fr DD)) (fun v7 : Int => ([.box 31 (c31 a1) false] : Heap DD)) (fun r => match r with | Sum.inl _ => .ret | Sum.inr _ => .exit 0) (fun r => match r with | Sum.inl _ => [(4, .v (.bool false))] | Sum.inr _ => [(4, .v (.bool false))]) (fun r => match r with | Sum.inl _ => [] | Sum.inr _ => []) := by
  refine loop_sound3 (fun s q h => ?_) (fun r => ?_)
  · replace h : palingref23_Right_L1 a1 a2 s = some q := h; revert h; revert s; intro v7 h
    unfold palingref23_Right_L1 at h
    rcases ite_out h with ⟨h8, h⟩ | ⟨h8, h⟩
    · obtain ⟨r16, h15, h⟩ := bind_out h
      rcases r16 with _ | _
      · injection h with h; subst h; exact runLp_sound mixedOrders (live := [4]) (ids := []) (π := [.dec true, .skp, .cut [1, 2, 4, 5] [0] .ret [(4, .v (.bool false))] []]) (hx := by kernel_rfl) (hps := pc (h8) <| pc (k_palingref23_Right_J2 h15) <| pn)
      · obtain ⟨x17, h18, h⟩ := bind_out h
        rcases ite_out h with ⟨h19, h⟩ | ⟨h19, h⟩
        · obtain ⟨x20, h21, h⟩ := bind_out h
          rcases ite_out h with ⟨h22, h⟩ | ⟨h22, h⟩
          · injection h with h; subst h; exact runLp_sound mixedOrders (live := [4]) (ids := []) (π := [.dec true, .skp, .cut [1, 2, 4, 5] [0] .nor [(1, .sl 3 a2), (2, .op 0 1 0 0), (4, .v (.bool false)), (5, .v (.int .i64 v7))] [.box 31 (c31 a1) false], .row (c60 x17), .dec true, .row (c3 x20), .dec true]) (hx := by kernel_rfl) (hps := pc (h8) <| pc (k_palingref23_Right_J2 h15) <| pc (ob60 h18) <| pc (h19) <| pc (ob3 h21) <| pc (h22) <| pn)
          · obtain ⟨x23, h24, h⟩ := bind_out h
            rcases ite_out h with ⟨h25, h⟩ | ⟨h25, h⟩
            · injection h with h; subst h; exact runLp_sound mixedOrders (live := [4]) (ids := []) (π := [.dec true, .skp, .cut [1, 2, 4, 5] [0] .nor [(1, .sl 3 a2), (2, .op 0 1 0 0), (4, .v (.bool false)), (5, .v (.int .i64 v7))] [.box 31 (c31 a1) false], .row (c60 x17), .dec true, .row (c3 x20), .dec false, .row (c3 x23), .dec true]) (hx := by kernel_rfl) (hps := pc (h8) <| pc (k_palingref23_Right_J2 h15) <| pc (ob60 h18) <| pc (h19) <| pc (ob3 h21) <| pc (h22) <| pc (ob3 h24) <| pc (h25) <| pn)
            · injection h with h; subst h; exact runLp_sound mixedOrders (live := [1, 2, 4, 5]) (ids := [0]) (π := [.dec true, .skp, .cut [1, 2, 4, 5] [0] .nor [(1, .sl 3 a2), (2, .op 0 1 0 0), (4, .v (.bool false)), (5, .v (.int .i64 v7))] [.box 31 (c31 a1) false], .row (c60 x17), .dec true, .row (c3 x20), .dec false, .row (c3 x23), .dec false]) (hx := by kernel_rfl) (hps := pc (h8) <| pc (k_palingref23_Right_J2 h15) <| pc (ob60 h18) <| pc (h19) <| pc (ob3 h21) <| pc (h22) <| pc (ob3 h24) <| pc (h25) <| pn)
        · injection h with h; subst h; exact runLp_sound mixedOrders (live := [1, 2, 4, 5]) (ids := [0]) (π := [.dec true, .skp, .cut [1, 2, 4, 5] [0] .nor [(1, .sl 3 a2), (2, .op 0 1 0 0), (4, .v (.bool false)), (5, .v (.int .i64 v7))] [.box 31 (c31 a1) false], .row (c60 x17), .dec false]) (hx := by kernel_rfl) (hps := pc (h8) <| pc (k_palingref23_Right_J2 h15) <| pc (ob60 h18) <| pc (h19) <| pn)
    · injection h with h; subst h; exact runLp_sound mixedOrders (live := [4]) (ids := []) (π := [.dec false]) (hx := by kernel_rfl) (hps := pc (h8) <| pn)
  · rcases r with _ | _ <;> exact Ex.noConfusion

theorem k_palingref23_Right {a1 : Api_Net} {a2 : List Int} {r : Bool} (h : palingref23_Right a1 a2 = some r) :
    CallsOK Try.prog UU 35 [.agg (c31 a1), .sl 3 a2] [] (.v (.bool r)) [] := by
  unfold palingref23_Right at h
  rcases ite_out h with ⟨h3, h⟩ | ⟨h3, h⟩
  · injection h with h; subst h; exact runFn_sound mixedOrders Try.func35 rfl (keep := none) (π := [.dec true]) (hrun := by kernel_rfl) (hps := pc (h3) <| pn)
  · obtain ⟨r4, h5, h⟩ := bind_out h
    rcases ite_out h with ⟨h6, h⟩ | ⟨h6, h⟩
    · injection h with h; subst h; exact runFn_sound mixedOrders Try.func35 rfl (keep := none) (π := [.dec false, .callv (.v (.bool r4)), .dec true]) (hrun := by kernel_rfl) (hps := pc (h3) <| pc (k_palingref15_Right h5) <| pc (h6) <| pn)
    · obtain ⟨r27, h26, h⟩ := bind_out h
      rcases r27 with _ | _
      · injection h with h; subst h; exact runFn_sound mixedOrders Try.func35 rfl (keep := none) (π := [.dec false, .callv (.v (.bool r4)), .dec false, .sum [1, 2, 4, 5] [0] .ret [(4, .v (.bool false))] []]) (hrun := by kernel_rfl) (hps := pc (h3) <| pc (k_palingref15_Right h5) <| pc (h6) <| pc (k_palingref23_Right_L1 _ _ h26) <| pn)
      · injection h with h; subst h; exact runFn_sound mixedOrders Try.func35 rfl (keep := none) (π := [.dec false, .callv (.v (.bool r4)), .dec false, .sum [1, 2, 4, 5] [0] (.exit 0) [(4, .v (.bool false))] []]) (hrun := by kernel_rfl) (hps := pc (h3) <| pc (k_palingref15_Right h5) <| pc (h6) <| pc (k_palingref23_Right_L1 _ _ h26) <| pn)

theorem k_owners_Of_L1 {a1 : List Int} {a2 : Int} : LoopOK Try.prog UU 0 24 (subC (codeOf Try.f36) [1, 1, 0, 1, 0, 0]) (fun s : (List Int) × Int => match s with | (l3, v4) => owners_Of_L1 a1 a2 l3 v4)
    (fun s : (List Int) × Int => (match s with | (l3, v4) => [(1, .v (.int .i64 a2)), (4, .os 0 0), (5, .os 1 (List.length l3)), (8, .sl 3 a1), (9, .v (.int .i64 (a1.length : Int))), (10, .v (.int .i64 v4))] : Fr DD)) (fun s : (List Int) × Int => (match s with | (l3, v4) => [.arr 3 [] 0 false, .arr 3 l3 (List.length l3) false] : Heap DD)) (fun r => match r with | l12 => .exit 0) (fun r => match r with | l12 => [(4, .os 0 0), (5, .os 1 (List.length l12))]) (fun r => match r with | l12 => [.arr 3 [] 0 false, .arr 3 l12 (List.length l12) false]) := by
  refine loop_sound3 (fun s q h => ?_) (fun r => ?_)
  · obtain ⟨l3, v4⟩ := s; replace h : owners_Of_L1 a1 a2 l3 v4 = some q := h
    unfold owners_Of_L1 at h
    rcases ite_out h with ⟨h5, h⟩ | ⟨h5, h⟩
    · obtain ⟨x6, h7, h⟩ := bind_out h
      rcases ite_out h with ⟨h8, h⟩ | ⟨h8, h⟩
      · rcases ite_out h with ⟨h9, h⟩ | ⟨h9, h⟩
        · injection h with h; subst h; exact runLp_sound mixedOrders (live := [1, 4, 5, 8, 9, 10]) (ids := [0, 1]) (π := [.dec true, .row (c3 x6), .dec true, .obj [] (.arr 3 [v4] (List.length [v4]) false), .obj [2] (.arr 3 (l3 ++ [v4]) (List.length (l3 ++ [v4])) false)]) (hx := by kernel_rfl) (hps := pc (h5) <| pc (ob3 h7) <| pc (h8) <| pc (bs_ob 3 [v4]) <| pc (app_ob 3 (n := (List.length l3)) (l := l3) (xs := [v4]) h9) <| pc ((rfl : ((List.length [v4]) : Nat) = (List.length [v4]))) <| pn)
        · cases h
      · injection h with h; subst h; exact runLp_sound mixedOrders (live := [1, 4, 5, 8, 9, 10]) (ids := [0, 1]) (π := [.dec true, .row (c3 x6), .dec false]) (hx := by kernel_rfl) (hps := pc (h5) <| pc (ob3 h7) <| pc (h8) <| pn)
    · injection h with h; subst h; exact runLp_sound mixedOrders (live := [4, 5]) (ids := [0, 1]) (π := [.dec false]) (hx := by kernel_rfl) (hps := pc (h5) <| pn)
  · exact Ex.noConfusion

theorem k_owners_Of {a1 : List Int} {a2 : Int} {r : ((List Int))} (h : owners_Of a1 a2 = some r) :
    CallsOK Try.prog UU 36 [.sl 3 a1, .v (.int .i64 a2)] [] ((fun r => match r with | l15 => .os 0 (List.length l15)) r) ((fun r => match r with | l15 => [.arr 3 l15 (List.length l15) false]) r) := by
  unfold owners_Of at h
  obtain ⟨l12, h13, h⟩ := bind_out h
  injection h with h; subst h; exact runFn_sound mixedOrders Try.func36 rfl (keep := some [1]) (π := [.sum [1, 4, 5, 8, 9, 10] [0, 1] (.exit 0) [(4, .os 0 0), (5, .os 1 (List.length l12))] [.arr 3 [] 0 false, .arr 3 l12 (List.length l12) false]]) (hrun := by kernel_rfl) (hps := pc (k_owners_Of_L1 _ _ h13) <| pn)

theorem k_palingref23_Of_L1 {a1 : List Int} {a2 : Int} : LoopOK Try.prog UU 0 24 (subC (codeOf Try.f37) [1, 1, 0, 1, 0, 0]) (fun s : (List Int) × Int => match s with | (l3, v4) => palingref23_Of_L1 a1 a2 l3 v4)
    (fun s : (List Int) × Int => (match s with | (l3, v4) => [(0, .sl 3 a1), (1, .v (.int .i64 a2)), (4, .os 0 0), (5, .os 1 (List.length l3)), (6, .v (.int .i64 v4))] : Fr DD)) (fun s : (List Int) × Int => (match s with | (l3, v4) => [.arr 3 [] 0 false, .arr 3 l3 (List.length l3) false] : Heap DD)) (fun r => match r with | l12 => .exit 0) (fun r => match r with | l12 => [(4, .os 0 0), (5, .os 1 (List.length l12))]) (fun r => match r with | l12 => [.arr 3 [] 0 false, .arr 3 l12 (List.length l12) false]) := by
  refine loop_sound3 (fun s q h => ?_) (fun r => ?_)
  · obtain ⟨l3, v4⟩ := s; replace h : palingref23_Of_L1 a1 a2 l3 v4 = some q := h
    unfold palingref23_Of_L1 at h
    rcases ite_out h with ⟨h5, h⟩ | ⟨h5, h⟩
    · obtain ⟨x6, h7, h⟩ := bind_out h
      rcases ite_out h with ⟨h8, h⟩ | ⟨h8, h⟩
      · rcases ite_out h with ⟨h9, h⟩ | ⟨h9, h⟩
        · injection h with h; subst h; exact runLp_sound mixedOrders (live := [0, 1, 4, 5, 6]) (ids := [0, 1]) (π := [.dec true, .row (c3 x6), .dec true, .obj [] (.arr 3 [v4] (List.length [v4]) false), .obj [2] (.arr 3 (l3 ++ [v4]) (List.length (l3 ++ [v4])) false)]) (hx := by kernel_rfl) (hps := pc (h5) <| pc (ob3 h7) <| pc (h8) <| pc (bs_ob 3 [v4]) <| pc (app_ob 3 (n := (List.length l3)) (l := l3) (xs := [v4]) h9) <| pc ((rfl : ((List.length [v4]) : Nat) = (List.length [v4]))) <| pn)
        · cases h
      · injection h with h; subst h; exact runLp_sound mixedOrders (live := [0, 1, 4, 5, 6]) (ids := [0, 1]) (π := [.dec true, .row (c3 x6), .dec false]) (hx := by kernel_rfl) (hps := pc (h5) <| pc (ob3 h7) <| pc (h8) <| pn)
    · injection h with h; subst h; exact runLp_sound mixedOrders (live := [4, 5]) (ids := [0, 1]) (π := [.dec false]) (hx := by kernel_rfl) (hps := pc (h5) <| pn)
  · exact Ex.noConfusion

theorem k_palingref23_Of {a1 : List Int} {a2 : Int} {r : ((List Int))} (h : palingref23_Of a1 a2 = some r) :
    CallsOK Try.prog UU 37 [.sl 3 a1, .v (.int .i64 a2)] [] ((fun r => match r with | l15 => .os 0 (List.length l15)) r) ((fun r => match r with | l15 => [.arr 3 l15 (List.length l15) false]) r) := by
  unfold palingref23_Of at h
  obtain ⟨l12, h13, h⟩ := bind_out h
  injection h with h; subst h; exact runFn_sound mixedOrders Try.func37 rfl (keep := some [1]) (π := [.sum [0, 1, 4, 5, 6] [0, 1] (.exit 0) [(4, .os 0 0), (5, .os 1 (List.length l12))] [.arr 3 [] 0 false, .arr 3 l12 (List.length l12) false]]) (hrun := by kernel_rfl) (hps := pc (k_palingref23_Of_L1 _ _ h13) <| pn)

theorem k_palingref03_Ints_L1 {a1 : List Int} {a2 : List Int} : LoopOK Try.prog UU 0 26 (subC (codeOf Try.f23) [1, 1, 0, 1, 0, 0]) (ρ := Unit ⊕ Unit) (palingref03_Ints_L1 a1 a2)
    (fun v4 : Int => ([(0, .sl 3 a1), (1, .sl 3 a2), (4, .v (.bool false)), (5, .v (.int .i64 v4))] : Fr DD)) (fun v4 : Int => ([] : Heap DD)) (fun r => match r with | Sum.inl _ => .ret | Sum.inr _ => .exit 0) (fun r => match r with | Sum.inl _ => [(4, .v (.bool false))] | Sum.inr _ => [(4, .v (.bool false))]) (fun r => match r with | Sum.inl _ => [] | Sum.inr _ => []) := by
  refine loop_sound3 (fun s q h => ?_) (fun r => ?_)
  · replace h : palingref03_Ints_L1 a1 a2 s = some q := h; revert h; revert s; intro v4 h
    unfold palingref03_Ints_L1 at h
    rcases ite_out h with ⟨h5, h⟩ | ⟨h5, h⟩
    · obtain ⟨x6, h7, h⟩ := bind_out h
      obtain ⟨x8, h9, h⟩ := bind_out h
      rcases ite_out h with ⟨h10, h⟩ | ⟨h10, h⟩
      · injection h with h; subst h; exact runLp_sound mixedOrders (live := [4]) (ids := []) (π := [.dec true, .row (c3 x6), .row (c3 x8), .dec true]) (hx := by kernel_rfl) (hps := pc (h5) <| pc (ob3 h7) <| pc (ob3 h9) <| pc (h10) <| pn)
      · injection h with h; subst h; exact runLp_sound mixedOrders (live := [0, 1, 4, 5]) (ids := []) (π := [.dec true, .row (c3 x6), .row (c3 x8), .dec false]) (hx := by kernel_rfl) (hps := pc (h5) <| pc (ob3 h7) <| pc (ob3 h9) <| pc (h10) <| pn)
    · injection h with h; subst h; exact runLp_sound mixedOrders (live := [4]) (ids := []) (π := [.dec false]) (hx := by kernel_rfl) (hps := pc (h5) <| pn)
  · rcases r with _ | _ <;> exact Ex.noConfusion

theorem k_palingref03_Ints {a1 : List Int} {a2 : List Int} {r : Bool} (h : palingref03_Ints a1 a2 = some r) :
    CallsOK Try.prog UU 23 [.sl 3 a1, .sl 3 a2] [] (.v (.bool r)) [] := by
  unfold palingref03_Ints at h
  rcases ite_out h with ⟨h3, h⟩ | ⟨h3, h⟩
  · injection h with h; subst h; exact runFn_sound mixedOrders Try.func23 rfl (keep := none) (π := [.dec true]) (hrun := by kernel_rfl) (hps := pc (h3) <| pn)
  · obtain ⟨r12, h11, h⟩ := bind_out h
    rcases r12 with _ | _
    · injection h with h; subst h; exact runFn_sound mixedOrders Try.func23 rfl (keep := none) (π := [.dec false, .sum [0, 1, 4, 5] [] .ret [(4, .v (.bool false))] []]) (hrun := by kernel_rfl) (hps := pc (h3) <| pc (k_palingref03_Ints_L1 _ _ h11) <| pn)
    · injection h with h; subst h; exact runFn_sound mixedOrders Try.func23 rfl (keep := none) (π := [.dec false, .sum [0, 1, 4, 5] [] (.exit 0) [(4, .v (.bool false))] []]) (hrun := by kernel_rfl) (hps := pc (h3) <| pc (k_palingref03_Ints_L1 _ _ h11) <| pn)

theorem k_palinglaw23_OwnersAsks {a1 : Api_Net} {a2 : List Int} {a3 : Int} {r : Bool} (h : palinglaw23_OwnersAsks a1 a2 a3 = some r) :
    CallsOK Try.prog UU 8 [.agg (c31 a1), .sl 3 a2, .v (.int .i64 a3)] [] (.v (.bool r)) [] := by
  unfold palinglaw23_OwnersAsks at h
  obtain ⟨r4, h5, h⟩ := bind_out h
  rcases ite_out h with ⟨h6, h⟩ | ⟨h6, h⟩
  · obtain ⟨r7, h8, h⟩ := bind_out h
    injection h with h; subst h; exact runFn_sound mixedOrders Try.func8 rfl (keep := none) (π := [.callv (.v (.bool r4)), .dec true, .callv (.v (.bool r7))]) (hrun := by kernel_rfl) (hps := pc (k_palinglaw15_Great h5) <| pc (h6) <| pc (k_palinglaw23_works h8) <| pn)
  · rcases ite_out h with ⟨h9, h⟩ | ⟨h9, h⟩
    · obtain ⟨r10, h11, h⟩ := bind_out h
      injection h with h; subst h; exact runFn_sound mixedOrders Try.func8 rfl (keep := none) (π := [.callv (.v (.bool r4)), .dec false, .dec true, .callv (.v (.bool r10))]) (hrun := by kernel_rfl) (hps := pc (k_palinglaw15_Great h5) <| pc (h6) <| pc (h9) <| pc (k_palinglaw23_works h11) <| pn)
    · obtain ⟨r12, h13, h⟩ := bind_out h
      obtain ⟨r14, h15, h⟩ := bind_out h
      rcases ite_out h with ⟨h16, h⟩ | ⟨h16, h⟩
      · obtain ⟨l19, h18, h⟩ := bind_out h
        obtain ⟨l22, h21, h⟩ := bind_out h
        obtain ⟨r23, h24, h⟩ := bind_out h
        rcases ite_out h with ⟨h25, h⟩ | ⟨h25, h⟩
        · obtain ⟨r26, h27, h⟩ := bind_out h
          injection h with h; subst h; exact runFn_sound mixedOrders Try.func8 rfl (keep := none) (π := [.callv (.v (.bool r4)), .dec false, .dec false, .sum [10] [] .nor [] [.box 31 (c31 a1) false, .arr 3 l19 (List.length l19) false], .callv (.v (.bool r12)), .callv (.v (.bool r14)), .dec true, .callo (.os 0 (List.length l19)) [.arr 3 l19 (List.length l19) false], .callo (.os 0 (List.length l22)) [.arr 3 l22 (List.length l22) false], .callv (.v (.bool r23)), .dec true, .callv (.v (.bool r26))]) (hrun := by kernel_rfl) (hps := pc (k_palinglaw15_Great h5) <| pc (h6) <| pc (h9) <| pc (k_owners_Right h13) <| pc (k_palingref23_Right h15) <| pc (h16) <| pc ((rfl : ([.box 31 (c31 a1) false, .arr 3 l19 (List.length l19) false] : Heap DD) = [.box 31 (c31 a1) false, .arr 3 l19 (List.length l19) false])) <| pc (k_owners_Of h18) <| pc (im3 l19) <| pc ((rfl : (.sl 3 a2 : AV DD) = .sl 3 a2)) <| pc ((rfl : (.v (.int .i64 a3) : AV DD) = .v (.int .i64 a3))) <| pc (k_palingref23_Of h21) <| pc (im3 l22) <| pc (k_palingref03_Ints h24) <| pc ((rfl : ((List.length l19) : Nat) = (List.length l19))) <| pc ((rfl : ((List.length l22) : Nat) = (List.length l22))) <| pc (h25) <| pc (k_palinglaw23_works h27) <| pn)
        · injection h with h; subst h; exact runFn_sound mixedOrders Try.func8 rfl (keep := none) (π := [.callv (.v (.bool r4)), .dec false, .dec false, .sum [10] [] .nor [] [.box 31 (c31 a1) false, .arr 3 l19 (List.length l19) false], .callv (.v (.bool r12)), .callv (.v (.bool r14)), .dec true, .callo (.os 0 (List.length l19)) [.arr 3 l19 (List.length l19) false], .callo (.os 0 (List.length l22)) [.arr 3 l22 (List.length l22) false], .callv (.v (.bool r23)), .dec false]) (hrun := by kernel_rfl) (hps := pc (k_palinglaw15_Great h5) <| pc (h6) <| pc (h9) <| pc (k_owners_Right h13) <| pc (k_palingref23_Right h15) <| pc (h16) <| pc ((rfl : ([.box 31 (c31 a1) false, .arr 3 l19 (List.length l19) false] : Heap DD) = [.box 31 (c31 a1) false, .arr 3 l19 (List.length l19) false])) <| pc (k_owners_Of h18) <| pc (im3 l19) <| pc ((rfl : (.sl 3 a2 : AV DD) = .sl 3 a2)) <| pc ((rfl : (.v (.int .i64 a3) : AV DD) = .v (.int .i64 a3))) <| pc (k_palingref23_Of h21) <| pc (im3 l22) <| pc (k_palingref03_Ints h24) <| pc ((rfl : ((List.length l19) : Nat) = (List.length l19))) <| pc ((rfl : ((List.length l22) : Nat) = (List.length l22))) <| pc (h25) <| pn)
      · injection h with h; subst h; exact runFn_sound mixedOrders Try.func8 rfl (keep := none) (π := [.callv (.v (.bool r4)), .dec false, .dec false, .callv (.v (.bool r12)), .callv (.v (.bool r14)), .dec false]) (hrun := by kernel_rfl) (hps := pc (k_palinglaw15_Great h5) <| pc (h6) <| pc (h9) <| pc (k_owners_Right h13) <| pc (k_palingref23_Right h15) <| pc (h16) <| pn)

end Go.Eng
