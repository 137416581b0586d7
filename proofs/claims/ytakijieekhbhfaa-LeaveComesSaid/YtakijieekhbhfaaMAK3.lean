/- Part of the proof of LeaveComes: printed mirrors of the functions, or their contracts. No conditions. -/
import Derived.Test.YtakijieekhbhfaaMAK2
set_option linter.unusedVariables false
set_option maxRecDepth 100000
namespace Go.Eng
open Go Go.Proofs
theorem k_palinglaw28_twins_L2 {a1 : Api_Net} {v2 : Int} {x4 : Api_Device} : LoopOK Try.prog UU 0 84 (subC (codeOf Try.f46) [1, 0, 1, 0, 0, 1, 1, 0, 0, 1, 1, 0, 0]) (ρ := Unit ⊕ Unit) (palinglaw28_twins_L2 a1 v2 x4)
    (fun v6 : Int => ([(1, .op 0 1 0 0), (2, .v (.bool false)), (3, .v (.int .i64 v2)), (4, .op 1 1 0 0), (12, .sl 138 a1.devices), (13, .v (.int .i64 (a1.devices.length : Int))), (14, .v (.int .i64 v2)), (20, .sl 138 a1.devices), (21, .v (.int .i64 (a1.devices.length : Int))), (22, .v (.int .i64 v6))] : Fr DD)) (fun v6 : Int => ([.box 61 (c61 a1) false, .box 138 (c138 x4) false] : Heap DD)) (fun r => match r with | Sum.inl _ => .ret | Sum.inr _ => .exit 2) (fun r => match r with | Sum.inl _ => [(2, .v (.bool true))] | Sum.inr _ => [(1, .op 0 1 0 0), (2, .v (.bool false)), (12, .sl 138 a1.devices), (13, .v (.int .i64 (a1.devices.length : Int))), (14, .v (.int .i64 v2))]) (fun r => match r with | Sum.inl _ => [] | Sum.inr _ => [.box 61 (c61 a1) false]) := by
  refine loop_sound3 (fun s q h => ?_) (fun r => ?_)
  · replace h : palinglaw28_twins_L2 a1 v2 x4 s = some q := h; revert h; revert s; intro v6 h
    unfold palinglaw28_twins_L2 at h
    rcases ite_out h with ⟨h7, h⟩ | ⟨h7, h⟩
    · obtain ⟨x8, h9, h⟩ := bind_out h
      rcases ite_out h with ⟨h10, h⟩ | ⟨h10, h⟩
      · rcases ite_out h with ⟨h11, h⟩ | ⟨h11, h⟩
        · rcases ite_out h with ⟨h12, h⟩ | ⟨h12, h⟩
          · injection h with h; subst h; exact runLp_sound mixedOrders (live := [2]) (ids := []) (π := [.dec true, .row (c138 x8), .dec true, .dec true, .dec true]) (hx := by kernel_rfl) (hps := pc (h7) <| pc (ob138 h9) <| pc (h10) <| pc (h11) <| pc (h12) <| pn)
          · injection h with h; subst h; exact runLp_sound mixedOrders (live := [1, 2, 3, 4, 12, 13, 14, 20, 21, 22]) (ids := [0, 1]) (π := [.dec true, .row (c138 x8), .dec true, .dec true, .dec false]) (hx := by kernel_rfl) (hps := pc (h7) <| pc (ob138 h9) <| pc (h10) <| pc (h11) <| pc (h12) <| pn)
        · injection h with h; subst h; exact runLp_sound mixedOrders (live := [1, 2, 3, 4, 12, 13, 14, 20, 21, 22]) (ids := [0, 1]) (π := [.dec true, .row (c138 x8), .dec true, .dec false]) (hx := by kernel_rfl) (hps := pc (h7) <| pc (ob138 h9) <| pc (h10) <| pc (h11) <| pn)
      · injection h with h; subst h; exact runLp_sound mixedOrders (live := [1, 2, 3, 4, 12, 13, 14, 20, 21, 22]) (ids := [0, 1]) (π := [.dec true, .row (c138 x8), .dec false]) (hx := by kernel_rfl) (hps := pc (h7) <| pc (ob138 h9) <| pc (h10) <| pn)
    · injection h with h; subst h; exact runLp_sound mixedOrders (live := [1, 2, 12, 13, 14]) (ids := [0]) (π := [.dec false]) (hx := by kernel_rfl) (hps := pc (h7) <| pn)
  · rcases r with _ | _ <;> exact Ex.noConfusion

theorem k_palinglaw28_twins_L1 {a1 : Api_Net} : LoopOK Try.prog UU 0 84 (subC (codeOf Try.f46) [1, 0, 1, 0, 0]) (ρ := Unit ⊕ Unit) (palinglaw28_twins_L1 a1)
    (fun v2 : Int => ([(1, .op 0 1 0 0), (2, .v (.bool false)), (12, .sl 138 a1.devices), (13, .v (.int .i64 (a1.devices.length : Int))), (14, .v (.int .i64 v2))] : Fr DD)) (fun v2 : Int => ([.box 61 (c61 a1) false] : Heap DD)) (fun r => match r with | Sum.inl _ => .ret | Sum.inr _ => .exit 0) (fun r => match r with | Sum.inl _ => [(2, .v (.bool true))] | Sum.inr _ => [(1, .op 0 1 0 0), (2, .v (.bool false))]) (fun r => match r with | Sum.inl _ => [] | Sum.inr _ => [.box 61 (c61 a1) false]) := by
  refine loop_sound3 (fun s q h => ?_) (fun r => ?_)
  · replace h : palinglaw28_twins_L1 a1 s = some q := h; revert h; revert s; intro v2 h
    unfold palinglaw28_twins_L1 at h
    rcases ite_out h with ⟨h3, h⟩ | ⟨h3, h⟩
    · obtain ⟨x4, h5, h⟩ := bind_out h
      obtain ⟨r14, h13, h⟩ := bind_out h
      rcases r14 with _ | _
      · injection h with h; subst h; exact runLp_sound mixedOrders (live := [2]) (ids := []) (π := [.dec true, .row (c138 x4), .sum [1, 2, 3, 4, 12, 13, 14, 20, 21, 22] [0, 1] .ret [(2, .v (.bool true))] []]) (hx := by kernel_rfl) (hps := pc (h3) <| pc (ob138 h5) <| pc (k_palinglaw28_twins_L2 _ _ h13) <| pn)
      · injection h with h; subst h; exact runLp_sound mixedOrders (live := [1, 2, 12, 13, 14]) (ids := [0]) (π := [.dec true, .row (c138 x4), .sum [1, 2, 3, 4, 12, 13, 14, 20, 21, 22] [0, 1] (.exit 2) [(1, .op 0 1 0 0), (2, .v (.bool false)), (12, .sl 138 a1.devices), (13, .v (.int .i64 (a1.devices.length : Int))), (14, .v (.int .i64 v2))] [.box 61 (c61 a1) false]]) (hx := by kernel_rfl) (hps := pc (h3) <| pc (ob138 h5) <| pc (k_palinglaw28_twins_L2 _ _ h13) <| pn)
    · injection h with h; subst h; exact runLp_sound mixedOrders (live := [1, 2]) (ids := [0]) (π := [.dec false]) (hx := by kernel_rfl) (hps := pc (h3) <| pn)
  · rcases r with _ | _ <;> exact Ex.noConfusion

theorem k_palinglaw28_twins_L4 {a1 : Api_Net} {v17 : Int} {x19 : Api_Domain} : LoopOK Try.prog UU 0 84 (subC (codeOf Try.f46) [1, 1, 0, 1, 0, 0, 1, 1, 0, 0, 1, 1, 0, 0]) (ρ := Unit ⊕ Unit) (palinglaw28_twins_L4 a1 v17 x19)
    (fun v21 : Int => ([(1, .op 0 1 0 0), (2, .v (.bool false)), (7, .v (.int .i64 v17)), (8, .op 1 1 0 0), (45, .sl 85 a1.domains), (46, .v (.int .i64 (a1.domains.length : Int))), (47, .v (.int .i64 v17)), (53, .sl 85 a1.domains), (54, .v (.int .i64 (a1.domains.length : Int))), (55, .v (.int .i64 v21))] : Fr DD)) (fun v21 : Int => ([.box 61 (c61 a1) false, .box 85 (c85 x19) false] : Heap DD)) (fun r => match r with | Sum.inl _ => .ret | Sum.inr _ => .exit 6) (fun r => match r with | Sum.inl _ => [(2, .v (.bool true))] | Sum.inr _ => [(1, .op 0 1 0 0), (2, .v (.bool false)), (45, .sl 85 a1.domains), (46, .v (.int .i64 (a1.domains.length : Int))), (47, .v (.int .i64 v17))]) (fun r => match r with | Sum.inl _ => [] | Sum.inr _ => [.box 61 (c61 a1) false]) := by
  refine loop_sound3 (fun s q h => ?_) (fun r => ?_)
  · replace h : palinglaw28_twins_L4 a1 v17 x19 s = some q := h; revert h; revert s; intro v21 h
    unfold palinglaw28_twins_L4 at h
    rcases ite_out h with ⟨h22, h⟩ | ⟨h22, h⟩
    · obtain ⟨x23, h24, h⟩ := bind_out h
      rcases ite_out h with ⟨h25, h⟩ | ⟨h25, h⟩
      · rcases ite_out h with ⟨h26, h⟩ | ⟨h26, h⟩
        · rcases ite_out h with ⟨h27, h⟩ | ⟨h27, h⟩
          · rcases ite_out h with ⟨h28, h⟩ | ⟨h28, h⟩
            · injection h with h; subst h; exact runLp_sound mixedOrders (live := [2]) (ids := []) (π := [.dec true, .row (c85 x23), .dec true, .dec true, .dec true, .dec true]) (hx := by kernel_rfl) (hps := pc (h22) <| pc (ob85 h24) <| pc (h25) <| pc (h26) <| pc (h27) <| pc (h28) <| pn)
            · injection h with h; subst h; exact runLp_sound mixedOrders (live := [1, 2, 7, 8, 45, 46, 47, 53, 54, 55]) (ids := [0, 1]) (π := [.dec true, .row (c85 x23), .dec true, .dec true, .dec true, .dec false]) (hx := by kernel_rfl) (hps := pc (h22) <| pc (ob85 h24) <| pc (h25) <| pc (h26) <| pc (h27) <| pc (h28) <| pn)
          · injection h with h; subst h; exact runLp_sound mixedOrders (live := [1, 2, 7, 8, 45, 46, 47, 53, 54, 55]) (ids := [0, 1]) (π := [.dec true, .row (c85 x23), .dec true, .dec true, .dec false]) (hx := by kernel_rfl) (hps := pc (h22) <| pc (ob85 h24) <| pc (h25) <| pc (h26) <| pc (h27) <| pn)
        · injection h with h; subst h; exact runLp_sound mixedOrders (live := [1, 2, 7, 8, 45, 46, 47, 53, 54, 55]) (ids := [0, 1]) (π := [.dec true, .row (c85 x23), .dec true, .dec false]) (hx := by kernel_rfl) (hps := pc (h22) <| pc (ob85 h24) <| pc (h25) <| pc (h26) <| pn)
      · injection h with h; subst h; exact runLp_sound mixedOrders (live := [1, 2, 7, 8, 45, 46, 47, 53, 54, 55]) (ids := [0, 1]) (π := [.dec true, .row (c85 x23), .dec false]) (hx := by kernel_rfl) (hps := pc (h22) <| pc (ob85 h24) <| pc (h25) <| pn)
    · injection h with h; subst h; exact runLp_sound mixedOrders (live := [1, 2, 45, 46, 47]) (ids := [0]) (π := [.dec false]) (hx := by kernel_rfl) (hps := pc (h22) <| pn)
  · rcases r with _ | _ <;> exact Ex.noConfusion

theorem k_palinglaw28_twins_L3 {a1 : Api_Net} : LoopOK Try.prog UU 0 84 (subC (codeOf Try.f46) [1, 1, 0, 1, 0, 0]) (ρ := Unit ⊕ Unit) (palinglaw28_twins_L3 a1)
    (fun v17 : Int => ([(1, .op 0 1 0 0), (2, .v (.bool false)), (45, .sl 85 a1.domains), (46, .v (.int .i64 (a1.domains.length : Int))), (47, .v (.int .i64 v17))] : Fr DD)) (fun v17 : Int => ([.box 61 (c61 a1) false] : Heap DD)) (fun r => match r with | Sum.inl _ => .ret | Sum.inr _ => .exit 4) (fun r => match r with | Sum.inl _ => [(2, .v (.bool true))] | Sum.inr _ => [(2, .v (.bool false))]) (fun r => match r with | Sum.inl _ => [] | Sum.inr _ => []) := by
  refine loop_sound3 (fun s q h => ?_) (fun r => ?_)
  · replace h : palinglaw28_twins_L3 a1 s = some q := h; revert h; revert s; intro v17 h
    unfold palinglaw28_twins_L3 at h
    rcases ite_out h with ⟨h18, h⟩ | ⟨h18, h⟩
    · obtain ⟨x19, h20, h⟩ := bind_out h
      obtain ⟨r30, h29, h⟩ := bind_out h
      rcases r30 with _ | _
      · injection h with h; subst h; exact runLp_sound mixedOrders (live := [2]) (ids := []) (π := [.dec true, .row (c85 x19), .sum [1, 2, 7, 8, 45, 46, 47, 53, 54, 55] [0, 2] .ret [(2, .v (.bool true))] []]) (hx := by kernel_rfl) (hps := pc (h18) <| pc (ob85 h20) <| pc (k_palinglaw28_twins_L4 _ _ h29) <| pn)
      · injection h with h; subst h; exact runLp_sound mixedOrders (live := [1, 2, 45, 46, 47]) (ids := [0]) (π := [.dec true, .row (c85 x19), .sum [1, 2, 7, 8, 45, 46, 47, 53, 54, 55] [0, 2] (.exit 6) [(1, .op 0 1 0 0), (2, .v (.bool false)), (45, .sl 85 a1.domains), (46, .v (.int .i64 (a1.domains.length : Int))), (47, .v (.int .i64 v17))] [.box 61 (c61 a1) false]]) (hx := by kernel_rfl) (hps := pc (h18) <| pc (ob85 h20) <| pc (k_palinglaw28_twins_L4 _ _ h29) <| pn)
    · injection h with h; subst h; exact runLp_sound mixedOrders (live := [2]) (ids := []) (π := [.dec false]) (hx := by kernel_rfl) (hps := pc (h18) <| pn)
  · rcases r with _ | _ <;> exact Ex.noConfusion

theorem k_palinglaw28_twins {a1 : Api_Net} {r : Bool} (h : palinglaw28_twins a1 = some r) :
    CallsOK Try.prog UU 46 [.agg (c61 a1)] [] (.v (.bool r)) [] := by
  unfold palinglaw28_twins at h
  obtain ⟨r16, h15, h⟩ := bind_out h
  rcases r16 with _ | _
  · injection h with h; subst h; exact runFn_sound mixedOrders Try.func46 rfl (keep := none) (π := [.sum [1, 2, 12, 13, 14] [0] .ret [(2, .v (.bool true))] []]) (hrun := by kernel_rfl) (hps := pc (k_palinglaw28_twins_L1 _ _ h15) <| pn)
  · obtain ⟨r32, h31, h⟩ := bind_out h
    rcases r32 with _ | _
    · injection h with h; subst h; exact runFn_sound mixedOrders Try.func46 rfl (keep := none) (π := [.sum [1, 2, 12, 13, 14] [0] (.exit 0) [(1, .op 0 1 0 0), (2, .v (.bool false))] [.box 61 (c61 a1) false], .sum [1, 2, 45, 46, 47] [0] .ret [(2, .v (.bool true))] []]) (hrun := by kernel_rfl) (hps := pc (k_palinglaw28_twins_L1 _ _ h15) <| pc (k_palinglaw28_twins_L3 _ _ h31) <| pn)
    · injection h with h; subst h; exact runFn_sound mixedOrders Try.func46 rfl (keep := none) (π := [.sum [1, 2, 12, 13, 14] [0] (.exit 0) [(1, .op 0 1 0 0), (2, .v (.bool false))] [.box 61 (c61 a1) false], .sum [1, 2, 45, 46, 47] [0] (.exit 4) [(2, .v (.bool false))] []]) (hrun := by kernel_rfl) (hps := pc (k_palinglaw28_twins_L1 _ _ h15) <| pc (k_palinglaw28_twins_L3 _ _ h31) <| pn)

theorem k_udp_Port {a1 : Int} {a2 : Int} {r : Int} (h : udp_Port a1 a2 = some r) :
    CallsOK Try.prog UU 50 [.v (.int .u64 a1), .v (.int .u64 a2)] [] (.v (.int .i64 r)) [] := by
  unfold udp_Port at h
  injection h with h; subst h; exact runFn_sound mixedOrders Try.func50 rfl (keep := none) (π := []) (hrun := by kernel_rfl) (hps := pc ((show (16384 : Int) ≠ 0 from by decide)) <| pn)

theorem k_udp_Put_L1 {a1 : Int} {a2 : Int} {a3 : List Int} : LoopOK Try.prog UU 0 51 (subC (codeOf Try.f49) [1, 1, 1, 0, 1, 0, 0]) (fun s : (List Int) × Int => match s with | (l9, v10) => udp_Put_L1 a1 a2 a3 l9 v10)
    (fun s : (List Int) × Int => (match s with | (l9, v10) => [(2, .sl 5 a3), (6, .os 0 0), (7, .z), (8, .os 1 (List.length l9)), (35, .agg [.v (.int .i64 a1), .v (.int .i64 a2), .v (.int .i64 (wr_i64 (8 + (a3.length : Int)))), .z]), (36, .v (.int .i64 v10))] : Fr DD)) (fun s : (List Int) × Int => (match s with | (l9, v10) => [.n 5, .arr 5 l9 (List.length l9) false] : Heap DD)) (fun r => match r with | l24 => .exit 1) (fun r => match r with | l24 => [(2, .sl 5 a3), (6, .os 0 0), (7, .z), (8, .os 1 (List.length l24))]) (fun r => match r with | l24 => [.n 5, .arr 5 l24 (List.length l24) false]) := by
  refine loop_sound3 (fun s q h => ?_) (fun r => ?_)
  · obtain ⟨l9, v10⟩ := s; replace h : udp_Put_L1 a1 a2 a3 l9 v10 = some q := h
    unfold udp_Put_L1 at h
    rcases ite_out h with ⟨h11, h⟩ | ⟨h11, h⟩
    · rcases ite_out h with ⟨h12, h⟩ | ⟨h12, h⟩
      · rcases ite_out h with ⟨h13, h⟩ | ⟨h13, h⟩
        · injection h with h; subst h; exact runLp_sound mixedOrders (live := [2, 6, 7, 8, 35, 36]) (ids := [0, 1]) (π := [.dec true, .frz [0], .obj [] (.arr 5 [(wr_u8 (Int.fdiv a1 (2 ^ 8)) : Int), (wr_u8 a1 : Int)] (List.length [(wr_u8 (Int.fdiv a1 (2 ^ 8)) : Int), (wr_u8 a1 : Int)]) false), .obj [] (.arr 5 (l9 ++ [(wr_u8 (Int.fdiv a1 (2 ^ 8)) : Int), (wr_u8 a1 : Int)]) (List.length (l9 ++ [(wr_u8 (Int.fdiv a1 (2 ^ 8)) : Int), (wr_u8 a1 : Int)])) false)]) (hx := by kernel_rfl) (hps := pc (h11) <| pc (eq_of_beq h12) <| pc ((show (0 : Int) ≤ 8 from by decide)) <| pc (bs_ob 5 [(wr_u8 (Int.fdiv a1 (2 ^ 8)) : Int), (wr_u8 a1 : Int)]) <| pc (app_ob 5 (n := (List.length l9)) (l := l9) (xs := [(wr_u8 (Int.fdiv a1 (2 ^ 8)) : Int), (wr_u8 a1 : Int)]) h13) <| pc ((rfl : ((List.length [(wr_u8 (Int.fdiv a1 (2 ^ 8)) : Int), (wr_u8 a1 : Int)]) : Nat) = (List.length [(wr_u8 (Int.fdiv a1 (2 ^ 8)) : Int), (wr_u8 a1 : Int)]))) <| pn)
        · cases h
      · rcases ite_out h with ⟨h14, h⟩ | ⟨h14, h⟩
        · rcases ite_out h with ⟨h15, h⟩ | ⟨h15, h⟩
          · injection h with h; subst h; exact runLp_sound mixedOrders (live := [2, 6, 7, 8, 35, 36]) (ids := [0, 1]) (π := [.dec true, .frz [1], .obj [] (.arr 5 [(wr_u8 (Int.fdiv a2 (2 ^ 8)) : Int), (wr_u8 a2 : Int)] (List.length [(wr_u8 (Int.fdiv a2 (2 ^ 8)) : Int), (wr_u8 a2 : Int)]) false), .obj [] (.arr 5 (l9 ++ [(wr_u8 (Int.fdiv a2 (2 ^ 8)) : Int), (wr_u8 a2 : Int)]) (List.length (l9 ++ [(wr_u8 (Int.fdiv a2 (2 ^ 8)) : Int), (wr_u8 a2 : Int)])) false)]) (hx := by kernel_rfl) (hps := pc (h11) <| pc (eq_of_beq h14) <| pc ((show (0 : Int) ≤ 8 from by decide)) <| pc (bs_ob 5 [(wr_u8 (Int.fdiv a2 (2 ^ 8)) : Int), (wr_u8 a2 : Int)]) <| pc (app_ob 5 (n := (List.length l9)) (l := l9) (xs := [(wr_u8 (Int.fdiv a2 (2 ^ 8)) : Int), (wr_u8 a2 : Int)]) h15) <| pc ((rfl : ((List.length [(wr_u8 (Int.fdiv a2 (2 ^ 8)) : Int), (wr_u8 a2 : Int)]) : Nat) = (List.length [(wr_u8 (Int.fdiv a2 (2 ^ 8)) : Int), (wr_u8 a2 : Int)]))) <| pn)
          · cases h
        · rcases ite_out h with ⟨h16, h⟩ | ⟨h16, h⟩
          · rcases ite_out h with ⟨h17, h⟩ | ⟨h17, h⟩
            · injection h with h; subst h; exact runLp_sound mixedOrders (live := [2, 6, 7, 8, 35, 36]) (ids := [0, 1]) (π := [.dec true, .frz [2], .obj [] (.arr 5 [(wr_u8 (Int.fdiv (wr_i64 (8 + (a3.length : Int))) (2 ^ 8)) : Int), (wr_u8 (wr_i64 (8 + (a3.length : Int))) : Int)] (List.length [(wr_u8 (Int.fdiv (wr_i64 (8 + (a3.length : Int))) (2 ^ 8)) : Int), (wr_u8 (wr_i64 (8 + (a3.length : Int))) : Int)]) false), .obj [] (.arr 5 (l9 ++ [(wr_u8 (Int.fdiv (wr_i64 (8 + (a3.length : Int))) (2 ^ 8)) : Int), (wr_u8 (wr_i64 (8 + (a3.length : Int))) : Int)]) (List.length (l9 ++ [(wr_u8 (Int.fdiv (wr_i64 (8 + (a3.length : Int))) (2 ^ 8)) : Int), (wr_u8 (wr_i64 (8 + (a3.length : Int))) : Int)])) false)]) (hx := by kernel_rfl) (hps := pc (h11) <| pc (eq_of_beq h16) <| pc ((show (0 : Int) ≤ 8 from by decide)) <| pc (bs_ob 5 [(wr_u8 (Int.fdiv (wr_i64 (8 + (a3.length : Int))) (2 ^ 8)) : Int), (wr_u8 (wr_i64 (8 + (a3.length : Int))) : Int)]) <| pc (app_ob 5 (n := (List.length l9)) (l := l9) (xs := [(wr_u8 (Int.fdiv (wr_i64 (8 + (a3.length : Int))) (2 ^ 8)) : Int), (wr_u8 (wr_i64 (8 + (a3.length : Int))) : Int)]) h17) <| pc ((rfl : ((List.length [(wr_u8 (Int.fdiv (wr_i64 (8 + (a3.length : Int))) (2 ^ 8)) : Int), (wr_u8 (wr_i64 (8 + (a3.length : Int))) : Int)]) : Nat) = (List.length [(wr_u8 (Int.fdiv (wr_i64 (8 + (a3.length : Int))) (2 ^ 8)) : Int), (wr_u8 (wr_i64 (8 + (a3.length : Int))) : Int)]))) <| pn)
            · cases h
          · rcases ite_out h with ⟨h18, h⟩ | ⟨h18, h⟩
            · rcases ite_out h with ⟨h19, h⟩ | ⟨h19, h⟩
              · injection h with h; subst h; exact runLp_sound mixedOrders (live := [2, 6, 7, 8, 35, 36]) (ids := [0, 1]) (π := [.dec true, .frz [3], .obj [] (.arr 5 [(wr_u8 (Int.fdiv 0 (2 ^ 8)) : Int), (wr_u8 0 : Int)] (List.length [(wr_u8 (Int.fdiv 0 (2 ^ 8)) : Int), (wr_u8 0 : Int)]) false), .obj [] (.arr 5 (l9 ++ [(wr_u8 (Int.fdiv 0 (2 ^ 8)) : Int), (wr_u8 0 : Int)]) (List.length (l9 ++ [(wr_u8 (Int.fdiv 0 (2 ^ 8)) : Int), (wr_u8 0 : Int)])) false)]) (hx := by kernel_rfl) (hps := pc (h11) <| pc (eq_of_beq h18) <| pc ((show (0 : Int) ≤ 8 from by decide)) <| pc (bs_ob 5 [(wr_u8 (Int.fdiv 0 (2 ^ 8)) : Int), (wr_u8 0 : Int)]) <| pc (app_ob 5 (n := (List.length l9)) (l := l9) (xs := [(wr_u8 (Int.fdiv 0 (2 ^ 8)) : Int), (wr_u8 0 : Int)]) h19) <| pc ((rfl : ((List.length [(wr_u8 (Int.fdiv 0 (2 ^ 8)) : Int), (wr_u8 0 : Int)]) : Nat) = (List.length [(wr_u8 (Int.fdiv 0 (2 ^ 8)) : Int), (wr_u8 0 : Int)]))) <| pn)
              · cases h
            · cases h
    · injection h with h; subst h; exact runLp_sound mixedOrders (live := [2, 6, 7, 8]) (ids := [0, 1]) (π := [.dec false]) (hx := by kernel_rfl) (hps := pc (h11) <| pn)
  · exact Ex.noConfusion

theorem k_udp_Put {a1 : Int} {a2 : Int} {a3 : List Int} {r : ((List Int) × Int)} (h : udp_Put a1 a2 a3 = some r) :
    CallsOK Try.prog UU 49 [.v (.int .i64 a1), .v (.int .i64 a2), .sl 5 a3] [] ((fun r => match r with | (l28, v29) => .tup [.os 0 (List.length l28), .v (.int .i64 v29)]) r) ((fun r => match r with | (l28, v29) => [.arr 5 l28 (List.length l28) false]) r) := by
  unfold udp_Put at h
  rcases ite_out h with ⟨h4, h⟩ | ⟨h4, h⟩
  · injection h with h; subst h; exact runFn_sound mixedOrders Try.func49 rfl (keep := some [1]) (π := [.dec true]) (hrun := by kernel_rfl) (hps := pc (h4) <| pn)
  · rcases ite_out h with ⟨h5, h⟩ | ⟨h5, h⟩
    · injection h with h; subst h; exact runFn_sound mixedOrders Try.func49 rfl (keep := some [1]) (π := [.dec false, .dec true]) (hrun := by kernel_rfl) (hps := pc (h4) <| pc (h5) <| pn)
    · rcases ite_out h with ⟨h6, h⟩ | ⟨h6, h⟩
      · injection h with h; subst h; exact runFn_sound mixedOrders Try.func49 rfl (keep := some [1]) (π := [.dec false, .dec false, .dec true]) (hrun := by kernel_rfl) (hps := pc (h4) <| pc (h5) <| pc (h6) <| pn)
      · rcases ite_out h with ⟨h7, h⟩ | ⟨h7, h⟩
        · injection h with h; subst h; exact runFn_sound mixedOrders Try.func49 rfl (keep := some [1]) (π := [.dec false, .dec false, .dec false, .dec true]) (hrun := by kernel_rfl) (hps := pc (h4) <| pc (h5) <| pc (h6) <| pc (h7) <| pn)
        · rcases ite_out h with ⟨h8, h⟩ | ⟨h8, h⟩
          · injection h with h; subst h; exact runFn_sound mixedOrders Try.func49 rfl (keep := some [1]) (π := [.dec false, .dec false, .dec false, .dec false, .dec true]) (hrun := by kernel_rfl) (hps := pc (h4) <| pc (h5) <| pc (h6) <| pc (h7) <| pc (h8) <| pn)
          · obtain ⟨l24, h25, h⟩ := bind_out h
            rcases ite_out h with ⟨h27, h⟩ | ⟨h27, h⟩
            · injection h with h; subst h; exact runFn_sound mixedOrders Try.func49 rfl (keep := some [1]) (π := [.dec false, .dec false, .dec false, .dec false, .dec false, .sum [2, 6, 7, 8, 35, 36] [0, 1] (.exit 1) [(2, .sl 5 a3), (6, .os 0 0), (7, .z), (8, .os 1 (List.length l24))] [.n 5, .arr 5 l24 (List.length l24) false], .obj [] (.arr 5 (l24 ++ a3) (List.length (l24 ++ a3)) false)]) (hrun := by kernel_rfl) (hps := pc (h4) <| pc (h5) <| pc (h6) <| pc (h7) <| pc (h8) <| pc (k_udp_Put_L1 _ _ h25) <| pc (app_ob 5 (n := (List.length l24)) (l := l24) (xs := a3) h27) <| pn)
            · cases h

theorem k_ipv4_Put_1 {a1 : Int} {a2 : Int} {r : Bool} (h : ipv4_Put_1 a1 a2 = some r) :
    CallsOK Try.prog UU 109 [.v (.int .i64 a1), .v (.int .i64 a2)] [] (.v (.bool r)) [] := by
  unfold ipv4_Put_1 at h
  rcases ite_out h with ⟨h3, h⟩ | ⟨h3, h⟩
  · injection h with h; subst h; exact runFn_sound mixedOrders Try.func109 rfl (keep := none) (π := [.dec true]) (hrun := by kernel_rfl) (hps := pc (h3) <| pn)
  · injection h with h; subst h; exact runFn_sound mixedOrders Try.func109 rfl (keep := none) (π := [.dec false]) (hrun := by kernel_rfl) (hps := pc (h3) <| pn)

theorem k_ipv4_put_own_L1 {a2 : List Int} : LoopOK Try.prog UU 2 23 (subC (codeOf Try.f110) [1, 0, 1, 0, 0]) (fun s : (List Int) × Int => match s with | (l3, v4) => ipv4_put_own_L1 a2 l3 v4)
    (fun s : (List Int) × Int => (match s with | (l3, v4) => [(0, .os 0 (List.length l3)), (4, .os 2 0), (7, .os 1 (List.length a2)), (8, .v (.int .i64 ((List.length a2) : Int))), (9, .v (.int .i64 v4))] : Fr DD)) (fun s : (List Int) × Int => (match s with | (l3, v4) => [.arr 5 l3 (List.length l3) false, .arr 3 a2 (List.length a2) false, .n 5] : Heap DD)) (fun r => match r with | l12 => .exit 0) (fun r => match r with | l12 => [(0, .os 0 (List.length l12)), (4, .os 2 0)]) (fun r => match r with | l12 => [.arr 5 l12 (List.length l12) false, .arr 3 a2 (List.length a2) false, .n 5]) := by
  refine loop_sound3 (fun s q h => ?_) (fun r => ?_)
  · obtain ⟨l3, v4⟩ := s; replace h : ipv4_put_own_L1 a2 l3 v4 = some q := h
    unfold ipv4_put_own_L1 at h
    rcases ite_out h with ⟨h5, h⟩ | ⟨h5, h⟩
    · rcases ite_out h with ⟨h6, h⟩ | ⟨h6, h⟩
      · obtain ⟨x7, h8, h⟩ := bind_out h
        rcases ite_out h with ⟨h9, h⟩ | ⟨h9, h⟩
        · injection h with h; subst h; exact runLp_sound mixedOrders (live := [0, 4, 7, 8, 9]) (ids := [0, 1, 2]) (π := [.dec true, .row (c3 x7), .obj [] (.arr 5 [(wr_u8 (Int.fdiv x7 (2 ^ 8)) : Int), (wr_u8 x7 : Int)] (List.length [(wr_u8 (Int.fdiv x7 (2 ^ 8)) : Int), (wr_u8 x7 : Int)]) false), .obj [] (.arr 5 (l3 ++ [(wr_u8 (Int.fdiv x7 (2 ^ 8)) : Int), (wr_u8 x7 : Int)]) (List.length (l3 ++ [(wr_u8 (Int.fdiv x7 (2 ^ 8)) : Int), (wr_u8 x7 : Int)])) false)]) (hx := by kernel_rfl) (hps := pc (h5) <| pc (And.intro (rfl : ((List.length a2) : Nat) = (List.length a2)) (lin_ob h6)) <| pc (And.intro (rfl : ((List.length a2) : Nat) = (List.length a2)) (obn3 h8)) <| pc ((show (0 : Int) ≤ 8 from by decide)) <| pc (bs_ob 5 [(wr_u8 (Int.fdiv x7 (2 ^ 8)) : Int), (wr_u8 x7 : Int)]) <| pc (app_ob 5 (n := (List.length l3)) (l := l3) (xs := [(wr_u8 (Int.fdiv x7 (2 ^ 8)) : Int), (wr_u8 x7 : Int)]) h9) <| pc ((rfl : ((List.length [(wr_u8 (Int.fdiv x7 (2 ^ 8)) : Int), (wr_u8 x7 : Int)]) : Nat) = (List.length [(wr_u8 (Int.fdiv x7 (2 ^ 8)) : Int), (wr_u8 x7 : Int)]))) <| pn)
        · cases h
      · cases h
    · injection h with h; subst h; exact runLp_sound mixedOrders (live := [0, 4]) (ids := [0, 1, 2]) (π := [.dec false]) (hx := by kernel_rfl) (hps := pc (h5) <| pn)
  · exact Ex.noConfusion

theorem k_ipv4_put_own {a1 : List Int} {a2 : List Int} {r : ((List Int))} (h : ipv4_put_own a1 a2 = some r) :
    CallsOK Try.prog UU 110 [.os 0 (List.length a1), .os 1 (List.length a2)] [.arr 5 a1 (List.length a1) false, .arr 3 a2 (List.length a2) false] ((fun r => match r with | l15 => .os 0 (List.length l15)) r) ((fun r => match r with | l15 => [.arr 5 l15 (List.length l15) false, .arr 3 a2 (List.length a2) false]) r) := by
  unfold ipv4_put_own at h
  obtain ⟨l12, h13, h⟩ := bind_out h
  injection h with h; subst h; exact runFn_sound mixedOrders Try.func110 rfl (keep := some [0, 1]) (π := [.sum [0, 4, 7, 8, 9] [0, 1, 2] (.exit 0) [(0, .os 0 (List.length l12)), (4, .os 2 0)] [.arr 5 l12 (List.length l12) false, .arr 3 a2 (List.length a2) false, .n 5]]) (hrun := by kernel_rfl) (hps := pc ((rfl : ((List.length a2) : Nat) = (List.length a2))) <| pc (k_ipv4_put_own_L1 _ _ h13) <| pn)

theorem k_sum_Of {a1 : List Int} {r : Int} (h : sum_Of a1 = some r) :
    CallsOK Try.prog UU 111 [.sl 5 a1] [] (.v (.int .i64 r)) [] := by
  unfold sum_Of at h
  obtain ⟨r2, h3, h⟩ := bind_out h
  injection h with h; subst h; exact runFn_sound mixedOrders Try.func111 rfl (keep := none) (π := [.callv (.v (.int .i64 r2))]) (hrun := by kernel_rfl) (hps := pc (k_sum_add h3) <| pn)

theorem k_ipv4_Put {a1 : Api_Packet} {r : ((List Int) × Int)} (h : ipv4_Put a1 = some r) :
    CallsOK Try.prog UU 51 [.agg (c78 a1)] [] ((fun r => match r with | (l27, v28) => .tup [.os 0 (List.length l27), .v (.int .i64 v28)]) r) ((fun r => match r with | (l27, v28) => [.arr 5 l27 (List.length l27) false]) r) := by
  unfold ipv4_Put at h
  obtain ⟨r2, h3, h⟩ := bind_out h
  rcases ite_out h with ⟨h4, h⟩ | ⟨h4, h⟩
  · injection h with h; subst h; exact runFn_sound mixedOrders Try.func51 rfl (keep := some [2]) (π := [.callv (.v (.bool r2)), .dec true]) (hrun := by kernel_rfl) (hps := pc (k_ipv4_Put_1 h3) <| pc (h4) <| pn)
  · obtain ⟨r5, h6, h⟩ := bind_out h
    rcases ite_out h with ⟨h7, h⟩ | ⟨h7, h⟩
    · injection h with h; subst h; exact runFn_sound mixedOrders Try.func51 rfl (keep := some [2]) (π := [.callv (.v (.bool r2)), .dec false, .callv (.v (.bool r5)), .dec true]) (hrun := by kernel_rfl) (hps := pc (k_ipv4_Put_1 h3) <| pc (h4) <| pc (k_ipv4_Put_1 h6) <| pc (h7) <| pn)
    · obtain ⟨r8, h9, h⟩ := bind_out h
      rcases ite_out h with ⟨h10, h⟩ | ⟨h10, h⟩
      · injection h with h; subst h; exact runFn_sound mixedOrders Try.func51 rfl (keep := some [2]) (π := [.callv (.v (.bool r2)), .dec false, .callv (.v (.bool r5)), .dec false, .callv (.v (.bool r8)), .dec true]) (hrun := by kernel_rfl) (hps := pc (k_ipv4_Put_1 h3) <| pc (h4) <| pc (k_ipv4_Put_1 h6) <| pc (h7) <| pc (k_ipv4_Put_1 h9) <| pc (h10) <| pn)
      · obtain ⟨r11, h12, h⟩ := bind_out h
        rcases ite_out h with ⟨h13, h⟩ | ⟨h13, h⟩
        · injection h with h; subst h; exact runFn_sound mixedOrders Try.func51 rfl (keep := some [2]) (π := [.callv (.v (.bool r2)), .dec false, .callv (.v (.bool r5)), .dec false, .callv (.v (.bool r8)), .dec false, .callv (.v (.bool r11)), .dec true]) (hrun := by kernel_rfl) (hps := pc (k_ipv4_Put_1 h3) <| pc (h4) <| pc (k_ipv4_Put_1 h6) <| pc (h7) <| pc (k_ipv4_Put_1 h9) <| pc (h10) <| pc (k_ipv4_Put_1 h12) <| pc (h13) <| pn)
        · rcases ite_out h with ⟨h14, h⟩ | ⟨h14, h⟩
          · injection h with h; subst h; exact runFn_sound mixedOrders Try.func51 rfl (keep := some [2]) (π := [.callv (.v (.bool r2)), .dec false, .callv (.v (.bool r5)), .dec false, .callv (.v (.bool r8)), .dec false, .callv (.v (.bool r11)), .dec false, .dec true]) (hrun := by kernel_rfl) (hps := pc (k_ipv4_Put_1 h3) <| pc (h4) <| pc (k_ipv4_Put_1 h6) <| pc (h7) <| pc (k_ipv4_Put_1 h9) <| pc (h10) <| pc (k_ipv4_Put_1 h12) <| pc (h13) <| pc (h14) <| pn)
          · obtain ⟨l17, h16, h⟩ := bind_out h
            obtain ⟨r18, h19, h⟩ := bind_out h
            rcases ite_out h with ⟨h20, h⟩ | ⟨h20, h⟩
            · obtain ⟨x21, h22, h⟩ := bind_out h
              rcases ite_out h with ⟨h23, h⟩ | ⟨h23, h⟩
              · obtain ⟨x24, h25, h⟩ := bind_out h
                rcases ite_out h with ⟨h26, h⟩ | ⟨h26, h⟩
                · injection h with h; subst h; exact runFn_sound mixedOrders Try.func51 rfl (keep := some [3]) (π := [.callv (.v (.bool r2)), .dec false, .callv (.v (.bool r5)), .dec false, .callv (.v (.bool r8)), .dec false, .callv (.v (.bool r11)), .dec false, .dec false, .obj [] (.arr 3 [(bits_or .i64 17664 a1.tos : Int), (wr_i64 (20 + (a1.body.length : Int)) : Int), a1.id, (0 : Int), (bits_or .i64 (wr_i64 (a1.ttl * 2 ^ 8)) a1.proto : Int), (0 : Int), (wr_i64 (Int.fdiv a1.src (2 ^ 16)) : Int), (wr_i64 a1.src : Int), (wr_i64 (Int.fdiv a1.dst (2 ^ 16)) : Int), (wr_i64 a1.dst : Int)] (List.length [(bits_or .i64 17664 a1.tos : Int), (wr_i64 (20 + (a1.body.length : Int)) : Int), a1.id, (0 : Int), (bits_or .i64 (wr_i64 (a1.ttl * 2 ^ 8)) a1.proto : Int), (0 : Int), (wr_i64 (Int.fdiv a1.src (2 ^ 16)) : Int), (wr_i64 a1.src : Int), (wr_i64 (Int.fdiv a1.dst (2 ^ 16)) : Int), (wr_i64 a1.dst : Int)]) false), .skp, .callm [3, 2] (.os 0 (List.length l17)) [.arr 5 l17 (List.length l17) false, .arr 3 [(bits_or .i64 17664 a1.tos : Int), (wr_i64 (20 + (a1.body.length : Int)) : Int), a1.id, (0 : Int), (bits_or .i64 (wr_i64 (a1.ttl * 2 ^ 8)) a1.proto : Int), (0 : Int), (wr_i64 (Int.fdiv a1.src (2 ^ 16)) : Int), (wr_i64 a1.src : Int), (wr_i64 (Int.fdiv a1.dst (2 ^ 16)) : Int), (wr_i64 a1.dst : Int)] (List.length [(bits_or .i64 17664 a1.tos : Int), (wr_i64 (20 + (a1.body.length : Int)) : Int), a1.id, (0 : Int), (bits_or .i64 (wr_i64 (a1.ttl * 2 ^ 8)) a1.proto : Int), (0 : Int), (wr_i64 (Int.fdiv a1.src (2 ^ 16)) : Int), (wr_i64 a1.src : Int), (wr_i64 (Int.fdiv a1.dst (2 ^ 16)) : Int), (wr_i64 a1.dst : Int)]) false], .callv (.v (.int .i64 r18)), .row (c5 x21), .obj [] (.arr 5 (List.set l17 (Int.toNat 10) (wr_u8 (Int.fdiv r18 (2 ^ 8)) : Int)) (List.length l17) false), .row (c5 x24), .obj [] (.arr 5 (List.set (List.set l17 (Int.toNat 10) (wr_u8 (Int.fdiv r18 (2 ^ 8)) : Int)) (Int.toNat 11) (wr_u8 r18 : Int)) (List.length l17) false), .obj [] (.arr 5 ((List.set (List.set l17 (Int.toNat 10) (wr_u8 (Int.fdiv r18 (2 ^ 8)) : Int)) (Int.toNat 11) (wr_u8 r18 : Int)) ++ a1.body) (List.length ((List.set (List.set l17 (Int.toNat 10) (wr_u8 (Int.fdiv r18 (2 ^ 8)) : Int)) (Int.toNat 11) (wr_u8 r18 : Int)) ++ a1.body)) false)]) (hrun := by kernel_rfl) (hps := pc (k_ipv4_Put_1 h3) <| pc (h4) <| pc (k_ipv4_Put_1 h6) <| pc (h7) <| pc (k_ipv4_Put_1 h9) <| pc (h10) <| pc (k_ipv4_Put_1 h12) <| pc (h13) <| pc (h14) <| pc ((show (0 : Int) ≤ 8 from by decide)) <| pc ((show (0 : Int) ≤ 16 from by decide)) <| pc ((show (0 : Int) ≤ 16 from by decide)) <| pc (bs_ob 3 [(bits_or .i64 17664 a1.tos : Int), (wr_i64 (20 + (a1.body.length : Int)) : Int), a1.id, (0 : Int), (bits_or .i64 (wr_i64 (a1.ttl * 2 ^ 8)) a1.proto : Int), (0 : Int), (wr_i64 (Int.fdiv a1.src (2 ^ 16)) : Int), (wr_i64 a1.src : Int), (wr_i64 (Int.fdiv a1.dst (2 ^ 16)) : Int), (wr_i64 a1.dst : Int)]) <| pc (k_ipv4_put_own h16) <| pc (k_sum_Of h19) <| pc ((rfl : ((List.length l17) : Nat) = (List.length l17))) <| pc ((show (0 : Int) ≤ 8 from by decide)) <| pc (And.intro (rfl : ((List.length l17) : Nat) = (List.length l17)) (lin_ob h20)) <| pc (st_ob (e := 5) (n := (List.length l17)) (l := l17) (i := (Int.toNat 10)) (wr_u8 (Int.fdiv r18 (2 ^ 8)) : Int) [.v (.int .u8 (wr_u8 (Int.fdiv r18 (2 ^ 8))))] (obn5 h22) rfl) <| pc (And.intro (rfl : ((List.length l17) : Nat) = (List.length l17)) (lin_ob h23)) <| pc (st_ob (e := 5) (n := (List.length l17)) (l := List.set l17 (Int.toNat 10) (wr_u8 (Int.fdiv r18 (2 ^ 8)) : Int)) (i := (Int.toNat 11)) (wr_u8 r18 : Int) [.v (.int .u8 (wr_u8 r18))] (obn5 h25) rfl) <| pc (app_ob 5 (n := (List.length l17)) (l := List.set (List.set l17 (Int.toNat 10) (wr_u8 (Int.fdiv r18 (2 ^ 8)) : Int)) (Int.toNat 11) (wr_u8 r18 : Int)) (xs := a1.body) h26) <| pn)
                · cases h
              · cases h
            · cases h

theorem k_mac_Host {a1 : Int} {r : Int} (h : mac_Host a1 = some r) :
    CallsOK Try.prog UU 34 [.v (.int .u32 a1)] [] (.v (.int .u64 r)) [] := by
  unfold mac_Host at h
  injection h with h; subst h; exact runFn_sound mixedOrders Try.func34 rfl (keep := none) (π := []) (hrun := by kernel_rfl) (hps := pn)

theorem k_vxlan_Wrap {a1 : Int} {a2 : Int} {a3 : Int} {a4 : Api_Frame} {r : ((List Int) × Int)} (h : vxlan_Wrap a1 a2 a3 a4 = some r) :
    CallsOK Try.prog UU 17 [.v (.int .u32 a1), .v (.int .u32 a2), .v (.int .i64 a3), .agg (c37 a4)] [] ((fun r => match r with | (l38, v39) => .tup [.os 0 (List.length l38), .v (.int .i64 v39)]) r) ((fun r => match r with | (l38, v39) => [.arr 5 l38 (List.length l38) false]) r) := by
  unfold vxlan_Wrap at h
  obtain ⟨r5, h6, h⟩ := bind_out h
  rcases ite_out h with ⟨h7, h⟩ | ⟨h7, h⟩
  · injection h with h; subst h; exact runFn_sound mixedOrders Try.func17 rfl (keep := some [2]) (π := [.callv (.v (.bool r5)), .dec true]) (hrun := by kernel_rfl) (hps := pc (k_tag_Is h6) <| pc (h7) <| pn)
  · obtain ⟨r8, h9, h⟩ := bind_out h
    obtain ⟨l10, v11⟩ := r8
    rcases ite_out h with ⟨h12, h⟩ | ⟨h12, h⟩
    · injection h with h; subst h; exact runFn_sound mixedOrders Try.func17 rfl (keep := some [3]) (π := [.callv (.v (.bool r5)), .dec false, .callo (.tup [.os 0 (List.length l10), .v (.int .i64 v11)]) [.arr 5 l10 (List.length l10) false], .dec true]) (hrun := by kernel_rfl) (hps := pc (k_tag_Is h6) <| pc (h7) <| pc (k_ether_Put h9) <| pc (im5 l10) <| pc (h12) <| pn)
    · obtain ⟨r13, h14, h⟩ := bind_out h
      obtain ⟨l15, v16⟩ := r13
      rcases ite_out h with ⟨h17, h⟩ | ⟨h17, h⟩
      · injection h with h; subst h; exact runFn_sound mixedOrders Try.func17 rfl (keep := some [4]) (π := [.callv (.v (.bool r5)), .dec false, .callo (.tup [.os 0 (List.length l10), .v (.int .i64 v11)]) [.arr 5 l10 (List.length l10) false], .dec false, .callo (.tup [.os 0 (List.length l15), .v (.int .i64 v16)]) [.arr 5 l15 (List.length l15) false], .dec true]) (hrun := by kernel_rfl) (hps := pc (k_tag_Is h6) <| pc (h7) <| pc (k_ether_Put h9) <| pc (im5 l10) <| pc (h12) <| pc (k_vxlan_Head h14) <| pc (im5 l15) <| pc (h17) <| pn)
      · rcases ite_out h with ⟨h18, h⟩ | ⟨h18, h⟩
        · injection h with h; subst h; exact runFn_sound mixedOrders Try.func17 rfl (keep := some [4]) (π := [.callv (.v (.bool r5)), .dec false, .callo (.tup [.os 0 (List.length l10), .v (.int .i64 v11)]) [.arr 5 l10 (List.length l10) false], .dec false, .callo (.tup [.os 0 (List.length l15), .v (.int .i64 v16)]) [.arr 5 l15 (List.length l15) false], .dec false, .dec true]) (hrun := by kernel_rfl) (hps := pc (k_tag_Is h6) <| pc (h7) <| pc (k_ether_Put h9) <| pc (im5 l10) <| pc (h12) <| pc (k_vxlan_Head h14) <| pc (im5 l15) <| pc (h17) <| pc ((rfl : ((List.length l10) : Nat) = (List.length l10))) <| pc (h18) <| pn)
        · obtain ⟨r19, h20, h⟩ := bind_out h
          rcases ite_out h with ⟨h21, h⟩ | ⟨h21, h⟩
          · obtain ⟨r22, h23, h⟩ := bind_out h
            obtain ⟨l24, v25⟩ := r22
            obtain ⟨r26, h27, h⟩ := bind_out h
            obtain ⟨l28, v29⟩ := r26
            obtain ⟨r30, h31, h⟩ := bind_out h
            obtain ⟨r32, h33, h⟩ := bind_out h
            obtain ⟨r34, h35, h⟩ := bind_out h
            obtain ⟨l36, v37⟩ := r34
            injection h with h; subst h; exact runFn_sound mixedOrders Try.func17 rfl (keep := some [6]) (π := [.callv (.v (.bool r5)), .dec false, .callo (.tup [.os 0 (List.length l10), .v (.int .i64 v11)]) [.arr 5 l10 (List.length l10) false], .dec false, .callo (.tup [.os 0 (List.length l15), .v (.int .i64 v16)]) [.arr 5 l15 (List.length l15) false], .dec false, .dec false, .callv (.v (.int .i64 r19)), .obj [] (.arr 5 (l15 ++ l10) (List.length (l15 ++ l10)) false), .callo (.tup [.os 0 (List.length l24), .v (.int .i64 v25)]) [.arr 5 l24 (List.length l24) false], .callo (.tup [.os 0 (List.length l28), .v (.int .i64 v29)]) [.arr 5 l28 (List.length l28) false], .callv (.v (.int .u64 r30)), .callv (.v (.int .u64 r32)), .callo (.tup [.os 0 (List.length l36), .v (.int .i64 v37)]) [.arr 5 l36 (List.length l36) false]]) (hrun := by kernel_rfl) (hps := pc (k_tag_Is h6) <| pc (h7) <| pc (k_ether_Put h9) <| pc (im5 l10) <| pc (h12) <| pc (k_vxlan_Head h14) <| pc (im5 l15) <| pc (h17) <| pc ((rfl : ((List.length l10) : Nat) = (List.length l10))) <| pc (h18) <| pc (k_udp_Port h20) <| pc (app_ob 5 (n := (List.length l15)) (l := l15) (xs := l10) h21) <| pc ((rfl : ((List.length l10) : Nat) = (List.length l10))) <| pc (k_udp_Put h23) <| pc (im5 l24) <| pc ((rfl : ((List.length (l15 ++ l10)) : Nat) = (List.length (l15 ++ l10)))) <| pc (k_ipv4_Put h27) <| pc (im5 l28) <| pc ((rfl : ((List.length l24) : Nat) = (List.length l24))) <| pc (k_mac_Host h31) <| pc (k_mac_Host h33) <| pc (k_ether_Put h35) <| pc (im5 l36) <| pc ((rfl : ((List.length l28) : Nat) = (List.length l28))) <| pn)
          · cases h

theorem k_leave_Mesh {a1 : Api_Net} {a2 : Int} {a3 : Int} {a4 : Api_Frame} {r : ((List Int) × Int)} (h : leave_Mesh a1 a2 a3 a4 = some r) :
    CallsOK Try.prog UU 47 [.agg (c61 a1), .v (.int .i64 a2), .v (.int .i64 a3), .agg (c37 a4)] [] ((fun r => match r with | (l29, v30) => .tup [.os 0 (List.length l29), .v (.int .i64 v30)]) r) ((fun r => match r with | (l29, v30) => [.arr 5 l29 (List.length l29) false]) r) := by
  unfold leave_Mesh at h
  obtain ⟨r5, h6, h⟩ := bind_out h
  rcases ite_out h with ⟨h7, h⟩ | ⟨h7, h⟩
  · injection h with h; subst h; exact runFn_sound mixedOrders Try.func47 rfl (keep := some [3]) (π := [.callv (.v (.bool r5)), .dec true]) (hrun := by kernel_rfl) (hps := pc (k_leave_place h6) <| pc (h7) <| pn)
  · obtain ⟨r8, h9, h⟩ := bind_out h
    rcases ite_out h with ⟨h10, h⟩ | ⟨h10, h⟩
    · injection h with h; subst h; exact runFn_sound mixedOrders Try.func47 rfl (keep := some [3]) (π := [.callv (.v (.bool r5)), .dec false, .callv (.v (.bool r8)), .dec true]) (hrun := by kernel_rfl) (hps := pc (k_leave_place h6) <| pc (h7) <| pc (k_leave_place h9) <| pc (h10) <| pn)
    · obtain ⟨r11, h12, h⟩ := bind_out h
      rcases ite_out h with ⟨h13, h⟩ | ⟨h13, h⟩
      · injection h with h; subst h; exact runFn_sound mixedOrders Try.func47 rfl (keep := some [3]) (π := [.callv (.v (.bool r5)), .dec false, .callv (.v (.bool r8)), .dec false, .callv (.v (.bool r11)), .dec true]) (hrun := by kernel_rfl) (hps := pc (k_leave_place h6) <| pc (h7) <| pc (k_leave_place h9) <| pc (h10) <| pc (k_names_Right h12) <| pc (h13) <| pn)
      · obtain ⟨x14, h15, h⟩ := bind_out h
        obtain ⟨r16, h17, h⟩ := bind_out h
        rcases ite_out h with ⟨h18, h⟩ | ⟨h18, h⟩
        · injection h with h; subst h; exact runFn_sound mixedOrders Try.func47 rfl (keep := some [3]) (π := [.callv (.v (.bool r5)), .dec false, .callv (.v (.bool r8)), .dec false, .callv (.v (.bool r11)), .dec false, .row (c85 x14), .callv (.v (.bool r16)), .dec true]) (hrun := by kernel_rfl) (hps := pc (k_leave_place h6) <| pc (h7) <| pc (k_leave_place h9) <| pc (h10) <| pc (k_names_Right h12) <| pc (h13) <| pc (ob85 h15) <| pc (k_slices_Contains_int h17) <| pc (h18) <| pn)
        · obtain ⟨r19, h20, h⟩ := bind_out h
          obtain ⟨r21, h22, h⟩ := bind_out h
          obtain ⟨x23, h24, h⟩ := bind_out h
          obtain ⟨r25, h26, h⟩ := bind_out h
          obtain ⟨l27, v28⟩ := r25
          injection h with h; subst h; exact runFn_sound mixedOrders Try.func47 rfl (keep := some [12]) (π := [.callv (.v (.bool r5)), .dec false, .callv (.v (.bool r8)), .dec false, .callv (.v (.bool r11)), .dec false, .row (c85 x14), .callv (.v (.bool r16)), .dec false, .sum [13] [] .nor [] [.box 61 (c61 a1) false, .box 37 (c37 a4) false, .n 5, .n 138, .n 96, .n 153, .n 85, .n 166, .n 128, .n 71, .n 68, .box 141 [.sl 138 a1.devices, .sl 96 a1.ports, .sl 153 a1.links, .sl 85 a1.domains, .sl 166 a1.statics, .sl 128 a1.floods, .sl 71 a1.vrfs, .sl 68 a1.irbs] false, .arr 5 l27 (List.length l27) false], .callv (.v (.int .u32 r19)), .callv (.v (.int .u32 r21)), .row (c85 x23), .callo (.tup [.os 0 (List.length l27), .v (.int .i64 v28)]) [.arr 5 l27 (List.length l27) false]]) (hrun := by kernel_rfl) (hps := pc (k_leave_place h6) <| pc (h7) <| pc (k_leave_place h9) <| pc (h10) <| pc (k_names_Right h12) <| pc (h13) <| pc (ob85 h15) <| pc (k_slices_Contains_int h17) <| pc (h18) <| pc (k_leave_whole_vtep h20) <| pc (k_leave_whole_vtep h22) <| pc (ob85 h24) <| pc ((rfl : ([.box 61 (c61 a1) false, .box 37 (c37 a4) false, .n 5, .n 138, .n 96, .n 153, .n 85, .n 166, .n 128, .n 71, .n 68, .box 141 [.sl 138 a1.devices, .sl 96 a1.ports, .sl 153 a1.links, .sl 85 a1.domains, .sl 166 a1.statics, .sl 128 a1.floods, .sl 71 a1.vrfs, .sl 68 a1.irbs] false, .arr 5 l27 (List.length l27) false] : Heap DD) = [.box 61 (c61 a1) false, .box 37 (c37 a4) false, .n 5, .n 138, .n 96, .n 153, .n 85, .n 166, .n 128, .n 71, .n 68, .box 141 [.sl 138 a1.devices, .sl 96 a1.ports, .sl 153 a1.links, .sl 85 a1.domains, .sl 166 a1.statics, .sl 128 a1.floods, .sl 71 a1.vrfs, .sl 68 a1.irbs] false, .arr 5 l27 (List.length l27) false])) <| pc (k_vxlan_Wrap h26) <| pc (im5 l27) <| pn)

theorem k_ether_Same {a1 : Api_Frame} {a2 : Api_Frame} {r : Bool} (h : ether_Same a1 a2 = some r) :
    CallsOK Try.prog UU 30 [.agg (c37 a1), .agg (c37 a2)] [] (.v (.bool r)) [] := by
  unfold ether_Same at h
  rcases ite_out h with ⟨h3, h⟩ | ⟨h3, h⟩
  · rcases ite_out h with ⟨h4, h⟩ | ⟨h4, h⟩
    · rcases ite_out h with ⟨h5, h⟩ | ⟨h5, h⟩
      · injection h with h; subst h; exact runFn_sound mixedOrders Try.func30 rfl (keep := none) (π := [.dec true, .dec true, .dec true, .callv (.v (.string (bstr a1.body))), .callv (.v (.string (bstr a2.body)))]) (hrun := by kernel_rfl) (hps := pc (h3) <| pc (h4) <| pc (h5) <| pc (cvb5 a1.body) <| pc (cvb5 a2.body) <| pn)
      · injection h with h; subst h; exact runFn_sound mixedOrders Try.func30 rfl (keep := none) (π := [.dec true, .dec true, .dec false]) (hrun := by kernel_rfl) (hps := pc (h3) <| pc (h4) <| pc (h5) <| pn)
    · injection h with h; subst h; exact runFn_sound mixedOrders Try.func30 rfl (keep := none) (π := [.dec true, .dec false]) (hrun := by kernel_rfl) (hps := pc (h3) <| pc (h4) <| pn)
  · injection h with h; subst h; exact runFn_sound mixedOrders Try.func30 rfl (keep := none) (π := [.dec false]) (hrun := by kernel_rfl) (hps := pc (h3) <| pn)

theorem k_palinglaw28_LeaveComes_J1 {a1 : Api_Net} {a2 : Int} {a3 : Int} {a4 : Api_Frame} {a5 : List Int} {r : Unit ⊕ Unit} (h : palinglaw28_LeaveComes_J1 a1 a2 a3 a4 a5 = some r) :
    ExecOK Try.prog UU 0 140 (subC (codeOf Try.f11) [1, 1, 1, 0]) [(1, .v (.int .i64 a2)), (2, .v (.int .i64 a3)), (4, .sl 5 a5), (5, .op 0 1 0 0), (8, .op 1 1 0 0), (10, .v (.bool false))] [.box 61 (c61 a1) false, .box 37 (c37 a4) false] ((fun r => match r with | Sum.inl _ => .ret | Sum.inr _ => .nor) r) ((fun r => match r with | Sum.inl _ => [(10, .v (.bool false))] | Sum.inr _ => [(1, .v (.int .i64 a2)), (2, .v (.int .i64 a3)), (5, .op 0 1 0 0), (8, .op 1 1 0 0), (10, .v (.bool false))]) r) ((fun r => match r with | Sum.inl _ => [] | Sum.inr _ => [.box 61 (c61 a1) false, .box 37 (c37 a4) false]) r) := by
  unfold palinglaw28_LeaveComes_J1 at h
  obtain ⟨r14, h15, h⟩ := bind_out h
  obtain ⟨l16, n17, v18, v19, v20, v21, v22, v23⟩ := r14
  rcases ite_out h with ⟨h24, h⟩ | ⟨h24, h⟩
  · obtain ⟨r25, h26, h⟩ := bind_out h
    rcases ite_out h with ⟨h27, h⟩ | ⟨h27, h⟩
    · injection h with h; subst h; exact runLp_sound mixedOrders (live := [10]) (ids := []) (π := [.callo (.tup [.v (.int .i64 v18), .v (.int .i64 v19), .agg [.v (.int .u64 v20), .v (.int .u64 v21), .v (.int .i64 v22), .os 0 n17], .v (.int .i64 v23)]) [.arr 5 l16 n17 false], .dec true, .callv (.v (.bool r25)), .dec true]) (hx := by kernel_rfl) (hps := pc (k_leave_Come h15) <| pc (im5 l16) <| pc (h24) <| pc (k_tag_Is h26) <| pc ((rfl : (n17 : Nat) = n17)) <| pc (h27) <| pn)
    · obtain ⟨r28, h29, h⟩ := bind_out h
      rcases ite_out h with ⟨h30, h⟩ | ⟨h30, h⟩
      · injection h with h; subst h; exact runLp_sound mixedOrders (live := [10]) (ids := []) (π := [.callo (.tup [.v (.int .i64 v18), .v (.int .i64 v19), .agg [.v (.int .u64 v20), .v (.int .u64 v21), .v (.int .i64 v22), .os 0 n17], .v (.int .i64 v23)]) [.arr 5 l16 n17 false], .dec true, .callv (.v (.bool r25)), .dec false, .callv (.v (.bool r28)), .dec true]) (hx := by kernel_rfl) (hps := pc (k_leave_Come h15) <| pc (im5 l16) <| pc (h24) <| pc (k_tag_Is h26) <| pc ((rfl : (n17 : Nat) = n17)) <| pc (h27) <| pc (k_mac_Group h29) <| pc (h30) <| pn)
      · rcases ite_out h with ⟨h31, h⟩ | ⟨h31, h⟩
        · injection h with h; subst h; exact runLp_sound mixedOrders (live := [10]) (ids := []) (π := [.callo (.tup [.v (.int .i64 v18), .v (.int .i64 v19), .agg [.v (.int .u64 v20), .v (.int .u64 v21), .v (.int .i64 v22), .os 0 n17], .v (.int .i64 v23)]) [.arr 5 l16 n17 false], .dec true, .callv (.v (.bool r25)), .dec false, .callv (.v (.bool r28)), .dec false, .dec true]) (hx := by kernel_rfl) (hps := pc (k_leave_Come h15) <| pc (im5 l16) <| pc (h24) <| pc (k_tag_Is h26) <| pc ((rfl : (n17 : Nat) = n17)) <| pc (h27) <| pc (k_mac_Group h29) <| pc (h30) <| pc (h31) <| pn)
        · rcases ite_out h with ⟨h32, h⟩ | ⟨h32, h⟩
          · injection h with h; subst h; exact runLp_sound mixedOrders (live := [10]) (ids := []) (π := [.callo (.tup [.v (.int .i64 v18), .v (.int .i64 v19), .agg [.v (.int .u64 v20), .v (.int .u64 v21), .v (.int .i64 v22), .os 0 n17], .v (.int .i64 v23)]) [.arr 5 l16 n17 false], .dec true, .callv (.v (.bool r25)), .dec false, .callv (.v (.bool r28)), .dec false, .dec false, .dec true]) (hx := by kernel_rfl) (hps := pc (k_leave_Come h15) <| pc (im5 l16) <| pc (h24) <| pc (k_tag_Is h26) <| pc ((rfl : (n17 : Nat) = n17)) <| pc (h27) <| pc (k_mac_Group h29) <| pc (h30) <| pc (h31) <| pc (h32) <| pn)
          · rcases ite_out h with ⟨h33, h⟩ | ⟨h33, h⟩
            · injection h with h; subst h; exact runLp_sound mixedOrders (live := [10]) (ids := []) (π := [.callo (.tup [.v (.int .i64 v18), .v (.int .i64 v19), .agg [.v (.int .u64 v20), .v (.int .u64 v21), .v (.int .i64 v22), .os 0 n17], .v (.int .i64 v23)]) [.arr 5 l16 n17 false], .dec true, .callv (.v (.bool r25)), .dec false, .callv (.v (.bool r28)), .dec false, .dec false, .dec false, .dec true]) (hx := by kernel_rfl) (hps := pc (k_leave_Come h15) <| pc (im5 l16) <| pc (h24) <| pc (k_tag_Is h26) <| pc ((rfl : (n17 : Nat) = n17)) <| pc (h27) <| pc (k_mac_Group h29) <| pc (h30) <| pc (h31) <| pc (h32) <| pc (h33) <| pn)
            · rcases ite_out h with ⟨h34, h⟩ | ⟨h34, h⟩
              · injection h with h; subst h; exact runLp_sound mixedOrders (live := [10]) (ids := []) (π := [.callo (.tup [.v (.int .i64 v18), .v (.int .i64 v19), .agg [.v (.int .u64 v20), .v (.int .u64 v21), .v (.int .i64 v22), .os 0 n17], .v (.int .i64 v23)]) [.arr 5 l16 n17 false], .dec true, .callv (.v (.bool r25)), .dec false, .callv (.v (.bool r28)), .dec false, .dec false, .dec false, .dec false, .dec true]) (hx := by kernel_rfl) (hps := pc (k_leave_Come h15) <| pc (im5 l16) <| pc (h24) <| pc (k_tag_Is h26) <| pc ((rfl : (n17 : Nat) = n17)) <| pc (h27) <| pc (k_mac_Group h29) <| pc (h30) <| pc (h31) <| pc (h32) <| pc (h33) <| pc (h34) <| pn)
              · obtain ⟨x35, h36, h⟩ := bind_out h
                obtain ⟨x37, h38, h⟩ := bind_out h
                rcases ite_out h with ⟨h39, h⟩ | ⟨h39, h⟩
                · injection h with h; subst h; exact runLp_sound mixedOrders (live := [10]) (ids := []) (π := [.callo (.tup [.v (.int .i64 v18), .v (.int .i64 v19), .agg [.v (.int .u64 v20), .v (.int .u64 v21), .v (.int .i64 v22), .os 0 n17], .v (.int .i64 v23)]) [.arr 5 l16 n17 false], .dec true, .callv (.v (.bool r25)), .dec false, .callv (.v (.bool r28)), .dec false, .dec false, .dec false, .dec false, .dec false, .row (c85 x35), .row (c85 x37), .dec true]) (hx := by kernel_rfl) (hps := pc (k_leave_Come h15) <| pc (im5 l16) <| pc (h24) <| pc (k_tag_Is h26) <| pc ((rfl : (n17 : Nat) = n17)) <| pc (h27) <| pc (k_mac_Group h29) <| pc (h30) <| pc (h31) <| pc (h32) <| pc (h33) <| pc (h34) <| pc (ob85 h36) <| pc (ob85 h38) <| pc (h39) <| pn)
                · obtain ⟨r40, h41, h⟩ := bind_out h
                  rcases ite_out h with ⟨h42, h⟩ | ⟨h42, h⟩
                  · injection h with h; subst h; exact runLp_sound mixedOrders (live := [10]) (ids := []) (π := [.callo (.tup [.v (.int .i64 v18), .v (.int .i64 v19), .agg [.v (.int .u64 v20), .v (.int .u64 v21), .v (.int .i64 v22), .os 0 n17], .v (.int .i64 v23)]) [.arr 5 l16 n17 false], .dec true, .callv (.v (.bool r25)), .dec false, .callv (.v (.bool r28)), .dec false, .dec false, .dec false, .dec false, .dec false, .row (c85 x35), .row (c85 x37), .dec false, .callv (.v (.bool r40)), .dec true]) (hx := by kernel_rfl) (hps := pc (k_leave_Come h15) <| pc (im5 l16) <| pc (h24) <| pc (k_tag_Is h26) <| pc ((rfl : (n17 : Nat) = n17)) <| pc (h27) <| pc (k_mac_Group h29) <| pc (h30) <| pc (h31) <| pc (h32) <| pc (h33) <| pc (h34) <| pc (ob85 h36) <| pc (ob85 h38) <| pc (h39) <| pc (k_names_Right h41) <| pc (h42) <| pn)
                  · injection h with h; subst h; exact runLp_sound mixedOrders (live := [1, 2, 5, 8, 10]) (ids := [0, 1]) (π := [.callo (.tup [.v (.int .i64 v18), .v (.int .i64 v19), .agg [.v (.int .u64 v20), .v (.int .u64 v21), .v (.int .i64 v22), .os 0 n17], .v (.int .i64 v23)]) [.arr 5 l16 n17 false], .dec true, .callv (.v (.bool r25)), .dec false, .callv (.v (.bool r28)), .dec false, .dec false, .dec false, .dec false, .dec false, .row (c85 x35), .row (c85 x37), .dec false, .callv (.v (.bool r40)), .dec false]) (hx := by kernel_rfl) (hps := pc (k_leave_Come h15) <| pc (im5 l16) <| pc (h24) <| pc (k_tag_Is h26) <| pc ((rfl : (n17 : Nat) = n17)) <| pc (h27) <| pc (k_mac_Group h29) <| pc (h30) <| pc (h31) <| pc (h32) <| pc (h33) <| pc (h34) <| pc (ob85 h36) <| pc (ob85 h38) <| pc (h39) <| pc (k_names_Right h41) <| pc (h42) <| pn)
  · injection h with h; subst h; exact runLp_sound mixedOrders (live := [1, 2, 5, 8, 10]) (ids := [0, 1]) (π := [.callo (.tup [.v (.int .i64 v18), .v (.int .i64 v19), .agg [.v (.int .u64 v20), .v (.int .u64 v21), .v (.int .i64 v22), .os 0 n17], .v (.int .i64 v23)]) [.arr 5 l16 n17 false], .dec false]) (hx := by kernel_rfl) (hps := pc (k_leave_Come h15) <| pc (im5 l16) <| pc (h24) <| pn)

theorem k_palinglaw28_LeaveComes {a1 : Api_Net} {a2 : Int} {a3 : Int} {a4 : Api_Frame} {a5 : List Int} {r : Bool} (h : palinglaw28_LeaveComes a1 a2 a3 a4 a5 = some r) :
    CallsOK Try.prog UU 11 [.agg (c61 a1), .v (.int .i64 a2), .v (.int .i64 a3), .agg (c37 a4), .sl 5 a5] [] (.v (.bool r)) [] := by
  unfold palinglaw28_LeaveComes at h
  obtain ⟨r6, h7, h⟩ := bind_out h
  rcases ite_out h with ⟨h8, h⟩ | ⟨h8, h⟩
  · injection h with h; subst h; exact runFn_sound mixedOrders Try.func11 rfl (keep := none) (π := [.callv (.v (.bool r6)), .dec true]) (hrun := by kernel_rfl) (hps := pc (k_palinglaw28_works h7) <| pc (h8) <| pn)
  · obtain ⟨r9, h10, h⟩ := bind_out h
    rcases ite_out h with ⟨h11, h⟩ | ⟨h11, h⟩
    · injection h with h; subst h; exact runFn_sound mixedOrders Try.func11 rfl (keep := none) (π := [.callv (.v (.bool r6)), .dec false, .callv (.v (.bool r9)), .dec true]) (hrun := by kernel_rfl) (hps := pc (k_palinglaw28_works h7) <| pc (h8) <| pc (k_palinglaw15_Great h10) <| pc (h11) <| pn)
    · rcases ite_out h with ⟨h12, h⟩ | ⟨h12, h⟩
      · injection h with h; subst h; exact runFn_sound mixedOrders Try.func11 rfl (keep := none) (π := [.callv (.v (.bool r6)), .dec false, .callv (.v (.bool r9)), .dec false, .dec true]) (hrun := by kernel_rfl) (hps := pc (k_palinglaw28_works h7) <| pc (h8) <| pc (k_palinglaw15_Great h10) <| pc (h11) <| pc (h12) <| pn)
      · rcases ite_out h with ⟨h13, h⟩ | ⟨h13, h⟩
        · injection h with h; subst h; exact runFn_sound mixedOrders Try.func11 rfl (keep := none) (π := [.callv (.v (.bool r6)), .dec false, .callv (.v (.bool r9)), .dec false, .dec false, .dec true]) (hrun := by kernel_rfl) (hps := pc (k_palinglaw28_works h7) <| pc (h8) <| pc (k_palinglaw15_Great h10) <| pc (h11) <| pc (h12) <| pc (h13) <| pn)
        · obtain ⟨r44, h43, h⟩ := bind_out h
          rcases r44 with _ | _
          · injection h with h; subst h; exact runFn_sound mixedOrders Try.func11 rfl (keep := none) (π := [.callv (.v (.bool r6)), .dec false, .callv (.v (.bool r9)), .dec false, .dec false, .dec false, .cut [1, 2, 4, 5, 8, 10] [0, 1] .ret [(10, .v (.bool false))] []]) (hrun := by kernel_rfl) (hps := pc (k_palinglaw28_works h7) <| pc (h8) <| pc (k_palinglaw15_Great h10) <| pc (h11) <| pc (h12) <| pc (h13) <| pc (k_palinglaw28_LeaveComes_J1 h43) <| pn)
          · obtain ⟨r45, h46, h⟩ := bind_out h
            rcases ite_out h with ⟨h47, h⟩ | ⟨h47, h⟩
            · injection h with h; subst h; exact runFn_sound mixedOrders Try.func11 rfl (keep := none) (π := [.callv (.v (.bool r6)), .dec false, .callv (.v (.bool r9)), .dec false, .dec false, .dec false, .cut [1, 2, 4, 5, 8, 10] [0, 1] .nor [(1, .v (.int .i64 a2)), (2, .v (.int .i64 a3)), (5, .op 0 1 0 0), (8, .op 1 1 0 0), (10, .v (.bool false))] [.box 61 (c61 a1) false, .box 37 (c37 a4) false], .callv (.v (.bool r45)), .dec true]) (hrun := by kernel_rfl) (hps := pc (k_palinglaw28_works h7) <| pc (h8) <| pc (k_palinglaw15_Great h10) <| pc (h11) <| pc (h12) <| pc (h13) <| pc (k_palinglaw28_LeaveComes_J1 h43) <| pc (k_palinglaw28_twins h46) <| pc (h47) <| pn)
            · obtain ⟨r48, h49, h⟩ := bind_out h
              rcases ite_out h with ⟨h50, h⟩ | ⟨h50, h⟩
              · injection h with h; subst h; exact runFn_sound mixedOrders Try.func11 rfl (keep := none) (π := [.callv (.v (.bool r6)), .dec false, .callv (.v (.bool r9)), .dec false, .dec false, .dec false, .cut [1, 2, 4, 5, 8, 10] [0, 1] .nor [(1, .v (.int .i64 a2)), (2, .v (.int .i64 a3)), (5, .op 0 1 0 0), (8, .op 1 1 0 0), (10, .v (.bool false))] [.box 61 (c61 a1) false, .box 37 (c37 a4) false], .callv (.v (.bool r45)), .dec false, .callv (.v (.bool r48)), .dec true]) (hrun := by kernel_rfl) (hps := pc (k_palinglaw28_works h7) <| pc (h8) <| pc (k_palinglaw15_Great h10) <| pc (h11) <| pc (h12) <| pc (h13) <| pc (k_palinglaw28_LeaveComes_J1 h43) <| pc (k_palinglaw28_twins h46) <| pc (h47) <| pc (k_mac_Group h49) <| pc (h50) <| pn)
              · obtain ⟨r51, h52, h⟩ := bind_out h
                obtain ⟨l53, v54⟩ := r51
                rcases ite_out h with ⟨h55, h⟩ | ⟨h55, h⟩
                · injection h with h; subst h; exact runFn_sound mixedOrders Try.func11 rfl (keep := none) (π := [.callv (.v (.bool r6)), .dec false, .callv (.v (.bool r9)), .dec false, .dec false, .dec false, .cut [1, 2, 4, 5, 8, 10] [0, 1] .nor [(1, .v (.int .i64 a2)), (2, .v (.int .i64 a3)), (5, .op 0 1 0 0), (8, .op 1 1 0 0), (10, .v (.bool false))] [.box 61 (c61 a1) false, .box 37 (c37 a4) false], .callv (.v (.bool r45)), .dec false, .callv (.v (.bool r48)), .dec false, .callo (.tup [.os 0 (List.length l53), .v (.int .i64 v54)]) [.arr 5 l53 (List.length l53) false], .dec true]) (hrun := by kernel_rfl) (hps := pc (k_palinglaw28_works h7) <| pc (h8) <| pc (k_palinglaw15_Great h10) <| pc (h11) <| pc (h12) <| pc (h13) <| pc (k_palinglaw28_LeaveComes_J1 h43) <| pc (k_palinglaw28_twins h46) <| pc (h47) <| pc (k_mac_Group h49) <| pc (h50) <| pc (k_leave_Mesh h52) <| pc (im5 l53) <| pc (h55) <| pc ((rfl : ((List.length l53) : Nat) = (List.length l53))) <| pn)
                · obtain ⟨r56, h57, h⟩ := bind_out h
                  obtain ⟨l58, n59, v60, v61, v62, v63, v64, v65⟩ := r56
                  rcases ite_out h with ⟨h66, h⟩ | ⟨h66, h⟩
                  · rcases ite_out h with ⟨h67, h⟩ | ⟨h67, h⟩
                    · rcases ite_out h with ⟨h68, h⟩ | ⟨h68, h⟩
                      · obtain ⟨r69, h70, h⟩ := bind_out h
                        injection h with h; subst h; exact runFn_sound mixedOrders Try.func11 rfl (keep := none) (π := [.callv (.v (.bool r6)), .dec false, .callv (.v (.bool r9)), .dec false, .dec false, .dec false, .cut [1, 2, 4, 5, 8, 10] [0, 1] .nor [(1, .v (.int .i64 a2)), (2, .v (.int .i64 a3)), (5, .op 0 1 0 0), (8, .op 1 1 0 0), (10, .v (.bool false))] [.box 61 (c61 a1) false, .box 37 (c37 a4) false], .callv (.v (.bool r45)), .dec false, .callv (.v (.bool r48)), .dec false, .callo (.tup [.os 0 (List.length l53), .v (.int .i64 v54)]) [.arr 5 l53 (List.length l53) false], .dec false, .callo (.tup [.v (.int .i64 v60), .v (.int .i64 v61), .agg [.v (.int .u64 v62), .v (.int .u64 v63), .v (.int .i64 v64), .os 0 n59], .v (.int .i64 v65)]) [.arr 5 l58 n59 false], .dec true, .dec true, .dec true, .callv (.v (.bool r69))]) (hrun := by kernel_rfl) (hps := pc (k_palinglaw28_works h7) <| pc (h8) <| pc (k_palinglaw15_Great h10) <| pc (h11) <| pc (h12) <| pc (h13) <| pc (k_palinglaw28_LeaveComes_J1 h43) <| pc (k_palinglaw28_twins h46) <| pc (h47) <| pc (k_mac_Group h49) <| pc (h50) <| pc (k_leave_Mesh h52) <| pc (im5 l53) <| pc (h55) <| pc (k_leave_Come h57) <| pc (im5 l58) <| pc ((rfl : ((List.length l53) : Nat) = (List.length l53))) <| pc (h66) <| pc (h67) <| pc (h68) <| pc (k_ether_Same h70) <| pc ((rfl : (n59 : Nat) = n59)) <| pn)
                      · injection h with h; subst h; exact runFn_sound mixedOrders Try.func11 rfl (keep := none) (π := [.callv (.v (.bool r6)), .dec false, .callv (.v (.bool r9)), .dec false, .dec false, .dec false, .cut [1, 2, 4, 5, 8, 10] [0, 1] .nor [(1, .v (.int .i64 a2)), (2, .v (.int .i64 a3)), (5, .op 0 1 0 0), (8, .op 1 1 0 0), (10, .v (.bool false))] [.box 61 (c61 a1) false, .box 37 (c37 a4) false], .callv (.v (.bool r45)), .dec false, .callv (.v (.bool r48)), .dec false, .callo (.tup [.os 0 (List.length l53), .v (.int .i64 v54)]) [.arr 5 l53 (List.length l53) false], .dec false, .callo (.tup [.v (.int .i64 v60), .v (.int .i64 v61), .agg [.v (.int .u64 v62), .v (.int .u64 v63), .v (.int .i64 v64), .os 0 n59], .v (.int .i64 v65)]) [.arr 5 l58 n59 false], .dec true, .dec true, .dec false]) (hrun := by kernel_rfl) (hps := pc (k_palinglaw28_works h7) <| pc (h8) <| pc (k_palinglaw15_Great h10) <| pc (h11) <| pc (h12) <| pc (h13) <| pc (k_palinglaw28_LeaveComes_J1 h43) <| pc (k_palinglaw28_twins h46) <| pc (h47) <| pc (k_mac_Group h49) <| pc (h50) <| pc (k_leave_Mesh h52) <| pc (im5 l53) <| pc (h55) <| pc (k_leave_Come h57) <| pc (im5 l58) <| pc ((rfl : ((List.length l53) : Nat) = (List.length l53))) <| pc (h66) <| pc (h67) <| pc (h68) <| pn)
                    · injection h with h; subst h; exact runFn_sound mixedOrders Try.func11 rfl (keep := none) (π := [.callv (.v (.bool r6)), .dec false, .callv (.v (.bool r9)), .dec false, .dec false, .dec false, .cut [1, 2, 4, 5, 8, 10] [0, 1] .nor [(1, .v (.int .i64 a2)), (2, .v (.int .i64 a3)), (5, .op 0 1 0 0), (8, .op 1 1 0 0), (10, .v (.bool false))] [.box 61 (c61 a1) false, .box 37 (c37 a4) false], .callv (.v (.bool r45)), .dec false, .callv (.v (.bool r48)), .dec false, .callo (.tup [.os 0 (List.length l53), .v (.int .i64 v54)]) [.arr 5 l53 (List.length l53) false], .dec false, .callo (.tup [.v (.int .i64 v60), .v (.int .i64 v61), .agg [.v (.int .u64 v62), .v (.int .u64 v63), .v (.int .i64 v64), .os 0 n59], .v (.int .i64 v65)]) [.arr 5 l58 n59 false], .dec true, .dec false]) (hrun := by kernel_rfl) (hps := pc (k_palinglaw28_works h7) <| pc (h8) <| pc (k_palinglaw15_Great h10) <| pc (h11) <| pc (h12) <| pc (h13) <| pc (k_palinglaw28_LeaveComes_J1 h43) <| pc (k_palinglaw28_twins h46) <| pc (h47) <| pc (k_mac_Group h49) <| pc (h50) <| pc (k_leave_Mesh h52) <| pc (im5 l53) <| pc (h55) <| pc (k_leave_Come h57) <| pc (im5 l58) <| pc ((rfl : ((List.length l53) : Nat) = (List.length l53))) <| pc (h66) <| pc (h67) <| pn)
                  · injection h with h; subst h; exact runFn_sound mixedOrders Try.func11 rfl (keep := none) (π := [.callv (.v (.bool r6)), .dec false, .callv (.v (.bool r9)), .dec false, .dec false, .dec false, .cut [1, 2, 4, 5, 8, 10] [0, 1] .nor [(1, .v (.int .i64 a2)), (2, .v (.int .i64 a3)), (5, .op 0 1 0 0), (8, .op 1 1 0 0), (10, .v (.bool false))] [.box 61 (c61 a1) false, .box 37 (c37 a4) false], .callv (.v (.bool r45)), .dec false, .callv (.v (.bool r48)), .dec false, .callo (.tup [.os 0 (List.length l53), .v (.int .i64 v54)]) [.arr 5 l53 (List.length l53) false], .dec false, .callo (.tup [.v (.int .i64 v60), .v (.int .i64 v61), .agg [.v (.int .u64 v62), .v (.int .u64 v63), .v (.int .i64 v64), .os 0 n59], .v (.int .i64 v65)]) [.arr 5 l58 n59 false], .dec false]) (hrun := by kernel_rfl) (hps := pc (k_palinglaw28_works h7) <| pc (h8) <| pc (k_palinglaw15_Great h10) <| pc (h11) <| pc (h12) <| pc (h13) <| pc (k_palinglaw28_LeaveComes_J1 h43) <| pc (k_palinglaw28_twins h46) <| pc (h47) <| pc (k_mac_Group h49) <| pc (h50) <| pc (k_leave_Mesh h52) <| pc (im5 l53) <| pc (h55) <| pc (k_leave_Come h57) <| pc (im5 l58) <| pc ((rfl : ((List.length l53) : Nat) = (List.length l53))) <| pc (h66) <| pn)

end Go.Eng
