/- Part of the proof of LabelsTells: printed mirrors of the functions, or their contracts. No conditions. -/
import Derived.Test.YtlinloabahbioaaGreatMAK
set_option linter.unusedVariables false
set_option maxRecDepth 100000
namespace Go.Eng
open Go Go.Proofs
theorem k_palinglaw15_Great_L1 {a1 : Api_Net} : LoopOK Tryz.prog UU 0 123 (subC (codeOf Tryz.f8) [1, 1, 0, 1, 0, 0]) (ρ := Unit ⊕ Unit) (palinglaw15_Great_L1 a1)
    (fun v10 : Int => ([(1, .op 0 1 0 0), (2, .v (.bool false)), (3, .v (.int .i64 v10))] : Fr DD)) (fun v10 : Int => ([.box 31 (c31 a1) false] : Heap DD)) (fun r => match r with | Sum.inl _ => .ret | Sum.inr _ => .exit 0) (fun r => match r with | Sum.inl _ => [(2, .v (.bool true))] | Sum.inr _ => [(1, .op 0 1 0 0), (2, .v (.bool false))]) (fun r => match r with | Sum.inl _ => [] | Sum.inr _ => [.box 31 (c31 a1) false]) := by
  refine loop_sound3 (fun s q h => ?_) (fun r => ?_)
  · replace h : palinglaw15_Great_L1 a1 s = some q := h; revert h; revert s; intro v10 h
    unfold palinglaw15_Great_L1 at h
    rcases ite_out h with ⟨h11, h⟩ | ⟨h11, h⟩
    · obtain ⟨x12, h13, h⟩ := bind_out h
      rcases ite_out h with ⟨h14, h⟩ | ⟨h14, h⟩
      · injection h with h; subst h; exact runLp_sound mixedOrders (live := [2]) (ids := []) (π := [.dec true, .row (c65 x12), .dec true]) (hx := by kernel_rfl) (hps := pc (h11) <| pc (ob65 h13) <| pc (h14) <| pn)
      · injection h with h; subst h; exact runLp_sound mixedOrders (live := [1, 2, 3]) (ids := [0]) (π := [.dec true, .row (c65 x12), .dec false]) (hx := by kernel_rfl) (hps := pc (h11) <| pc (ob65 h13) <| pc (h14) <| pn)
    · injection h with h; subst h; exact runLp_sound mixedOrders (live := [1, 2]) (ids := [0]) (π := [.dec false]) (hx := by kernel_rfl) (hps := pc (h11) <| pn)
  · rcases r with _ | _ <;> exact Ex.noConfusion

theorem k_palinglaw15_Great_L2 {a1 : Api_Net} : LoopOK Tryz.prog UU 0 123 (subC (codeOf Tryz.f8) [1, 1, 1, 0, 1, 0, 0]) (ρ := Unit ⊕ Unit) (palinglaw15_Great_L2 a1)
    (fun v17 : Int => ([(1, .op 0 1 0 0), (2, .v (.bool false)), (4, .v (.int .i64 v17))] : Fr DD)) (fun v17 : Int => ([.box 31 (c31 a1) false] : Heap DD)) (fun r => match r with | Sum.inl _ => .ret | Sum.inr _ => .exit 2) (fun r => match r with | Sum.inl _ => [(2, .v (.bool true))] | Sum.inr _ => [(1, .op 0 1 0 0), (2, .v (.bool false))]) (fun r => match r with | Sum.inl _ => [] | Sum.inr _ => [.box 31 (c31 a1) false]) := by
  refine loop_sound3 (fun s q h => ?_) (fun r => ?_)
  · replace h : palinglaw15_Great_L2 a1 s = some q := h; revert h; revert s; intro v17 h
    unfold palinglaw15_Great_L2 at h
    rcases ite_out h with ⟨h18, h⟩ | ⟨h18, h⟩
    · obtain ⟨x19, h20, h⟩ := bind_out h
      rcases ite_out h with ⟨h21, h⟩ | ⟨h21, h⟩
      · injection h with h; subst h; exact runLp_sound mixedOrders (live := [2]) (ids := []) (π := [.dec true, .row (c67 x19), .dec true]) (hx := by kernel_rfl) (hps := pc (h18) <| pc (ob67 h20) <| pc (h21) <| pn)
      · injection h with h; subst h; exact runLp_sound mixedOrders (live := [1, 2, 4]) (ids := [0]) (π := [.dec true, .row (c67 x19), .dec false]) (hx := by kernel_rfl) (hps := pc (h18) <| pc (ob67 h20) <| pc (h21) <| pn)
    · injection h with h; subst h; exact runLp_sound mixedOrders (live := [1, 2]) (ids := [0]) (π := [.dec false]) (hx := by kernel_rfl) (hps := pc (h18) <| pn)
  · rcases r with _ | _ <;> exact Ex.noConfusion

theorem k_palinglaw15_Great_L3 {a1 : Api_Net} : LoopOK Tryz.prog UU 0 123 (subC (codeOf Tryz.f8) [1, 1, 1, 1, 0, 1, 0, 0]) (ρ := Unit ⊕ Unit) (palinglaw15_Great_L3 a1)
    (fun v24 : Int => ([(1, .op 0 1 0 0), (2, .v (.bool false)), (5, .v (.int .i64 v24))] : Fr DD)) (fun v24 : Int => ([.box 31 (c31 a1) false] : Heap DD)) (fun r => match r with | Sum.inl _ => .ret | Sum.inr _ => .exit 4) (fun r => match r with | Sum.inl _ => [(2, .v (.bool true))] | Sum.inr _ => [(1, .op 0 1 0 0), (2, .v (.bool false))]) (fun r => match r with | Sum.inl _ => [] | Sum.inr _ => [.box 31 (c31 a1) false]) := by
  refine loop_sound3 (fun s q h => ?_) (fun r => ?_)
  · replace h : palinglaw15_Great_L3 a1 s = some q := h; revert h; revert s; intro v24 h
    unfold palinglaw15_Great_L3 at h
    rcases ite_out h with ⟨h25, h⟩ | ⟨h25, h⟩
    · obtain ⟨x26, h27, h⟩ := bind_out h
      rcases ite_out h with ⟨h28, h⟩ | ⟨h28, h⟩
      · injection h with h; subst h; exact runLp_sound mixedOrders (live := [2]) (ids := []) (π := [.dec true, .row (c69 x26), .dec true]) (hx := by kernel_rfl) (hps := pc (h25) <| pc (ob69 h27) <| pc (h28) <| pn)
      · injection h with h; subst h; exact runLp_sound mixedOrders (live := [1, 2, 5]) (ids := [0]) (π := [.dec true, .row (c69 x26), .dec false]) (hx := by kernel_rfl) (hps := pc (h25) <| pc (ob69 h27) <| pc (h28) <| pn)
    · injection h with h; subst h; exact runLp_sound mixedOrders (live := [1, 2]) (ids := [0]) (π := [.dec false]) (hx := by kernel_rfl) (hps := pc (h25) <| pn)
  · rcases r with _ | _ <;> exact Ex.noConfusion

theorem k_palinglaw15_Great_L4 {a1 : Api_Net} : LoopOK Tryz.prog UU 0 123 (subC (codeOf Tryz.f8) [1, 1, 1, 1, 1, 0, 1, 0, 0]) (ρ := Unit ⊕ Unit) (palinglaw15_Great_L4 a1)
    (fun v31 : Int => ([(1, .op 0 1 0 0), (2, .v (.bool false)), (6, .v (.int .i64 v31))] : Fr DD)) (fun v31 : Int => ([.box 31 (c31 a1) false] : Heap DD)) (fun r => match r with | Sum.inl _ => .ret | Sum.inr _ => .exit 6) (fun r => match r with | Sum.inl _ => [(2, .v (.bool true))] | Sum.inr _ => [(2, .v (.bool false))]) (fun r => match r with | Sum.inl _ => [] | Sum.inr _ => []) := by
  refine loop_sound3 (fun s q h => ?_) (fun r => ?_)
  · replace h : palinglaw15_Great_L4 a1 s = some q := h; revert h; revert s; intro v31 h
    unfold palinglaw15_Great_L4 at h
    rcases ite_out h with ⟨h32, h⟩ | ⟨h32, h⟩
    · obtain ⟨x33, h34, h⟩ := bind_out h
      rcases ite_out h with ⟨h35, h⟩ | ⟨h35, h⟩
      · injection h with h; subst h; exact runLp_sound mixedOrders (live := [2]) (ids := []) (π := [.dec true, .row (c71 x33), .dec true]) (hx := by kernel_rfl) (hps := pc (h32) <| pc (ob71 h34) <| pc (h35) <| pn)
      · obtain ⟨x36, h37, h⟩ := bind_out h
        rcases ite_out h with ⟨h38, h⟩ | ⟨h38, h⟩
        · injection h with h; subst h; exact runLp_sound mixedOrders (live := [2]) (ids := []) (π := [.dec true, .row (c71 x33), .dec false, .row (c71 x36), .dec true]) (hx := by kernel_rfl) (hps := pc (h32) <| pc (ob71 h34) <| pc (h35) <| pc (ob71 h37) <| pc (h38) <| pn)
        · injection h with h; subst h; exact runLp_sound mixedOrders (live := [1, 2, 6]) (ids := [0]) (π := [.dec true, .row (c71 x33), .dec false, .row (c71 x36), .dec false]) (hx := by kernel_rfl) (hps := pc (h32) <| pc (ob71 h34) <| pc (h35) <| pc (ob71 h37) <| pc (h38) <| pn)
    · injection h with h; subst h; exact runLp_sound mixedOrders (live := [2]) (ids := []) (π := [.dec false]) (hx := by kernel_rfl) (hps := pc (h32) <| pn)
  · rcases r with _ | _ <;> exact Ex.noConfusion

theorem k_palinglaw15_Great {a1 : Api_Net} {r : Bool} (h : palinglaw15_Great a1 = some r) :
    CallsOK Tryz.prog UU 8 [.agg (c31 a1)] [] (.v (.bool r)) [] := by
  unfold palinglaw15_Great at h
  rcases ite_out h with ⟨h2, h⟩ | ⟨h2, h⟩
  · injection h with h; subst h; exact runFn_sound mixedOrders Tryz.func8 rfl (keep := none) (π := [.dec true]) (hrun := by kernel_rfl) (hps := pc (h2) <| pn)
  · rcases ite_out h with ⟨h3, h⟩ | ⟨h3, h⟩
    · injection h with h; subst h; exact runFn_sound mixedOrders Tryz.func8 rfl (keep := none) (π := [.dec false, .dec true]) (hrun := by kernel_rfl) (hps := pc (h2) <| pc (h3) <| pn)
    · rcases ite_out h with ⟨h4, h⟩ | ⟨h4, h⟩
      · injection h with h; subst h; exact runFn_sound mixedOrders Tryz.func8 rfl (keep := none) (π := [.dec false, .dec false, .dec true]) (hrun := by kernel_rfl) (hps := pc (h2) <| pc (h3) <| pc (h4) <| pn)
      · rcases ite_out h with ⟨h5, h⟩ | ⟨h5, h⟩
        · injection h with h; subst h; exact runFn_sound mixedOrders Tryz.func8 rfl (keep := none) (π := [.dec false, .dec false, .dec false, .dec true]) (hrun := by kernel_rfl) (hps := pc (h2) <| pc (h3) <| pc (h4) <| pc (h5) <| pn)
        · rcases ite_out h with ⟨h6, h⟩ | ⟨h6, h⟩
          · injection h with h; subst h; exact runFn_sound mixedOrders Tryz.func8 rfl (keep := none) (π := [.dec false, .dec false, .dec false, .dec false, .dec true]) (hrun := by kernel_rfl) (hps := pc (h2) <| pc (h3) <| pc (h4) <| pc (h5) <| pc (h6) <| pn)
          · rcases ite_out h with ⟨h7, h⟩ | ⟨h7, h⟩
            · injection h with h; subst h; exact runFn_sound mixedOrders Tryz.func8 rfl (keep := none) (π := [.dec false, .dec false, .dec false, .dec false, .dec false, .dec true]) (hrun := by kernel_rfl) (hps := pc (h2) <| pc (h3) <| pc (h4) <| pc (h5) <| pc (h6) <| pc (h7) <| pn)
            · rcases ite_out h with ⟨h8, h⟩ | ⟨h8, h⟩
              · injection h with h; subst h; exact runFn_sound mixedOrders Tryz.func8 rfl (keep := none) (π := [.dec false, .dec false, .dec false, .dec false, .dec false, .dec false, .dec true]) (hrun := by kernel_rfl) (hps := pc (h2) <| pc (h3) <| pc (h4) <| pc (h5) <| pc (h6) <| pc (h7) <| pc (h8) <| pn)
              · rcases ite_out h with ⟨h9, h⟩ | ⟨h9, h⟩
                · injection h with h; subst h; exact runFn_sound mixedOrders Tryz.func8 rfl (keep := none) (π := [.dec false, .dec false, .dec false, .dec false, .dec false, .dec false, .dec false, .dec true]) (hrun := by kernel_rfl) (hps := pc (h2) <| pc (h3) <| pc (h4) <| pc (h5) <| pc (h6) <| pc (h7) <| pc (h8) <| pc (h9) <| pn)
                · obtain ⟨r16, h15, h⟩ := bind_out h
                  rcases r16 with _ | _
                  · injection h with h; subst h; exact runFn_sound mixedOrders Tryz.func8 rfl (keep := none) (π := [.dec false, .dec false, .dec false, .dec false, .dec false, .dec false, .dec false, .dec false, .sum [1, 2, 3] [0] .ret [(2, .v (.bool true))] []]) (hrun := by kernel_rfl) (hps := pc (h2) <| pc (h3) <| pc (h4) <| pc (h5) <| pc (h6) <| pc (h7) <| pc (h8) <| pc (h9) <| pc (k_palinglaw15_Great_L1 _ _ h15) <| pn)
                  · obtain ⟨r23, h22, h⟩ := bind_out h
                    rcases r23 with _ | _
                    · injection h with h; subst h; exact runFn_sound mixedOrders Tryz.func8 rfl (keep := none) (π := [.dec false, .dec false, .dec false, .dec false, .dec false, .dec false, .dec false, .dec false, .sum [1, 2, 3] [0] (.exit 0) [(1, .op 0 1 0 0), (2, .v (.bool false))] [.box 31 (c31 a1) false], .sum [1, 2, 4] [0] .ret [(2, .v (.bool true))] []]) (hrun := by kernel_rfl) (hps := pc (h2) <| pc (h3) <| pc (h4) <| pc (h5) <| pc (h6) <| pc (h7) <| pc (h8) <| pc (h9) <| pc (k_palinglaw15_Great_L1 _ _ h15) <| pc (k_palinglaw15_Great_L2 _ _ h22) <| pn)
                    · obtain ⟨r30, h29, h⟩ := bind_out h
                      rcases r30 with _ | _
                      · injection h with h; subst h; exact runFn_sound mixedOrders Tryz.func8 rfl (keep := none) (π := [.dec false, .dec false, .dec false, .dec false, .dec false, .dec false, .dec false, .dec false, .sum [1, 2, 3] [0] (.exit 0) [(1, .op 0 1 0 0), (2, .v (.bool false))] [.box 31 (c31 a1) false], .sum [1, 2, 4] [0] (.exit 2) [(1, .op 0 1 0 0), (2, .v (.bool false))] [.box 31 (c31 a1) false], .sum [1, 2, 5] [0] .ret [(2, .v (.bool true))] []]) (hrun := by kernel_rfl) (hps := pc (h2) <| pc (h3) <| pc (h4) <| pc (h5) <| pc (h6) <| pc (h7) <| pc (h8) <| pc (h9) <| pc (k_palinglaw15_Great_L1 _ _ h15) <| pc (k_palinglaw15_Great_L2 _ _ h22) <| pc (k_palinglaw15_Great_L3 _ _ h29) <| pn)
                      · obtain ⟨r40, h39, h⟩ := bind_out h
                        rcases r40 with _ | _
                        · injection h with h; subst h; exact runFn_sound mixedOrders Tryz.func8 rfl (keep := none) (π := [.dec false, .dec false, .dec false, .dec false, .dec false, .dec false, .dec false, .dec false, .sum [1, 2, 3] [0] (.exit 0) [(1, .op 0 1 0 0), (2, .v (.bool false))] [.box 31 (c31 a1) false], .sum [1, 2, 4] [0] (.exit 2) [(1, .op 0 1 0 0), (2, .v (.bool false))] [.box 31 (c31 a1) false], .sum [1, 2, 5] [0] (.exit 4) [(1, .op 0 1 0 0), (2, .v (.bool false))] [.box 31 (c31 a1) false], .sum [1, 2, 6] [0] .ret [(2, .v (.bool true))] []]) (hrun := by kernel_rfl) (hps := pc (h2) <| pc (h3) <| pc (h4) <| pc (h5) <| pc (h6) <| pc (h7) <| pc (h8) <| pc (h9) <| pc (k_palinglaw15_Great_L1 _ _ h15) <| pc (k_palinglaw15_Great_L2 _ _ h22) <| pc (k_palinglaw15_Great_L3 _ _ h29) <| pc (k_palinglaw15_Great_L4 _ _ h39) <| pn)
                        · injection h with h; subst h; exact runFn_sound mixedOrders Tryz.func8 rfl (keep := none) (π := [.dec false, .dec false, .dec false, .dec false, .dec false, .dec false, .dec false, .dec false, .sum [1, 2, 3] [0] (.exit 0) [(1, .op 0 1 0 0), (2, .v (.bool false))] [.box 31 (c31 a1) false], .sum [1, 2, 4] [0] (.exit 2) [(1, .op 0 1 0 0), (2, .v (.bool false))] [.box 31 (c31 a1) false], .sum [1, 2, 5] [0] (.exit 4) [(1, .op 0 1 0 0), (2, .v (.bool false))] [.box 31 (c31 a1) false], .sum [1, 2, 6] [0] (.exit 6) [(2, .v (.bool false))] []]) (hrun := by kernel_rfl) (hps := pc (h2) <| pc (h3) <| pc (h4) <| pc (h5) <| pc (h6) <| pc (h7) <| pc (h8) <| pc (h9) <| pc (k_palinglaw15_Great_L1 _ _ h15) <| pc (k_palinglaw15_Great_L2 _ _ h22) <| pc (k_palinglaw15_Great_L3 _ _ h29) <| pc (k_palinglaw15_Great_L4 _ _ h39) <| pn)

theorem k_names_judge_few {a1 : Names_judge} {r : Bool} (h : names_judge_few a1 = some r) :
    CallsOK Tryz.prog UU 98 [.agg (c145 a1)] [] (.v (.bool r)) [] := by
  unfold names_judge_few at h
  rcases ite_out h with ⟨h2, h⟩ | ⟨h2, h⟩
  · rcases ite_out h with ⟨h3, h⟩ | ⟨h3, h⟩
    · rcases ite_out h with ⟨h4, h⟩ | ⟨h4, h⟩
      · rcases ite_out h with ⟨h5, h⟩ | ⟨h5, h⟩
        · rcases ite_out h with ⟨h6, h⟩ | ⟨h6, h⟩
          · rcases ite_out h with ⟨h7, h⟩ | ⟨h7, h⟩
            · rcases ite_out h with ⟨h8, h⟩ | ⟨h8, h⟩
              · injection h with h; subst h; exact runFn_sound mixedOrders Tryz.func98 rfl (keep := none) (π := [.dec true, .dec true, .dec true, .dec true, .dec true, .dec true, .dec true]) (hrun := by kernel_rfl) (hps := pc (h2) <| pc (h3) <| pc (h4) <| pc (h5) <| pc (h6) <| pc (h7) <| pc (h8) <| pn)
              · injection h with h; subst h; exact runFn_sound mixedOrders Tryz.func98 rfl (keep := none) (π := [.dec true, .dec true, .dec true, .dec true, .dec true, .dec true, .dec false]) (hrun := by kernel_rfl) (hps := pc (h2) <| pc (h3) <| pc (h4) <| pc (h5) <| pc (h6) <| pc (h7) <| pc (h8) <| pn)
            · injection h with h; subst h; exact runFn_sound mixedOrders Tryz.func98 rfl (keep := none) (π := [.dec true, .dec true, .dec true, .dec true, .dec true, .dec false]) (hrun := by kernel_rfl) (hps := pc (h2) <| pc (h3) <| pc (h4) <| pc (h5) <| pc (h6) <| pc (h7) <| pn)
          · injection h with h; subst h; exact runFn_sound mixedOrders Tryz.func98 rfl (keep := none) (π := [.dec true, .dec true, .dec true, .dec true, .dec false]) (hrun := by kernel_rfl) (hps := pc (h2) <| pc (h3) <| pc (h4) <| pc (h5) <| pc (h6) <| pn)
        · injection h with h; subst h; exact runFn_sound mixedOrders Tryz.func98 rfl (keep := none) (π := [.dec true, .dec true, .dec true, .dec false]) (hrun := by kernel_rfl) (hps := pc (h2) <| pc (h3) <| pc (h4) <| pc (h5) <| pn)
      · injection h with h; subst h; exact runFn_sound mixedOrders Tryz.func98 rfl (keep := none) (π := [.dec true, .dec true, .dec false]) (hrun := by kernel_rfl) (hps := pc (h2) <| pc (h3) <| pc (h4) <| pn)
    · injection h with h; subst h; exact runFn_sound mixedOrders Tryz.func98 rfl (keep := none) (π := [.dec true, .dec false]) (hrun := by kernel_rfl) (hps := pc (h2) <| pc (h3) <| pn)
  · injection h with h; subst h; exact runFn_sound mixedOrders Tryz.func98 rfl (keep := none) (π := [.dec false]) (hrun := by kernel_rfl) (hps := pc (h2) <| pn)

theorem k_names_place_Device {a1 : List Api_Device} {a2 : Int} {r : Bool} (h : names_place_Device a1 a2 = some r) :
    CallsOK Tryz.prog UU 110 [.sl 73 a1, .v (.int .i64 a2)] [] (.v (.bool r)) [] := by
  unfold names_place_Device at h
  rcases ite_out h with ⟨h3, h⟩ | ⟨h3, h⟩
  · injection h with h; subst h; exact runFn_sound mixedOrders Tryz.func110 rfl (keep := none) (π := [.dec true]) (hrun := by kernel_rfl) (hps := pc (h3) <| pn)
  · injection h with h; subst h; exact runFn_sound mixedOrders Tryz.func110 rfl (keep := none) (π := [.dec false]) (hrun := by kernel_rfl) (hps := pc (h3) <| pn)

theorem k_names_judge_domain_1 {a1 : Api_Domain} {a2 : Int} {a3 : Int} {r : Bool} (h : names_judge_domain_1 a1 a2 a3 = some r) :
    CallsOK Tryz.prog UU 183 [.agg (c67 a1), .rp (c3 a2) 0, .rp (c3 a3) 0] [] (.v (.bool r)) [] := by
  unfold names_judge_domain_1 at h
  rcases ite_out h with ⟨h4, h⟩ | ⟨h4, h⟩
  · injection h with h; subst h; exact runFn_sound mixedOrders Tryz.func183 rfl (keep := none) (π := [.dec true]) (hrun := by kernel_rfl) (hps := pc (h4) <| pn)
  · injection h with h; subst h; exact runFn_sound mixedOrders Tryz.func183 rfl (keep := none) (π := [.dec false]) (hrun := by kernel_rfl) (hps := pc (h4) <| pn)

theorem k_slices_IndexFunc_Domain_judge_domain_1_L1 {a1 : List Api_Domain} {a2 : Int} {a3 : Int} : LoopOK Tryz.prog UU 0 19 (subC (codeOf Tryz.f136) [1, 0, 1, 0, 0]) (ρ := Int ⊕ Unit) (slices_IndexFunc_Domain_judge_domain_1_L1 a1 a2 a3)
    (fun v4 : Int => ([(0, .sl 67 a1), (1, .fn (.func 183) [] [.rp (c3 a2) 0, .rp (c3 a3) 0]), (4, .z), (7, .v (.int .i64 (a1.length : Int))), (8, .v (.int .i64 v4))] : Fr DD)) (fun v4 : Int => ([] : Heap DD)) (fun r => match r with | Sum.inl v12 => .ret | Sum.inr _ => .exit 0) (fun r => match r with | Sum.inl v12 => [(4, .v (.int .i64 v12))] | Sum.inr _ => [(4, .z)]) (fun r => match r with | Sum.inl v12 => [] | Sum.inr _ => []) := by
  refine loop_sound3 (fun s q h => ?_) (fun r => ?_)
  · replace h : slices_IndexFunc_Domain_judge_domain_1_L1 a1 a2 a3 s = some q := h; revert h; revert s; intro v4 h
    unfold slices_IndexFunc_Domain_judge_domain_1_L1 at h
    rcases ite_out h with ⟨h5, h⟩ | ⟨h5, h⟩
    · obtain ⟨x6, h7, h⟩ := bind_out h
      obtain ⟨r8, h9, h⟩ := bind_out h
      rcases ite_out h with ⟨h10, h⟩ | ⟨h10, h⟩
      · injection h with h; subst h; exact runLp_sound mixedOrders (live := [4]) (ids := []) (π := [.dec true, .row (c67 x6), .callv (.v (.bool r8)), .dec true]) (hx := by kernel_rfl) (hps := pc (h5) <| pc (ob67 h7) <| pc (k_names_judge_domain_1 h9) <| pc (h10) <| pn)
      · injection h with h; subst h; exact runLp_sound mixedOrders (live := [0, 1, 4, 7, 8]) (ids := []) (π := [.dec true, .row (c67 x6), .callv (.v (.bool r8)), .dec false]) (hx := by kernel_rfl) (hps := pc (h5) <| pc (ob67 h7) <| pc (k_names_judge_domain_1 h9) <| pc (h10) <| pn)
    · injection h with h; subst h; exact runLp_sound mixedOrders (live := [4]) (ids := []) (π := [.dec false]) (hx := by kernel_rfl) (hps := pc (h5) <| pn)
  · rcases r with _ | _ <;> exact Ex.noConfusion

theorem k_slices_IndexFunc_Domain_judge_domain_1 {a1 : List Api_Domain} {a2 : Int} {a3 : Int} {r : Int} (h : slices_IndexFunc_Domain_judge_domain_1 a1 a2 a3 = some r) :
    CallsOK Tryz.prog UU 136 [.sl 67 a1, .fn (.func 183) [] [.rp (c3 a2) 0, .rp (c3 a3) 0]] [] (.v (.int .i64 r)) [] := by
  unfold slices_IndexFunc_Domain_judge_domain_1 at h
  obtain ⟨r14, h13, h⟩ := bind_out h
  rcases r14 with v12 | _
  · injection h with h; subst h; exact runFn_sound mixedOrders Tryz.func136 rfl (keep := none) (π := [.sum [0, 1, 4, 7, 8] [] .ret [(4, .v (.int .i64 v12))] []]) (hrun := by kernel_rfl) (hps := pc (k_slices_IndexFunc_Domain_judge_domain_1_L1 _ _ h13) <| pn)
  · injection h with h; subst h; exact runFn_sound mixedOrders Tryz.func136 rfl (keep := none) (π := [.sum [0, 1, 4, 7, 8] [] (.exit 0) [(4, .z)] []]) (hrun := by kernel_rfl) (hps := pc (k_slices_IndexFunc_Domain_judge_domain_1_L1 _ _ h13) <| pn)

theorem k_names_judge_domain {a1 : Names_judge} {a2 : Int} {a3 : Int} {r : Int} (h : names_judge_domain a1 a2 a3 = some r) :
    CallsOK Tryz.prog UU 159 [.agg (c145 a1), .v (.int .i64 a2), .v (.int .i64 a3)] [] (.v (.int .i64 r)) [] := by
  unfold names_judge_domain at h
  obtain ⟨r4, h5, h⟩ := bind_out h
  injection h with h; subst h; exact runFn_sound mixedOrders Tryz.func159 rfl (keep := none) (π := [.callv (.v (.int .i64 r4))]) (hrun := by kernel_rfl) (hps := pc (k_slices_IndexFunc_Domain_judge_domain_1 h5) <| pn)

theorem k_names_place_Irb {a1 : List Api_Irb} {a2 : Int} {r : Bool} (h : names_place_Irb a1 a2 = some r) :
    CallsOK Tryz.prog UU 158 [.sl 165 a1, .v (.int .i64 a2)] [] (.v (.bool r)) [] := by
  unfold names_place_Irb at h
  rcases ite_out h with ⟨h3, h⟩ | ⟨h3, h⟩
  · injection h with h; subst h; exact runFn_sound mixedOrders Tryz.func158 rfl (keep := none) (π := [.dec true]) (hrun := by kernel_rfl) (hps := pc (h3) <| pn)
  · injection h with h; subst h; exact runFn_sound mixedOrders Tryz.func158 rfl (keep := none) (π := [.dec false]) (hrun := by kernel_rfl) (hps := pc (h3) <| pn)

theorem k_names_judge_bare {a1 : Names_judge} {a2 : Int} {a3 : Api_Domain} {r : Bool} (h : names_judge_bare a1 a2 a3 = some r) :
    CallsOK Tryz.prog UU 100 [.agg (c145 a1), .v (.int .i64 a2), .agg (c67 a3)] [] (.v (.bool r)) [] := by
  unfold names_judge_bare at h
  obtain ⟨r4, h5, h⟩ := bind_out h
  rcases ite_out h with ⟨h6, h⟩ | ⟨h6, h⟩
  · rcases ite_out h with ⟨h7, h⟩ | ⟨h7, h⟩
    · rcases ite_out h with ⟨h8, h⟩ | ⟨h8, h⟩
      · rcases ite_out h with ⟨h9, h⟩ | ⟨h9, h⟩
        · rcases ite_out h with ⟨h10, h⟩ | ⟨h10, h⟩
          · rcases ite_out h with ⟨h11, h⟩ | ⟨h11, h⟩
            · obtain ⟨r12, h13, h⟩ := bind_out h
              injection h with h; subst h; exact runFn_sound mixedOrders Tryz.func100 rfl (keep := none) (π := [.callv (.v (.bool r4)), .dec true, .dec true, .dec true, .dec true, .dec true, .dec true, .callv (.v (.int .i64 r12))]) (hrun := by kernel_rfl) (hps := pc (k_names_place_Device h5) <| pc (h6) <| pc (h7) <| pc (h8) <| pc (h9) <| pc (h10) <| pc (h11) <| pc (k_names_judge_domain h13) <| pn)
            · obtain ⟨r14, h15, h⟩ := bind_out h
              rcases ite_out h with ⟨h16, h⟩ | ⟨h16, h⟩
              · obtain ⟨x17, h18, h⟩ := bind_out h
                rcases ite_out h with ⟨h19, h⟩ | ⟨h19, h⟩
                · obtain ⟨r20, h21, h⟩ := bind_out h
                  injection h with h; subst h; exact runFn_sound mixedOrders Tryz.func100 rfl (keep := none) (π := [.callv (.v (.bool r4)), .dec true, .dec true, .dec true, .dec true, .dec true, .dec false, .callv (.v (.bool r14)), .dec true, .row (c165 x17), .dec true, .callv (.v (.int .i64 r20))]) (hrun := by kernel_rfl) (hps := pc (k_names_place_Device h5) <| pc (h6) <| pc (h7) <| pc (h8) <| pc (h9) <| pc (h10) <| pc (h11) <| pc (k_names_place_Irb h15) <| pc (h16) <| pc (ob165 h18) <| pc (h19) <| pc (k_names_judge_domain h21) <| pn)
                · injection h with h; subst h; exact runFn_sound mixedOrders Tryz.func100 rfl (keep := none) (π := [.callv (.v (.bool r4)), .dec true, .dec true, .dec true, .dec true, .dec true, .dec false, .callv (.v (.bool r14)), .dec true, .row (c165 x17), .dec false]) (hrun := by kernel_rfl) (hps := pc (k_names_place_Device h5) <| pc (h6) <| pc (h7) <| pc (h8) <| pc (h9) <| pc (h10) <| pc (h11) <| pc (k_names_place_Irb h15) <| pc (h16) <| pc (ob165 h18) <| pc (h19) <| pn)
              · injection h with h; subst h; exact runFn_sound mixedOrders Tryz.func100 rfl (keep := none) (π := [.callv (.v (.bool r4)), .dec true, .dec true, .dec true, .dec true, .dec true, .dec false, .callv (.v (.bool r14)), .dec false]) (hrun := by kernel_rfl) (hps := pc (k_names_place_Device h5) <| pc (h6) <| pc (h7) <| pc (h8) <| pc (h9) <| pc (h10) <| pc (h11) <| pc (k_names_place_Irb h15) <| pc (h16) <| pn)
          · injection h with h; subst h; exact runFn_sound mixedOrders Tryz.func100 rfl (keep := none) (π := [.callv (.v (.bool r4)), .dec true, .dec true, .dec true, .dec true, .dec false]) (hrun := by kernel_rfl) (hps := pc (k_names_place_Device h5) <| pc (h6) <| pc (h7) <| pc (h8) <| pc (h9) <| pc (h10) <| pn)
        · injection h with h; subst h; exact runFn_sound mixedOrders Tryz.func100 rfl (keep := none) (π := [.callv (.v (.bool r4)), .dec true, .dec true, .dec true, .dec false]) (hrun := by kernel_rfl) (hps := pc (k_names_place_Device h5) <| pc (h6) <| pc (h7) <| pc (h8) <| pc (h9) <| pn)
      · injection h with h; subst h; exact runFn_sound mixedOrders Tryz.func100 rfl (keep := none) (π := [.callv (.v (.bool r4)), .dec true, .dec true, .dec false]) (hrun := by kernel_rfl) (hps := pc (k_names_place_Device h5) <| pc (h6) <| pc (h7) <| pc (h8) <| pn)
    · injection h with h; subst h; exact runFn_sound mixedOrders Tryz.func100 rfl (keep := none) (π := [.callv (.v (.bool r4)), .dec true, .dec false]) (hrun := by kernel_rfl) (hps := pc (k_names_place_Device h5) <| pc (h6) <| pc (h7) <| pn)
  · injection h with h; subst h; exact runFn_sound mixedOrders Tryz.func100 rfl (keep := none) (π := [.callv (.v (.bool r4)), .dec false]) (hrun := by kernel_rfl) (hps := pc (k_names_place_Device h5) <| pc (h6) <| pn)

theorem k_names_all_Domain_judge_bare_L1 {a1 : List Api_Domain} {a2 : Names_judge} : LoopOK Tryz.prog UU 0 20 (subC (codeOf Tryz.f99) [1, 0, 1, 0, 0]) (ρ := Unit ⊕ Unit) (names_all_Domain_judge_bare_L1 a1 a2)
    (fun v3 : Int => ([(1, .fn (.func 100) [.agg (c145 a2)] []), (4, .v (.bool false)), (7, .sl 67 a1), (8, .v (.int .i64 (a1.length : Int))), (9, .v (.int .i64 v3))] : Fr DD)) (fun v3 : Int => ([] : Heap DD)) (fun r => match r with | Sum.inl _ => .ret | Sum.inr _ => .exit 0) (fun r => match r with | Sum.inl _ => [(4, .v (.bool false))] | Sum.inr _ => [(4, .v (.bool false))]) (fun r => match r with | Sum.inl _ => [] | Sum.inr _ => []) := by
  refine loop_sound3 (fun s q h => ?_) (fun r => ?_)
  · replace h : names_all_Domain_judge_bare_L1 a1 a2 s = some q := h; revert h; revert s; intro v3 h
    unfold names_all_Domain_judge_bare_L1 at h
    rcases ite_out h with ⟨h4, h⟩ | ⟨h4, h⟩
    · obtain ⟨x5, h6, h⟩ := bind_out h
      obtain ⟨r7, h8, h⟩ := bind_out h
      rcases ite_out h with ⟨h9, h⟩ | ⟨h9, h⟩
      · injection h with h; subst h; exact runLp_sound mixedOrders (live := [4]) (ids := []) (π := [.dec true, .row (c67 x5), .callv (.v (.bool r7)), .dec true]) (hx := by kernel_rfl) (hps := pc (h4) <| pc (ob67 h6) <| pc (k_names_judge_bare h8) <| pc (h9) <| pn)
      · injection h with h; subst h; exact runLp_sound mixedOrders (live := [1, 4, 7, 8, 9]) (ids := []) (π := [.dec true, .row (c67 x5), .callv (.v (.bool r7)), .dec false]) (hx := by kernel_rfl) (hps := pc (h4) <| pc (ob67 h6) <| pc (k_names_judge_bare h8) <| pc (h9) <| pn)
    · injection h with h; subst h; exact runLp_sound mixedOrders (live := [4]) (ids := []) (π := [.dec false]) (hx := by kernel_rfl) (hps := pc (h4) <| pn)
  · rcases r with _ | _ <;> exact Ex.noConfusion

theorem k_names_all_Domain_judge_bare {a1 : List Api_Domain} {a2 : Names_judge} {r : Bool} (h : names_all_Domain_judge_bare a1 a2 = some r) :
    CallsOK Tryz.prog UU 99 [.sl 67 a1, .fn (.func 100) [.agg (c145 a2)] []] [] (.v (.bool r)) [] := by
  unfold names_all_Domain_judge_bare at h
  obtain ⟨r11, h10, h⟩ := bind_out h
  rcases r11 with _ | _
  · injection h with h; subst h; exact runFn_sound mixedOrders Tryz.func99 rfl (keep := none) (π := [.sum [1, 4, 7, 8, 9] [] .ret [(4, .v (.bool false))] []]) (hrun := by kernel_rfl) (hps := pc (k_names_all_Domain_judge_bare_L1 _ _ h10) <| pn)
  · injection h with h; subst h; exact runFn_sound mixedOrders Tryz.func99 rfl (keep := none) (π := [.sum [1, 4, 7, 8, 9] [] (.exit 0) [(4, .v (.bool false))] []]) (hrun := by kernel_rfl) (hps := pc (k_names_all_Domain_judge_bare_L1 _ _ h10) <| pn)

theorem k_names_place_Domain {a1 : List Api_Domain} {a2 : Int} {r : Bool} (h : names_place_Domain a1 a2 = some r) :
    CallsOK Tryz.prog UU 87 [.sl 67 a1, .v (.int .i64 a2)] [] (.v (.bool r)) [] := by
  unfold names_place_Domain at h
  rcases ite_out h with ⟨h3, h⟩ | ⟨h3, h⟩
  · injection h with h; subst h; exact runFn_sound mixedOrders Tryz.func87 rfl (keep := none) (π := [.dec true]) (hrun := by kernel_rfl) (hps := pc (h3) <| pn)
  · injection h with h; subst h; exact runFn_sound mixedOrders Tryz.func87 rfl (keep := none) (π := [.dec false]) (hrun := by kernel_rfl) (hps := pc (h3) <| pn)

theorem k_names_judge_vtep {a1 : Names_judge} {a2 : Api_Domain} {r : Bool} (h : names_judge_vtep a1 a2 = some r) :
    CallsOK Tryz.prog UU 184 [.agg (c145 a1), .agg (c67 a2)] [] (.v (.bool r)) [] := by
  unfold names_judge_vtep at h
  obtain ⟨x3, h4, h⟩ := bind_out h
  injection h with h; subst h; exact runFn_sound mixedOrders Tryz.func184 rfl (keep := none) (π := [.row (c73 x3)]) (hrun := by kernel_rfl) (hps := pc (ob73 h4) <| pn)

theorem k_slices_Index_int_L1 {a1 : List Int} {a2 : Int} : LoopOK Tryz.prog UU 0 19 (subC (codeOf Tryz.f149) [1, 0, 1, 0, 0]) (ρ := Int ⊕ Unit) (slices_Index_int_L1 a1 a2)
    (fun v3 : Int => ([(0, .sl 3 a1), (1, .v (.int .i64 a2)), (4, .z), (7, .v (.int .i64 (a1.length : Int))), (8, .v (.int .i64 v3))] : Fr DD)) (fun v3 : Int => ([] : Heap DD)) (fun r => match r with | Sum.inl v9 => .ret | Sum.inr _ => .exit 0) (fun r => match r with | Sum.inl v9 => [(4, .v (.int .i64 v9))] | Sum.inr _ => [(4, .z)]) (fun r => match r with | Sum.inl v9 => [] | Sum.inr _ => []) := by
  refine loop_sound3 (fun s q h => ?_) (fun r => ?_)
  · replace h : slices_Index_int_L1 a1 a2 s = some q := h; revert h; revert s; intro v3 h
    unfold slices_Index_int_L1 at h
    rcases ite_out h with ⟨h4, h⟩ | ⟨h4, h⟩
    · obtain ⟨x5, h6, h⟩ := bind_out h
      rcases ite_out h with ⟨h7, h⟩ | ⟨h7, h⟩
      · injection h with h; subst h; exact runLp_sound mixedOrders (live := [4]) (ids := []) (π := [.dec true, .row (c3 x5), .dec true]) (hx := by kernel_rfl) (hps := pc (h4) <| pc (ob3 h6) <| pc (h7) <| pn)
      · injection h with h; subst h; exact runLp_sound mixedOrders (live := [0, 1, 4, 7, 8]) (ids := []) (π := [.dec true, .row (c3 x5), .dec false]) (hx := by kernel_rfl) (hps := pc (h4) <| pc (ob3 h6) <| pc (h7) <| pn)
    · injection h with h; subst h; exact runLp_sound mixedOrders (live := [4]) (ids := []) (π := [.dec false]) (hx := by kernel_rfl) (hps := pc (h4) <| pn)
  · rcases r with _ | _ <;> exact Ex.noConfusion

theorem k_slices_Index_int {a1 : List Int} {a2 : Int} {r : Int} (h : slices_Index_int a1 a2 = some r) :
    CallsOK Tryz.prog UU 149 [.sl 3 a1, .v (.int .i64 a2)] [] (.v (.int .i64 r)) [] := by
  unfold slices_Index_int at h
  obtain ⟨r11, h10, h⟩ := bind_out h
  rcases r11 with v9 | _
  · injection h with h; subst h; exact runFn_sound mixedOrders Tryz.func149 rfl (keep := none) (π := [.sum [0, 1, 4, 7, 8] [] .ret [(4, .v (.int .i64 v9))] []]) (hrun := by kernel_rfl) (hps := pc (k_slices_Index_int_L1 _ _ h10) <| pn)
  · injection h with h; subst h; exact runFn_sound mixedOrders Tryz.func149 rfl (keep := none) (π := [.sum [0, 1, 4, 7, 8] [] (.exit 0) [(4, .z)] []]) (hrun := by kernel_rfl) (hps := pc (k_slices_Index_int_L1 _ _ h10) <| pn)

theorem k_slices_Contains_int {a1 : List Int} {a2 : Int} {r : Bool} (h : slices_Contains_int a1 a2 = some r) :
    CallsOK Tryz.prog UU 94 [.sl 3 a1, .v (.int .i64 a2)] [] (.v (.bool r)) [] := by
  unfold slices_Contains_int at h
  obtain ⟨r3, h4, h⟩ := bind_out h
  injection h with h; subst h; exact runFn_sound mixedOrders Tryz.func94 rfl (keep := none) (π := [.callv (.v (.int .i64 r3))]) (hrun := by kernel_rfl) (hps := pc (k_slices_Index_int h4) <| pn)

theorem k_names_judge_peer {a1 : Names_judge} {a2 : Int} {a3 : Api_Domain} {a4 : Int} {r : Bool} (h : names_judge_peer a1 a2 a3 a4 = some r) :
    CallsOK Tryz.prog UU 162 [.agg (c145 a1), .v (.int .i64 a2), .agg (c67 a3), .v (.int .i64 a4)] [] (.v (.bool r)) [] := by
  unfold names_judge_peer at h
  obtain ⟨r5, h6, h⟩ := bind_out h
  rcases ite_out h with ⟨h7, h⟩ | ⟨h7, h⟩
  · injection h with h; subst h; exact runFn_sound mixedOrders Tryz.func162 rfl (keep := none) (π := [.callv (.v (.bool r5)), .dec true]) (hrun := by kernel_rfl) (hps := pc (k_names_place_Domain h6) <| pc (h7) <| pn)
  · rcases ite_out h with ⟨h8, h⟩ | ⟨h8, h⟩
    · injection h with h; subst h; exact runFn_sound mixedOrders Tryz.func162 rfl (keep := none) (π := [.callv (.v (.bool r5)), .dec false, .dec true]) (hrun := by kernel_rfl) (hps := pc (k_names_place_Domain h6) <| pc (h7) <| pc (h8) <| pn)
    · obtain ⟨x9, h10, h⟩ := bind_out h
      obtain ⟨r11, h12, h⟩ := bind_out h
      rcases ite_out h with ⟨h13, h⟩ | ⟨h13, h⟩
      · rcases ite_out h with ⟨h14, h⟩ | ⟨h14, h⟩
        · rcases ite_out h with ⟨h15, h⟩ | ⟨h15, h⟩
          · rcases ite_out h with ⟨h16, h⟩ | ⟨h16, h⟩
            · obtain ⟨r17, h18, h⟩ := bind_out h
              rcases ite_out h with ⟨h19, h⟩ | ⟨h19, h⟩
              · obtain ⟨r20, h21, h⟩ := bind_out h
                rcases ite_out h with ⟨h22, h⟩ | ⟨h22, h⟩
                · obtain ⟨r23, h24, h⟩ := bind_out h
                  injection h with h; subst h; exact runFn_sound mixedOrders Tryz.func162 rfl (keep := none) (π := [.callv (.v (.bool r5)), .dec false, .dec false, .row (c67 x9), .callv (.v (.bool r11)), .dec true, .dec true, .dec true, .dec true, .callv (.v (.bool r17)), .dec true, .callv (.v (.bool r20)), .dec true, .callv (.v (.bool r23))]) (hrun := by kernel_rfl) (hps := pc (k_names_place_Domain h6) <| pc (h7) <| pc (h8) <| pc (ob67 h10) <| pc (k_names_place_Device h12) <| pc (h13) <| pc (h14) <| pc (h15) <| pc (h16) <| pc (k_names_judge_vtep h18) <| pc (h19) <| pc (k_names_judge_vtep h21) <| pc (h22) <| pc (k_slices_Contains_int h24) <| pn)
                · injection h with h; subst h; exact runFn_sound mixedOrders Tryz.func162 rfl (keep := none) (π := [.callv (.v (.bool r5)), .dec false, .dec false, .row (c67 x9), .callv (.v (.bool r11)), .dec true, .dec true, .dec true, .dec true, .callv (.v (.bool r17)), .dec true, .callv (.v (.bool r20)), .dec false]) (hrun := by kernel_rfl) (hps := pc (k_names_place_Domain h6) <| pc (h7) <| pc (h8) <| pc (ob67 h10) <| pc (k_names_place_Device h12) <| pc (h13) <| pc (h14) <| pc (h15) <| pc (h16) <| pc (k_names_judge_vtep h18) <| pc (h19) <| pc (k_names_judge_vtep h21) <| pc (h22) <| pn)
              · injection h with h; subst h; exact runFn_sound mixedOrders Tryz.func162 rfl (keep := none) (π := [.callv (.v (.bool r5)), .dec false, .dec false, .row (c67 x9), .callv (.v (.bool r11)), .dec true, .dec true, .dec true, .dec true, .callv (.v (.bool r17)), .dec false]) (hrun := by kernel_rfl) (hps := pc (k_names_place_Domain h6) <| pc (h7) <| pc (h8) <| pc (ob67 h10) <| pc (k_names_place_Device h12) <| pc (h13) <| pc (h14) <| pc (h15) <| pc (h16) <| pc (k_names_judge_vtep h18) <| pc (h19) <| pn)
            · injection h with h; subst h; exact runFn_sound mixedOrders Tryz.func162 rfl (keep := none) (π := [.callv (.v (.bool r5)), .dec false, .dec false, .row (c67 x9), .callv (.v (.bool r11)), .dec true, .dec true, .dec true, .dec false]) (hrun := by kernel_rfl) (hps := pc (k_names_place_Domain h6) <| pc (h7) <| pc (h8) <| pc (ob67 h10) <| pc (k_names_place_Device h12) <| pc (h13) <| pc (h14) <| pc (h15) <| pc (h16) <| pn)
          · injection h with h; subst h; exact runFn_sound mixedOrders Tryz.func162 rfl (keep := none) (π := [.callv (.v (.bool r5)), .dec false, .dec false, .row (c67 x9), .callv (.v (.bool r11)), .dec true, .dec true, .dec false]) (hrun := by kernel_rfl) (hps := pc (k_names_place_Domain h6) <| pc (h7) <| pc (h8) <| pc (ob67 h10) <| pc (k_names_place_Device h12) <| pc (h13) <| pc (h14) <| pc (h15) <| pn)
        · injection h with h; subst h; exact runFn_sound mixedOrders Tryz.func162 rfl (keep := none) (π := [.callv (.v (.bool r5)), .dec false, .dec false, .row (c67 x9), .callv (.v (.bool r11)), .dec true, .dec false]) (hrun := by kernel_rfl) (hps := pc (k_names_place_Domain h6) <| pc (h7) <| pc (h8) <| pc (ob67 h10) <| pc (k_names_place_Device h12) <| pc (h13) <| pc (h14) <| pn)
      · injection h with h; subst h; exact runFn_sound mixedOrders Tryz.func162 rfl (keep := none) (π := [.callv (.v (.bool r5)), .dec false, .dec false, .row (c67 x9), .callv (.v (.bool r11)), .dec false]) (hrun := by kernel_rfl) (hps := pc (k_names_place_Domain h6) <| pc (h7) <| pc (h8) <| pc (ob67 h10) <| pc (k_names_place_Device h12) <| pc (h13) <| pn)

theorem k_names_judge_peers_1 {a1 : Int} {a2 : Int} {a3 : Names_judge} {a4 : Int} {a5 : Api_Domain} {r : Bool} (h : names_judge_peers_1 a1 a2 a3 a4 a5 = some r) :
    CallsOK Tryz.prog UU 161 [.v (.int .i64 a1), .v (.int .i64 a2), .rp (c145 a3) 0, .rp (c3 a4) 0, .rp (c67 a5) 0] [] (.v (.bool r)) [] := by
  unfold names_judge_peers_1 at h
  obtain ⟨r6, h7, h⟩ := bind_out h
  rcases ite_out h with ⟨h8, h⟩ | ⟨h8, h⟩
  · obtain ⟨r9, h10, h⟩ := bind_out h
    injection h with h; subst h; exact runFn_sound mixedOrders Tryz.func161 rfl (keep := none) (π := [.callv (.v (.bool r6)), .dec true, .callv (.v (.int .i64 r9))]) (hrun := by kernel_rfl) (hps := pc (k_names_judge_peer h7) <| pc (h8) <| pc (k_slices_Index_int h10) <| pn)
  · injection h with h; subst h; exact runFn_sound mixedOrders Tryz.func161 rfl (keep := none) (π := [.callv (.v (.bool r6)), .dec false]) (hrun := by kernel_rfl) (hps := pc (k_names_judge_peer h7) <| pc (h8) <| pn)

theorem k_names_all_int_judge_peers_1_L1 {a1 : List Int} {a2 : Names_judge} {a3 : Int} {a4 : Api_Domain} : LoopOK Tryz.prog UU 0 20 (subC (codeOf Tryz.f160) [1, 0, 1, 0, 0]) (ρ := Unit ⊕ Unit) (names_all_int_judge_peers_1_L1 a1 a2 a3 a4)
    (fun v5 : Int => ([(1, .fn (.func 161) [] [.rp (c145 a2) 0, .rp (c3 a3) 0, .rp (c67 a4) 0]), (4, .v (.bool false)), (7, .sl 3 a1), (8, .v (.int .i64 (a1.length : Int))), (9, .v (.int .i64 v5))] : Fr DD)) (fun v5 : Int => ([] : Heap DD)) (fun r => match r with | Sum.inl _ => .ret | Sum.inr _ => .exit 0) (fun r => match r with | Sum.inl _ => [(4, .v (.bool false))] | Sum.inr _ => [(4, .v (.bool false))]) (fun r => match r with | Sum.inl _ => [] | Sum.inr _ => []) := by
  refine loop_sound3 (fun s q h => ?_) (fun r => ?_)
  · replace h : names_all_int_judge_peers_1_L1 a1 a2 a3 a4 s = some q := h; revert h; revert s; intro v5 h
    unfold names_all_int_judge_peers_1_L1 at h
    rcases ite_out h with ⟨h6, h⟩ | ⟨h6, h⟩
    · obtain ⟨x7, h8, h⟩ := bind_out h
      obtain ⟨r9, h10, h⟩ := bind_out h
      rcases ite_out h with ⟨h11, h⟩ | ⟨h11, h⟩
      · injection h with h; subst h; exact runLp_sound mixedOrders (live := [4]) (ids := []) (π := [.dec true, .row (c3 x7), .callv (.v (.bool r9)), .dec true]) (hx := by kernel_rfl) (hps := pc (h6) <| pc (ob3 h8) <| pc (k_names_judge_peers_1 h10) <| pc (h11) <| pn)
      · injection h with h; subst h; exact runLp_sound mixedOrders (live := [1, 4, 7, 8, 9]) (ids := []) (π := [.dec true, .row (c3 x7), .callv (.v (.bool r9)), .dec false]) (hx := by kernel_rfl) (hps := pc (h6) <| pc (ob3 h8) <| pc (k_names_judge_peers_1 h10) <| pc (h11) <| pn)
    · injection h with h; subst h; exact runLp_sound mixedOrders (live := [4]) (ids := []) (π := [.dec false]) (hx := by kernel_rfl) (hps := pc (h6) <| pn)
  · rcases r with _ | _ <;> exact Ex.noConfusion

theorem k_names_all_int_judge_peers_1 {a1 : List Int} {a2 : Names_judge} {a3 : Int} {a4 : Api_Domain} {r : Bool} (h : names_all_int_judge_peers_1 a1 a2 a3 a4 = some r) :
    CallsOK Tryz.prog UU 160 [.sl 3 a1, .fn (.func 161) [] [.rp (c145 a2) 0, .rp (c3 a3) 0, .rp (c67 a4) 0]] [] (.v (.bool r)) [] := by
  unfold names_all_int_judge_peers_1 at h
  obtain ⟨r13, h12, h⟩ := bind_out h
  rcases r13 with _ | _
  · injection h with h; subst h; exact runFn_sound mixedOrders Tryz.func160 rfl (keep := none) (π := [.sum [1, 4, 7, 8, 9] [] .ret [(4, .v (.bool false))] []]) (hrun := by kernel_rfl) (hps := pc (k_names_all_int_judge_peers_1_L1 _ _ h12) <| pn)
  · injection h with h; subst h; exact runFn_sound mixedOrders Tryz.func160 rfl (keep := none) (π := [.sum [1, 4, 7, 8, 9] [] (.exit 0) [(4, .v (.bool false))] []]) (hrun := by kernel_rfl) (hps := pc (k_names_all_int_judge_peers_1_L1 _ _ h12) <| pn)

theorem k_names_judge_peers {a1 : Names_judge} {a2 : Int} {a3 : Api_Domain} {r : Bool} (h : names_judge_peers a1 a2 a3 = some r) :
    CallsOK Tryz.prog UU 101 [.agg (c145 a1), .v (.int .i64 a2), .agg (c67 a3)] [] (.v (.bool r)) [] := by
  unfold names_judge_peers at h
  obtain ⟨r4, h5, h⟩ := bind_out h
  injection h with h; subst h; exact runFn_sound mixedOrders Tryz.func101 rfl (keep := none) (π := [.callv (.v (.bool r4))]) (hrun := by kernel_rfl) (hps := pc (k_names_all_int_judge_peers_1 h5) <| pn)

theorem k_names_all_Domain_judge_peers_L1 {a1 : List Api_Domain} {a2 : Names_judge} : LoopOK Tryz.prog UU 0 20 (subC (codeOf Tryz.f99) [1, 0, 1, 0, 0]) (ρ := Unit ⊕ Unit) (names_all_Domain_judge_peers_L1 a1 a2)
    (fun v3 : Int => ([(1, .fn (.func 101) [.agg (c145 a2)] []), (4, .v (.bool false)), (7, .sl 67 a1), (8, .v (.int .i64 (a1.length : Int))), (9, .v (.int .i64 v3))] : Fr DD)) (fun v3 : Int => ([] : Heap DD)) (fun r => match r with | Sum.inl _ => .ret | Sum.inr _ => .exit 0) (fun r => match r with | Sum.inl _ => [(4, .v (.bool false))] | Sum.inr _ => [(4, .v (.bool false))]) (fun r => match r with | Sum.inl _ => [] | Sum.inr _ => []) := by
  refine loop_sound3 (fun s q h => ?_) (fun r => ?_)
  · replace h : names_all_Domain_judge_peers_L1 a1 a2 s = some q := h; revert h; revert s; intro v3 h
    unfold names_all_Domain_judge_peers_L1 at h
    rcases ite_out h with ⟨h4, h⟩ | ⟨h4, h⟩
    · obtain ⟨x5, h6, h⟩ := bind_out h
      obtain ⟨r7, h8, h⟩ := bind_out h
      rcases ite_out h with ⟨h9, h⟩ | ⟨h9, h⟩
      · injection h with h; subst h; exact runLp_sound mixedOrders (live := [4]) (ids := []) (π := [.dec true, .row (c67 x5), .callv (.v (.bool r7)), .dec true]) (hx := by kernel_rfl) (hps := pc (h4) <| pc (ob67 h6) <| pc (k_names_judge_peers h8) <| pc (h9) <| pn)
      · injection h with h; subst h; exact runLp_sound mixedOrders (live := [1, 4, 7, 8, 9]) (ids := []) (π := [.dec true, .row (c67 x5), .callv (.v (.bool r7)), .dec false]) (hx := by kernel_rfl) (hps := pc (h4) <| pc (ob67 h6) <| pc (k_names_judge_peers h8) <| pc (h9) <| pn)
    · injection h with h; subst h; exact runLp_sound mixedOrders (live := [4]) (ids := []) (π := [.dec false]) (hx := by kernel_rfl) (hps := pc (h4) <| pn)
  · rcases r with _ | _ <;> exact Ex.noConfusion

theorem k_names_all_Domain_judge_peers {a1 : List Api_Domain} {a2 : Names_judge} {r : Bool} (h : names_all_Domain_judge_peers a1 a2 = some r) :
    CallsOK Tryz.prog UU 99 [.sl 67 a1, .fn (.func 101) [.agg (c145 a2)] []] [] (.v (.bool r)) [] := by
  unfold names_all_Domain_judge_peers at h
  obtain ⟨r11, h10, h⟩ := bind_out h
  rcases r11 with _ | _
  · injection h with h; subst h; exact runFn_sound mixedOrders Tryz.func99 rfl (keep := none) (π := [.sum [1, 4, 7, 8, 9] [] .ret [(4, .v (.bool false))] []]) (hrun := by kernel_rfl) (hps := pc (k_names_all_Domain_judge_peers_L1 _ _ h10) <| pn)
  · injection h with h; subst h; exact runFn_sound mixedOrders Tryz.func99 rfl (keep := none) (π := [.sum [1, 4, 7, 8, 9] [] (.exit 0) [(4, .v (.bool false))] []]) (hrun := by kernel_rfl) (hps := pc (k_names_all_Domain_judge_peers_L1 _ _ h10) <| pn)

theorem k_num_Rising_L1 {a1 : List Int} {a2 : Int} {a3 : Int} : LoopOK Tryz.prog UU 0 46 (subC (codeOf Tryz.f165) [1, 0, 1, 0, 0]) (ρ := Unit ⊕ Unit) (num_Rising_L1 a1 a2 a3)
    (fun v4 : Int => ([(0, .sl 3 a1), (1, .v (.int .i64 a2)), (2, .v (.int .i64 a3)), (6, .v (.bool false)), (9, .sl 3 a1), (10, .v (.int .i64 (a1.length : Int))), (11, .v (.int .i64 v4))] : Fr DD)) (fun v4 : Int => ([] : Heap DD)) (fun r => match r with | Sum.inl _ => .ret | Sum.inr _ => .exit 0) (fun r => match r with | Sum.inl _ => [(6, .v (.bool false))] | Sum.inr _ => [(0, .sl 3 a1), (6, .v (.bool false))]) (fun r => match r with | Sum.inl _ => [] | Sum.inr _ => []) := by
  refine loop_sound3 (fun s q h => ?_) (fun r => ?_)
  · replace h : num_Rising_L1 a1 a2 a3 s = some q := h; revert h; revert s; intro v4 h
    unfold num_Rising_L1 at h
    rcases ite_out h with ⟨h5, h⟩ | ⟨h5, h⟩
    · obtain ⟨x6, h7, h⟩ := bind_out h
      rcases ite_out h with ⟨h8, h⟩ | ⟨h8, h⟩
      · injection h with h; subst h; exact runLp_sound mixedOrders (live := [6]) (ids := []) (π := [.dec true, .row (c3 x6), .dec true]) (hx := by kernel_rfl) (hps := pc (h5) <| pc (ob3 h7) <| pc (h8) <| pn)
      · rcases ite_out h with ⟨h9, h⟩ | ⟨h9, h⟩
        · injection h with h; subst h; exact runLp_sound mixedOrders (live := [6]) (ids := []) (π := [.dec true, .row (c3 x6), .dec false, .dec true]) (hx := by kernel_rfl) (hps := pc (h5) <| pc (ob3 h7) <| pc (h8) <| pc (h9) <| pn)
        · rcases ite_out h with ⟨h10, h⟩ | ⟨h10, h⟩
          · obtain ⟨x11, h12, h⟩ := bind_out h
            rcases ite_out h with ⟨h13, h⟩ | ⟨h13, h⟩
            · injection h with h; subst h; exact runLp_sound mixedOrders (live := [6]) (ids := []) (π := [.dec true, .row (c3 x6), .dec false, .dec false, .dec true, .row (c3 x11), .dec true]) (hx := by kernel_rfl) (hps := pc (h5) <| pc (ob3 h7) <| pc (h8) <| pc (h9) <| pc (h10) <| pc (ob3 h12) <| pc (h13) <| pn)
            · injection h with h; subst h; exact runLp_sound mixedOrders (live := [0, 1, 2, 6, 9, 10, 11]) (ids := []) (π := [.dec true, .row (c3 x6), .dec false, .dec false, .dec true, .row (c3 x11), .dec false]) (hx := by kernel_rfl) (hps := pc (h5) <| pc (ob3 h7) <| pc (h8) <| pc (h9) <| pc (h10) <| pc (ob3 h12) <| pc (h13) <| pn)
          · injection h with h; subst h; exact runLp_sound mixedOrders (live := [0, 1, 2, 6, 9, 10, 11]) (ids := []) (π := [.dec true, .row (c3 x6), .dec false, .dec false, .dec false]) (hx := by kernel_rfl) (hps := pc (h5) <| pc (ob3 h7) <| pc (h8) <| pc (h9) <| pc (h10) <| pn)
    · injection h with h; subst h; exact runLp_sound mixedOrders (live := [0, 6]) (ids := []) (π := [.dec false]) (hx := by kernel_rfl) (hps := pc (h5) <| pn)
  · rcases r with _ | _ <;> exact Ex.noConfusion

theorem k_num_Rising {a1 : List Int} {a2 : Int} {a3 : Int} {r : Bool} (h : num_Rising a1 a2 a3 = some r) :
    CallsOK Tryz.prog UU 165 [.sl 3 a1, .v (.int .i64 a2), .v (.int .i64 a3)] [] (.v (.bool r)) [] := by
  unfold num_Rising at h
  obtain ⟨r15, h14, h⟩ := bind_out h
  rcases r15 with _ | _
  · injection h with h; subst h; exact runFn_sound mixedOrders Tryz.func165 rfl (keep := none) (π := [.sum [0, 1, 2, 6, 9, 10, 11] [] .ret [(6, .v (.bool false))] []]) (hrun := by kernel_rfl) (hps := pc (k_num_Rising_L1 _ _ h14) <| pn)
  · rcases ite_out h with ⟨h16, h⟩ | ⟨h16, h⟩
    · injection h with h; subst h; exact runFn_sound mixedOrders Tryz.func165 rfl (keep := none) (π := [.sum [0, 1, 2, 6, 9, 10, 11] [] (.exit 0) [(0, .sl 3 a1), (6, .v (.bool false))] [], .dec true]) (hrun := by kernel_rfl) (hps := pc (k_num_Rising_L1 _ _ h14) <| pc (h16) <| pn)
    · injection h with h; subst h; exact runFn_sound mixedOrders Tryz.func165 rfl (keep := none) (π := [.sum [0, 1, 2, 6, 9, 10, 11] [] (.exit 0) [(0, .sl 3 a1), (6, .v (.bool false))] [], .dec false]) (hrun := by kernel_rfl) (hps := pc (k_num_Rising_L1 _ _ h14) <| pc (h16) <| pn)

theorem k_names_rising {a1 : List Int} {a2 : Int} {r : Bool} (h : names_rising a1 a2 = some r) :
    CallsOK Tryz.prog UU 113 [.sl 3 a1, .v (.int .i64 a2)] [] (.v (.bool r)) [] := by
  unfold names_rising at h
  rcases ite_out h with ⟨h3, h⟩ | ⟨h3, h⟩
  · injection h with h; subst h; exact runFn_sound mixedOrders Tryz.func113 rfl (keep := none) (π := [.dec true]) (hrun := by kernel_rfl) (hps := pc (h3) <| pn)
  · obtain ⟨r4, h5, h⟩ := bind_out h
    injection h with h; subst h; exact runFn_sound mixedOrders Tryz.func113 rfl (keep := none) (π := [.dec false, .callv (.v (.bool r4))]) (hrun := by kernel_rfl) (hps := pc (h3) <| pc (k_num_Rising h5) <| pn)

theorem k_names_place_Link {a1 : List Api_Link} {a2 : Int} {r : Bool} (h : names_place_Link a1 a2 = some r) :
    CallsOK Tryz.prog UU 163 [.sl 92 a1, .v (.int .i64 a2)] [] (.v (.bool r)) [] := by
  unfold names_place_Link at h
  rcases ite_out h with ⟨h3, h⟩ | ⟨h3, h⟩
  · injection h with h; subst h; exact runFn_sound mixedOrders Tryz.func163 rfl (keep := none) (π := [.dec true]) (hrun := by kernel_rfl) (hps := pc (h3) <| pn)
  · injection h with h; subst h; exact runFn_sound mixedOrders Tryz.func163 rfl (keep := none) (π := [.dec false]) (hrun := by kernel_rfl) (hps := pc (h3) <| pn)

theorem k_names_judge_port_J1 {a1 : Names_judge} {a2 : Int} {a3 : Api_Port} {r : Unit ⊕ Unit} (h : names_judge_port_J1 a1 a2 a3 = some r) :
    ExecOK Tryz.prog UU 0 111 (subC (codeOf Tryz.f103) [1, 0]) [(1, .v (.int .i64 a2)), (3, .op 0 1 0 0), (5, .op 1 1 0 0), (6, .v (.bool false))] [.box 145 (c145 a1) false, .box 65 (c65 a3) false] ((fun r => match r with | Sum.inl _ => .ret | Sum.inr _ => .nor) r) ((fun r => match r with | Sum.inl _ => [(6, .v (.bool false))] | Sum.inr _ => [(1, .v (.int .i64 a2)), (3, .op 0 1 0 0), (5, .op 1 1 0 0), (6, .v (.bool false))]) r) ((fun r => match r with | Sum.inl _ => [] | Sum.inr _ => [.box 145 (c145 a1) false, .box 65 (c65 a3) false]) r) := by
  unfold names_judge_port_J1 at h
  obtain ⟨r4, h5, h⟩ := bind_out h
  rcases ite_out h with ⟨h6, h⟩ | ⟨h6, h⟩
  · injection h with h; subst h; exact runLp_sound mixedOrders (live := [6]) (ids := []) (π := [.callv (.v (.bool r4)), .dec true]) (hx := by kernel_rfl) (hps := pc (k_names_place_Device h5) <| pc (h6) <| pn)
  · rcases ite_out h with ⟨h7, h⟩ | ⟨h7, h⟩
    · injection h with h; subst h; exact runLp_sound mixedOrders (live := [6]) (ids := []) (π := [.callv (.v (.bool r4)), .dec false, .dec true]) (hx := by kernel_rfl) (hps := pc (k_names_place_Device h5) <| pc (h6) <| pc (h7) <| pn)
    · rcases ite_out h with ⟨h8, h⟩ | ⟨h8, h⟩
      · injection h with h; subst h; exact runLp_sound mixedOrders (live := [6]) (ids := []) (π := [.callv (.v (.bool r4)), .dec false, .dec false, .dec true]) (hx := by kernel_rfl) (hps := pc (k_names_place_Device h5) <| pc (h6) <| pc (h7) <| pc (h8) <| pn)
      · obtain ⟨r9, h10, h⟩ := bind_out h
        rcases ite_out h with ⟨h11, h⟩ | ⟨h11, h⟩
        · injection h with h; subst h; exact runLp_sound mixedOrders (live := [6]) (ids := []) (π := [.callv (.v (.bool r4)), .dec false, .dec false, .dec false, .callv (.v (.bool r9)), .dec true]) (hx := by kernel_rfl) (hps := pc (k_names_place_Device h5) <| pc (h6) <| pc (h7) <| pc (h8) <| pc (k_names_rising h10) <| pc (h11) <| pn)
        · obtain ⟨r12, h13, h⟩ := bind_out h
          rcases ite_out h with ⟨h14, h⟩ | ⟨h14, h⟩
          · injection h with h; subst h; exact runLp_sound mixedOrders (live := [6]) (ids := []) (π := [.callv (.v (.bool r4)), .dec false, .dec false, .dec false, .callv (.v (.bool r9)), .dec false, .callv (.v (.bool r12)), .dec true]) (hx := by kernel_rfl) (hps := pc (k_names_place_Device h5) <| pc (h6) <| pc (h7) <| pc (h8) <| pc (k_names_rising h10) <| pc (h11) <| pc (k_slices_Contains_int h13) <| pc (h14) <| pn)
          · rcases ite_out h with ⟨h15, h⟩ | ⟨h15, h⟩
            · rcases ite_out h with ⟨h16, h⟩ | ⟨h16, h⟩
              · injection h with h; subst h; exact runLp_sound mixedOrders (live := [6]) (ids := []) (π := [.callv (.v (.bool r4)), .dec false, .dec false, .dec false, .callv (.v (.bool r9)), .dec false, .callv (.v (.bool r12)), .dec false, .dec true, .dec true]) (hx := by kernel_rfl) (hps := pc (k_names_place_Device h5) <| pc (h6) <| pc (h7) <| pc (h8) <| pc (k_names_rising h10) <| pc (h11) <| pc (k_slices_Contains_int h13) <| pc (h14) <| pc (h15) <| pc (h16) <| pn)
              · injection h with h; subst h; exact runLp_sound mixedOrders (live := [1, 3, 5, 6]) (ids := [0, 1]) (π := [.callv (.v (.bool r4)), .dec false, .dec false, .dec false, .callv (.v (.bool r9)), .dec false, .callv (.v (.bool r12)), .dec false, .dec true, .dec false]) (hx := by kernel_rfl) (hps := pc (k_names_place_Device h5) <| pc (h6) <| pc (h7) <| pc (h8) <| pc (k_names_rising h10) <| pc (h11) <| pc (k_slices_Contains_int h13) <| pc (h14) <| pc (h15) <| pc (h16) <| pn)
            · injection h with h; subst h; exact runLp_sound mixedOrders (live := [1, 3, 5, 6]) (ids := [0, 1]) (π := [.callv (.v (.bool r4)), .dec false, .dec false, .dec false, .callv (.v (.bool r9)), .dec false, .callv (.v (.bool r12)), .dec false, .dec false]) (hx := by kernel_rfl) (hps := pc (k_names_place_Device h5) <| pc (h6) <| pc (h7) <| pc (h8) <| pc (k_names_rising h10) <| pc (h11) <| pc (k_slices_Contains_int h13) <| pc (h14) <| pc (h15) <| pn)

theorem k_names_judge_port_L2 {a1 : Names_judge} {a2 : Int} {a3 : Api_Port} : LoopOK Tryz.prog UU 0 111 (subC (codeOf Tryz.f103) [1, 1, 0, 1, 0, 0]) (ρ := Unit ⊕ Unit) (names_judge_port_L2 a1 a2 a3)
    (fun v19 : Int => ([(1, .v (.int .i64 a2)), (3, .op 0 1 0 0), (5, .op 1 1 0 0), (6, .v (.bool false)), (51, .sl 3 a3.tagged), (52, .v (.int .i64 (a3.tagged.length : Int))), (53, .v (.int .i64 v19))] : Fr DD)) (fun v19 : Int => ([.box 145 (c145 a1) false, .box 65 (c65 a3) false] : Heap DD)) (fun r => match r with | Sum.inl _ => .ret | Sum.inr _ => .exit 0) (fun r => match r with | Sum.inl _ => [(6, .v (.bool false))] | Sum.inr _ => [(1, .v (.int .i64 a2)), (3, .op 0 1 0 0), (5, .op 1 1 0 0), (6, .v (.bool false))]) (fun r => match r with | Sum.inl _ => [] | Sum.inr _ => [.box 145 (c145 a1) false, .box 65 (c65 a3) false]) := by
  refine loop_sound3 (fun s q h => ?_) (fun r => ?_)
  · replace h : names_judge_port_L2 a1 a2 a3 s = some q := h; revert h; revert s; intro v19 h
    unfold names_judge_port_L2 at h
    rcases ite_out h with ⟨h20, h⟩ | ⟨h20, h⟩
    · obtain ⟨x21, h22, h⟩ := bind_out h
      obtain ⟨r23, h24, h⟩ := bind_out h
      rcases ite_out h with ⟨h25, h⟩ | ⟨h25, h⟩
      · injection h with h; subst h; exact runLp_sound mixedOrders (live := [6]) (ids := []) (π := [.dec true, .row (c3 x21), .callv (.v (.int .i64 r23)), .dec true]) (hx := by kernel_rfl) (hps := pc (h20) <| pc (ob3 h22) <| pc (k_names_judge_domain h24) <| pc (h25) <| pn)
      · injection h with h; subst h; exact runLp_sound mixedOrders (live := [1, 3, 5, 6, 51, 52, 53]) (ids := [0, 1]) (π := [.dec true, .row (c3 x21), .callv (.v (.int .i64 r23)), .dec false]) (hx := by kernel_rfl) (hps := pc (h20) <| pc (ob3 h22) <| pc (k_names_judge_domain h24) <| pc (h25) <| pn)
    · injection h with h; subst h; exact runLp_sound mixedOrders (live := [1, 3, 5, 6]) (ids := [0, 1]) (π := [.dec false]) (hx := by kernel_rfl) (hps := pc (h20) <| pn)
  · rcases r with _ | _ <;> exact Ex.noConfusion

theorem k_names_judge_port_J3 {a1 : Names_judge} {a2 : Int} {a3 : Api_Port} {r : Unit ⊕ Unit} (h : names_judge_port_J3 a1 a2 a3 = some r) :
    ExecOK Tryz.prog UU 0 111 (subC (codeOf Tryz.f103) [1, 1, 1, 0]) [(1, .v (.int .i64 a2)), (3, .op 0 1 0 0), (5, .op 1 1 0 0), (6, .v (.bool false))] [.box 145 (c145 a1) false, .box 65 (c65 a3) false] ((fun r => match r with | Sum.inl _ => .ret | Sum.inr _ => .nor) r) ((fun r => match r with | Sum.inl _ => [(6, .v (.bool false))] | Sum.inr _ => [(1, .v (.int .i64 a2)), (3, .op 0 1 0 0), (5, .op 1 1 0 0), (6, .v (.bool false))]) r) ((fun r => match r with | Sum.inl _ => [] | Sum.inr _ => [.box 145 (c145 a1) false, .box 65 (c65 a3) false]) r) := by
  unfold names_judge_port_J3 at h
  rcases ite_out h with ⟨h28, h⟩ | ⟨h28, h⟩
  · obtain ⟨r29, h30, h⟩ := bind_out h
    rcases ite_out h with ⟨h31, h⟩ | ⟨h31, h⟩
    · injection h with h; subst h; exact runLp_sound mixedOrders (live := [6]) (ids := []) (π := [.dec true, .callv (.v (.int .i64 r29)), .dec true]) (hx := by kernel_rfl) (hps := pc (h28) <| pc (k_names_judge_domain h30) <| pc (h31) <| pn)
    · injection h with h; subst h; exact runLp_sound mixedOrders (live := [1, 3, 5, 6]) (ids := [0, 1]) (π := [.dec true, .callv (.v (.int .i64 r29)), .dec false]) (hx := by kernel_rfl) (hps := pc (h28) <| pc (k_names_judge_domain h30) <| pc (h31) <| pn)
  · injection h with h; subst h; exact runLp_sound mixedOrders (live := [1, 3, 5, 6]) (ids := [0, 1]) (π := [.dec false]) (hx := by kernel_rfl) (hps := pc (h28) <| pn)

theorem k_names_judge_port {a1 : Names_judge} {a2 : Int} {a3 : Api_Port} {r : Bool} (h : names_judge_port a1 a2 a3 = some r) :
    CallsOK Tryz.prog UU 103 [.agg (c145 a1), .v (.int .i64 a2), .agg (c65 a3)] [] (.v (.bool r)) [] := by
  unfold names_judge_port at h
  obtain ⟨r18, h17, h⟩ := bind_out h
  rcases r18 with _ | _
  · injection h with h; subst h; exact runFn_sound mixedOrders Tryz.func103 rfl (keep := none) (π := [.skp, .cut [1, 3, 5, 6] [0, 1] .ret [(6, .v (.bool false))] []]) (hrun := by kernel_rfl) (hps := pc (k_names_judge_port_J1 h17) <| pn)
  · obtain ⟨r27, h26, h⟩ := bind_out h
    rcases r27 with _ | _
    · injection h with h; subst h; exact runFn_sound mixedOrders Tryz.func103 rfl (keep := none) (π := [.skp, .cut [1, 3, 5, 6] [0, 1] .nor [(1, .v (.int .i64 a2)), (3, .op 0 1 0 0), (5, .op 1 1 0 0), (6, .v (.bool false))] [.box 145 (c145 a1) false, .box 65 (c65 a3) false], .sum [1, 3, 5, 6, 51, 52, 53] [0, 1] .ret [(6, .v (.bool false))] []]) (hrun := by kernel_rfl) (hps := pc (k_names_judge_port_J1 h17) <| pc (k_names_judge_port_L2 _ _ h26) <| pn)
    · obtain ⟨r33, h32, h⟩ := bind_out h
      rcases r33 with _ | _
      · injection h with h; subst h; exact runFn_sound mixedOrders Tryz.func103 rfl (keep := none) (π := [.skp, .cut [1, 3, 5, 6] [0, 1] .nor [(1, .v (.int .i64 a2)), (3, .op 0 1 0 0), (5, .op 1 1 0 0), (6, .v (.bool false))] [.box 145 (c145 a1) false, .box 65 (c65 a3) false], .sum [1, 3, 5, 6, 51, 52, 53] [0, 1] (.exit 0) [(1, .v (.int .i64 a2)), (3, .op 0 1 0 0), (5, .op 1 1 0 0), (6, .v (.bool false))] [.box 145 (c145 a1) false, .box 65 (c65 a3) false], .cut [1, 3, 5, 6] [0, 1] .ret [(6, .v (.bool false))] []]) (hrun := by kernel_rfl) (hps := pc (k_names_judge_port_J1 h17) <| pc (k_names_judge_port_L2 _ _ h26) <| pc (k_names_judge_port_J3 h32) <| pn)
      · rcases ite_out h with ⟨h34, h⟩ | ⟨h34, h⟩
        · injection h with h; subst h; exact runFn_sound mixedOrders Tryz.func103 rfl (keep := none) (π := [.skp, .cut [1, 3, 5, 6] [0, 1] .nor [(1, .v (.int .i64 a2)), (3, .op 0 1 0 0), (5, .op 1 1 0 0), (6, .v (.bool false))] [.box 145 (c145 a1) false, .box 65 (c65 a3) false], .sum [1, 3, 5, 6, 51, 52, 53] [0, 1] (.exit 0) [(1, .v (.int .i64 a2)), (3, .op 0 1 0 0), (5, .op 1 1 0 0), (6, .v (.bool false))] [.box 145 (c145 a1) false, .box 65 (c65 a3) false], .cut [1, 3, 5, 6] [0, 1] .nor [(1, .v (.int .i64 a2)), (3, .op 0 1 0 0), (5, .op 1 1 0 0), (6, .v (.bool false))] [.box 145 (c145 a1) false, .box 65 (c65 a3) false], .dec true]) (hrun := by kernel_rfl) (hps := pc (k_names_judge_port_J1 h17) <| pc (k_names_judge_port_L2 _ _ h26) <| pc (k_names_judge_port_J3 h32) <| pc (h34) <| pn)
        · obtain ⟨r35, h36, h⟩ := bind_out h
          rcases ite_out h with ⟨h37, h⟩ | ⟨h37, h⟩
          · obtain ⟨x38, h39, h⟩ := bind_out h
            rcases ite_out h with ⟨h40, h⟩ | ⟨h40, h⟩
            · injection h with h; subst h; exact runFn_sound mixedOrders Tryz.func103 rfl (keep := none) (π := [.skp, .cut [1, 3, 5, 6] [0, 1] .nor [(1, .v (.int .i64 a2)), (3, .op 0 1 0 0), (5, .op 1 1 0 0), (6, .v (.bool false))] [.box 145 (c145 a1) false, .box 65 (c65 a3) false], .sum [1, 3, 5, 6, 51, 52, 53] [0, 1] (.exit 0) [(1, .v (.int .i64 a2)), (3, .op 0 1 0 0), (5, .op 1 1 0 0), (6, .v (.bool false))] [.box 145 (c145 a1) false, .box 65 (c65 a3) false], .cut [1, 3, 5, 6] [0, 1] .nor [(1, .v (.int .i64 a2)), (3, .op 0 1 0 0), (5, .op 1 1 0 0), (6, .v (.bool false))] [.box 145 (c145 a1) false, .box 65 (c65 a3) false], .dec false, .callv (.v (.bool r35)), .dec true, .row (c92 x38), .dec true]) (hrun := by kernel_rfl) (hps := pc (k_names_judge_port_J1 h17) <| pc (k_names_judge_port_L2 _ _ h26) <| pc (k_names_judge_port_J3 h32) <| pc (h34) <| pc (k_names_place_Link h36) <| pc (h37) <| pc (ob92 h39) <| pc (h40) <| pn)
            · obtain ⟨x41, h42, h⟩ := bind_out h
              injection h with h; subst h; exact runFn_sound mixedOrders Tryz.func103 rfl (keep := none) (π := [.skp, .cut [1, 3, 5, 6] [0, 1] .nor [(1, .v (.int .i64 a2)), (3, .op 0 1 0 0), (5, .op 1 1 0 0), (6, .v (.bool false))] [.box 145 (c145 a1) false, .box 65 (c65 a3) false], .sum [1, 3, 5, 6, 51, 52, 53] [0, 1] (.exit 0) [(1, .v (.int .i64 a2)), (3, .op 0 1 0 0), (5, .op 1 1 0 0), (6, .v (.bool false))] [.box 145 (c145 a1) false, .box 65 (c65 a3) false], .cut [1, 3, 5, 6] [0, 1] .nor [(1, .v (.int .i64 a2)), (3, .op 0 1 0 0), (5, .op 1 1 0 0), (6, .v (.bool false))] [.box 145 (c145 a1) false, .box 65 (c65 a3) false], .dec false, .callv (.v (.bool r35)), .dec true, .row (c92 x38), .dec false, .row (c92 x41)]) (hrun := by kernel_rfl) (hps := pc (k_names_judge_port_J1 h17) <| pc (k_names_judge_port_L2 _ _ h26) <| pc (k_names_judge_port_J3 h32) <| pc (h34) <| pc (k_names_place_Link h36) <| pc (h37) <| pc (ob92 h39) <| pc (h40) <| pc (ob92 h42) <| pn)
          · injection h with h; subst h; exact runFn_sound mixedOrders Tryz.func103 rfl (keep := none) (π := [.skp, .cut [1, 3, 5, 6] [0, 1] .nor [(1, .v (.int .i64 a2)), (3, .op 0 1 0 0), (5, .op 1 1 0 0), (6, .v (.bool false))] [.box 145 (c145 a1) false, .box 65 (c65 a3) false], .sum [1, 3, 5, 6, 51, 52, 53] [0, 1] (.exit 0) [(1, .v (.int .i64 a2)), (3, .op 0 1 0 0), (5, .op 1 1 0 0), (6, .v (.bool false))] [.box 145 (c145 a1) false, .box 65 (c65 a3) false], .cut [1, 3, 5, 6] [0, 1] .nor [(1, .v (.int .i64 a2)), (3, .op 0 1 0 0), (5, .op 1 1 0 0), (6, .v (.bool false))] [.box 145 (c145 a1) false, .box 65 (c65 a3) false], .dec false, .callv (.v (.bool r35)), .dec false]) (hrun := by kernel_rfl) (hps := pc (k_names_judge_port_J1 h17) <| pc (k_names_judge_port_L2 _ _ h26) <| pc (k_names_judge_port_J3 h32) <| pc (h34) <| pc (k_names_place_Link h36) <| pc (h37) <| pn)

theorem k_names_all_Port_judge_port_L1 {a1 : List Api_Port} {a2 : Names_judge} : LoopOK Tryz.prog UU 0 20 (subC (codeOf Tryz.f102) [1, 0, 1, 0, 0]) (ρ := Unit ⊕ Unit) (names_all_Port_judge_port_L1 a1 a2)
    (fun v3 : Int => ([(1, .fn (.func 103) [.agg (c145 a2)] []), (4, .v (.bool false)), (7, .sl 65 a1), (8, .v (.int .i64 (a1.length : Int))), (9, .v (.int .i64 v3))] : Fr DD)) (fun v3 : Int => ([] : Heap DD)) (fun r => match r with | Sum.inl _ => .ret | Sum.inr _ => .exit 0) (fun r => match r with | Sum.inl _ => [(4, .v (.bool false))] | Sum.inr _ => [(4, .v (.bool false))]) (fun r => match r with | Sum.inl _ => [] | Sum.inr _ => []) := by
  refine loop_sound3 (fun s q h => ?_) (fun r => ?_)
  · replace h : names_all_Port_judge_port_L1 a1 a2 s = some q := h; revert h; revert s; intro v3 h
    unfold names_all_Port_judge_port_L1 at h
    rcases ite_out h with ⟨h4, h⟩ | ⟨h4, h⟩
    · obtain ⟨x5, h6, h⟩ := bind_out h
      obtain ⟨r7, h8, h⟩ := bind_out h
      rcases ite_out h with ⟨h9, h⟩ | ⟨h9, h⟩
      · injection h with h; subst h; exact runLp_sound mixedOrders (live := [4]) (ids := []) (π := [.dec true, .row (c65 x5), .callv (.v (.bool r7)), .dec true]) (hx := by kernel_rfl) (hps := pc (h4) <| pc (ob65 h6) <| pc (k_names_judge_port h8) <| pc (h9) <| pn)
      · injection h with h; subst h; exact runLp_sound mixedOrders (live := [1, 4, 7, 8, 9]) (ids := []) (π := [.dec true, .row (c65 x5), .callv (.v (.bool r7)), .dec false]) (hx := by kernel_rfl) (hps := pc (h4) <| pc (ob65 h6) <| pc (k_names_judge_port h8) <| pc (h9) <| pn)
    · injection h with h; subst h; exact runLp_sound mixedOrders (live := [4]) (ids := []) (π := [.dec false]) (hx := by kernel_rfl) (hps := pc (h4) <| pn)
  · rcases r with _ | _ <;> exact Ex.noConfusion

theorem k_names_all_Port_judge_port {a1 : List Api_Port} {a2 : Names_judge} {r : Bool} (h : names_all_Port_judge_port a1 a2 = some r) :
    CallsOK Tryz.prog UU 102 [.sl 65 a1, .fn (.func 103) [.agg (c145 a2)] []] [] (.v (.bool r)) [] := by
  unfold names_all_Port_judge_port at h
  obtain ⟨r11, h10, h⟩ := bind_out h
  rcases r11 with _ | _
  · injection h with h; subst h; exact runFn_sound mixedOrders Tryz.func102 rfl (keep := none) (π := [.sum [1, 4, 7, 8, 9] [] .ret [(4, .v (.bool false))] []]) (hrun := by kernel_rfl) (hps := pc (k_names_all_Port_judge_port_L1 _ _ h10) <| pn)
  · injection h with h; subst h; exact runFn_sound mixedOrders Tryz.func102 rfl (keep := none) (π := [.sum [1, 4, 7, 8, 9] [] (.exit 0) [(4, .v (.bool false))] []]) (hrun := by kernel_rfl) (hps := pc (k_names_all_Port_judge_port_L1 _ _ h10) <| pn)

theorem k_names_place_Port {a1 : List Api_Port} {a2 : Int} {r : Bool} (h : names_place_Port a1 a2 = some r) :
    CallsOK Tryz.prog UU 164 [.sl 65 a1, .v (.int .i64 a2)] [] (.v (.bool r)) [] := by
  unfold names_place_Port at h
  rcases ite_out h with ⟨h3, h⟩ | ⟨h3, h⟩
  · injection h with h; subst h; exact runFn_sound mixedOrders Tryz.func164 rfl (keep := none) (π := [.dec true]) (hrun := by kernel_rfl) (hps := pc (h3) <| pn)
  · injection h with h; subst h; exact runFn_sound mixedOrders Tryz.func164 rfl (keep := none) (π := [.dec false]) (hrun := by kernel_rfl) (hps := pc (h3) <| pn)

theorem k_names_judge_link {a1 : Names_judge} {a2 : Int} {a3 : Api_Link} {r : Bool} (h : names_judge_link a1 a2 a3 = some r) :
    CallsOK Tryz.prog UU 105 [.agg (c145 a1), .v (.int .i64 a2), .agg (c92 a3)] [] (.v (.bool r)) [] := by
  unfold names_judge_link at h
  obtain ⟨r4, h5, h⟩ := bind_out h
  rcases ite_out h with ⟨h6, h⟩ | ⟨h6, h⟩
  · injection h with h; subst h; exact runFn_sound mixedOrders Tryz.func105 rfl (keep := none) (π := [.callv (.v (.bool r4)), .dec true]) (hrun := by kernel_rfl) (hps := pc (k_names_place_Port h5) <| pc (h6) <| pn)
  · obtain ⟨r7, h8, h⟩ := bind_out h
    rcases ite_out h with ⟨h9, h⟩ | ⟨h9, h⟩
    · injection h with h; subst h; exact runFn_sound mixedOrders Tryz.func105 rfl (keep := none) (π := [.callv (.v (.bool r4)), .dec false, .callv (.v (.bool r7)), .dec true]) (hrun := by kernel_rfl) (hps := pc (k_names_place_Port h5) <| pc (h6) <| pc (k_names_place_Port h8) <| pc (h9) <| pn)
    · obtain ⟨x10, h11, h⟩ := bind_out h
      obtain ⟨x12, h13, h⟩ := bind_out h
      rcases ite_out h with ⟨h14, h⟩ | ⟨h14, h⟩
      · rcases ite_out h with ⟨h15, h⟩ | ⟨h15, h⟩
        · injection h with h; subst h; exact runFn_sound mixedOrders Tryz.func105 rfl (keep := none) (π := [.callv (.v (.bool r4)), .dec false, .callv (.v (.bool r7)), .dec false, .row (c65 x10), .row (c65 x12), .dec true, .dec true]) (hrun := by kernel_rfl) (hps := pc (k_names_place_Port h5) <| pc (h6) <| pc (k_names_place_Port h8) <| pc (h9) <| pc (ob65 h11) <| pc (ob65 h13) <| pc (h14) <| pc (h15) <| pn)
        · injection h with h; subst h; exact runFn_sound mixedOrders Tryz.func105 rfl (keep := none) (π := [.callv (.v (.bool r4)), .dec false, .callv (.v (.bool r7)), .dec false, .row (c65 x10), .row (c65 x12), .dec true, .dec false]) (hrun := by kernel_rfl) (hps := pc (k_names_place_Port h5) <| pc (h6) <| pc (k_names_place_Port h8) <| pc (h9) <| pc (ob65 h11) <| pc (ob65 h13) <| pc (h14) <| pc (h15) <| pn)
      · injection h with h; subst h; exact runFn_sound mixedOrders Tryz.func105 rfl (keep := none) (π := [.callv (.v (.bool r4)), .dec false, .callv (.v (.bool r7)), .dec false, .row (c65 x10), .row (c65 x12), .dec false]) (hrun := by kernel_rfl) (hps := pc (k_names_place_Port h5) <| pc (h6) <| pc (k_names_place_Port h8) <| pc (h9) <| pc (ob65 h11) <| pc (ob65 h13) <| pc (h14) <| pn)

theorem k_names_all_Link_judge_link_L1 {a1 : List Api_Link} {a2 : Names_judge} : LoopOK Tryz.prog UU 0 20 (subC (codeOf Tryz.f104) [1, 0, 1, 0, 0]) (ρ := Unit ⊕ Unit) (names_all_Link_judge_link_L1 a1 a2)
    (fun v3 : Int => ([(1, .fn (.func 105) [.agg (c145 a2)] []), (4, .v (.bool false)), (7, .sl 92 a1), (8, .v (.int .i64 (a1.length : Int))), (9, .v (.int .i64 v3))] : Fr DD)) (fun v3 : Int => ([] : Heap DD)) (fun r => match r with | Sum.inl _ => .ret | Sum.inr _ => .exit 0) (fun r => match r with | Sum.inl _ => [(4, .v (.bool false))] | Sum.inr _ => [(4, .v (.bool false))]) (fun r => match r with | Sum.inl _ => [] | Sum.inr _ => []) := by
  refine loop_sound3 (fun s q h => ?_) (fun r => ?_)
  · replace h : names_all_Link_judge_link_L1 a1 a2 s = some q := h; revert h; revert s; intro v3 h
    unfold names_all_Link_judge_link_L1 at h
    rcases ite_out h with ⟨h4, h⟩ | ⟨h4, h⟩
    · obtain ⟨x5, h6, h⟩ := bind_out h
      obtain ⟨r7, h8, h⟩ := bind_out h
      rcases ite_out h with ⟨h9, h⟩ | ⟨h9, h⟩
      · injection h with h; subst h; exact runLp_sound mixedOrders (live := [4]) (ids := []) (π := [.dec true, .row (c92 x5), .callv (.v (.bool r7)), .dec true]) (hx := by kernel_rfl) (hps := pc (h4) <| pc (ob92 h6) <| pc (k_names_judge_link h8) <| pc (h9) <| pn)
      · injection h with h; subst h; exact runLp_sound mixedOrders (live := [1, 4, 7, 8, 9]) (ids := []) (π := [.dec true, .row (c92 x5), .callv (.v (.bool r7)), .dec false]) (hx := by kernel_rfl) (hps := pc (h4) <| pc (ob92 h6) <| pc (k_names_judge_link h8) <| pc (h9) <| pn)
    · injection h with h; subst h; exact runLp_sound mixedOrders (live := [4]) (ids := []) (π := [.dec false]) (hx := by kernel_rfl) (hps := pc (h4) <| pn)
  · rcases r with _ | _ <;> exact Ex.noConfusion

theorem k_names_all_Link_judge_link {a1 : List Api_Link} {a2 : Names_judge} {r : Bool} (h : names_all_Link_judge_link a1 a2 = some r) :
    CallsOK Tryz.prog UU 104 [.sl 92 a1, .fn (.func 105) [.agg (c145 a2)] []] [] (.v (.bool r)) [] := by
  unfold names_all_Link_judge_link at h
  obtain ⟨r11, h10, h⟩ := bind_out h
  rcases r11 with _ | _
  · injection h with h; subst h; exact runFn_sound mixedOrders Tryz.func104 rfl (keep := none) (π := [.sum [1, 4, 7, 8, 9] [] .ret [(4, .v (.bool false))] []]) (hrun := by kernel_rfl) (hps := pc (k_names_all_Link_judge_link_L1 _ _ h10) <| pn)
  · injection h with h; subst h; exact runFn_sound mixedOrders Tryz.func104 rfl (keep := none) (π := [.sum [1, 4, 7, 8, 9] [] (.exit 0) [(4, .v (.bool false))] []]) (hrun := by kernel_rfl) (hps := pc (k_names_all_Link_judge_link_L1 _ _ h10) <| pn)

theorem k_names_Member {a1 : Api_Port} {a2 : Int} {r : Bool} (h : names_Member a1 a2 = some r) :
    CallsOK Tryz.prog UU 88 [.agg (c65 a1), .v (.int .i64 a2)] [] (.v (.bool r)) [] := by
  unfold names_Member at h
  rcases ite_out h with ⟨h3, h⟩ | ⟨h3, h⟩
  · rcases ite_out h with ⟨h4, h⟩ | ⟨h4, h⟩
    · injection h with h; subst h; exact runFn_sound mixedOrders Tryz.func88 rfl (keep := none) (π := [.dec true, .dec true]) (hrun := by kernel_rfl) (hps := pc (h3) <| pc (h4) <| pn)
    · obtain ⟨r5, h6, h⟩ := bind_out h
      injection h with h; subst h; exact runFn_sound mixedOrders Tryz.func88 rfl (keep := none) (π := [.dec true, .dec false, .callv (.v (.bool r5))]) (hrun := by kernel_rfl) (hps := pc (h3) <| pc (h4) <| pc (k_slices_Contains_int h6) <| pn)
  · injection h with h; subst h; exact runFn_sound mixedOrders Tryz.func88 rfl (keep := none) (π := [.dec false]) (hrun := by kernel_rfl) (hps := pc (h3) <| pn)

theorem k_names_judge_static {a1 : Names_judge} {a2 : Int} {a3 : Api_Static} {r : Bool} (h : names_judge_static a1 a2 a3 = some r) :
    CallsOK Tryz.prog UU 107 [.agg (c145 a1), .v (.int .i64 a2), .agg (c154 a3)] [] (.v (.bool r)) [] := by
  unfold names_judge_static at h
  obtain ⟨r4, h5, h⟩ := bind_out h
  rcases ite_out h with ⟨h6, h⟩ | ⟨h6, h⟩
  · injection h with h; subst h; exact runFn_sound mixedOrders Tryz.func107 rfl (keep := none) (π := [.callv (.v (.bool r4)), .dec true]) (hrun := by kernel_rfl) (hps := pc (k_names_place_Domain h5) <| pc (h6) <| pn)
  · obtain ⟨r7, h8, h⟩ := bind_out h
    rcases ite_out h with ⟨h9, h⟩ | ⟨h9, h⟩
    · injection h with h; subst h; exact runFn_sound mixedOrders Tryz.func107 rfl (keep := none) (π := [.callv (.v (.bool r4)), .dec false, .callv (.v (.bool r7)), .dec true]) (hrun := by kernel_rfl) (hps := pc (k_names_place_Domain h5) <| pc (h6) <| pc (k_names_place_Port h8) <| pc (h9) <| pn)
    · obtain ⟨x10, h11, h⟩ := bind_out h
      obtain ⟨x12, h13, h⟩ := bind_out h
      rcases ite_out h with ⟨h14, h⟩ | ⟨h14, h⟩
      · obtain ⟨r15, h16, h⟩ := bind_out h
        injection h with h; subst h; exact runFn_sound mixedOrders Tryz.func107 rfl (keep := none) (π := [.callv (.v (.bool r4)), .dec false, .callv (.v (.bool r7)), .dec false, .row (c65 x10), .row (c67 x12), .dec true, .callv (.v (.bool r15))]) (hrun := by kernel_rfl) (hps := pc (k_names_place_Domain h5) <| pc (h6) <| pc (k_names_place_Port h8) <| pc (h9) <| pc (ob65 h11) <| pc (ob67 h13) <| pc (h14) <| pc (k_names_Member h16) <| pn)
      · injection h with h; subst h; exact runFn_sound mixedOrders Tryz.func107 rfl (keep := none) (π := [.callv (.v (.bool r4)), .dec false, .callv (.v (.bool r7)), .dec false, .row (c65 x10), .row (c67 x12), .dec false]) (hrun := by kernel_rfl) (hps := pc (k_names_place_Domain h5) <| pc (h6) <| pc (k_names_place_Port h8) <| pc (h9) <| pc (ob65 h11) <| pc (ob67 h13) <| pc (h14) <| pn)

theorem k_names_all_Static_judge_static_L1 {a1 : List Api_Static} {a2 : Names_judge} : LoopOK Tryz.prog UU 0 20 (subC (codeOf Tryz.f106) [1, 0, 1, 0, 0]) (ρ := Unit ⊕ Unit) (names_all_Static_judge_static_L1 a1 a2)
    (fun v3 : Int => ([(1, .fn (.func 107) [.agg (c145 a2)] []), (4, .v (.bool false)), (7, .sl 154 a1), (8, .v (.int .i64 (a1.length : Int))), (9, .v (.int .i64 v3))] : Fr DD)) (fun v3 : Int => ([] : Heap DD)) (fun r => match r with | Sum.inl _ => .ret | Sum.inr _ => .exit 0) (fun r => match r with | Sum.inl _ => [(4, .v (.bool false))] | Sum.inr _ => [(4, .v (.bool false))]) (fun r => match r with | Sum.inl _ => [] | Sum.inr _ => []) := by
  refine loop_sound3 (fun s q h => ?_) (fun r => ?_)
  · replace h : names_all_Static_judge_static_L1 a1 a2 s = some q := h; revert h; revert s; intro v3 h
    unfold names_all_Static_judge_static_L1 at h
    rcases ite_out h with ⟨h4, h⟩ | ⟨h4, h⟩
    · obtain ⟨x5, h6, h⟩ := bind_out h
      obtain ⟨r7, h8, h⟩ := bind_out h
      rcases ite_out h with ⟨h9, h⟩ | ⟨h9, h⟩
      · injection h with h; subst h; exact runLp_sound mixedOrders (live := [4]) (ids := []) (π := [.dec true, .row (c154 x5), .callv (.v (.bool r7)), .dec true]) (hx := by kernel_rfl) (hps := pc (h4) <| pc (ob154 h6) <| pc (k_names_judge_static h8) <| pc (h9) <| pn)
      · injection h with h; subst h; exact runLp_sound mixedOrders (live := [1, 4, 7, 8, 9]) (ids := []) (π := [.dec true, .row (c154 x5), .callv (.v (.bool r7)), .dec false]) (hx := by kernel_rfl) (hps := pc (h4) <| pc (ob154 h6) <| pc (k_names_judge_static h8) <| pc (h9) <| pn)
    · injection h with h; subst h; exact runLp_sound mixedOrders (live := [4]) (ids := []) (π := [.dec false]) (hx := by kernel_rfl) (hps := pc (h4) <| pn)
  · rcases r with _ | _ <;> exact Ex.noConfusion

theorem k_names_all_Static_judge_static {a1 : List Api_Static} {a2 : Names_judge} {r : Bool} (h : names_all_Static_judge_static a1 a2 = some r) :
    CallsOK Tryz.prog UU 106 [.sl 154 a1, .fn (.func 107) [.agg (c145 a2)] []] [] (.v (.bool r)) [] := by
  unfold names_all_Static_judge_static at h
  obtain ⟨r11, h10, h⟩ := bind_out h
  rcases r11 with _ | _
  · injection h with h; subst h; exact runFn_sound mixedOrders Tryz.func106 rfl (keep := none) (π := [.sum [1, 4, 7, 8, 9] [] .ret [(4, .v (.bool false))] []]) (hrun := by kernel_rfl) (hps := pc (k_names_all_Static_judge_static_L1 _ _ h10) <| pn)
  · injection h with h; subst h; exact runFn_sound mixedOrders Tryz.func106 rfl (keep := none) (π := [.sum [1, 4, 7, 8, 9] [] (.exit 0) [(4, .v (.bool false))] []]) (hrun := by kernel_rfl) (hps := pc (k_names_all_Static_judge_static_L1 _ _ h10) <| pn)

theorem k_names_Right_1 {a1 : Int} {a2 : Api_Flood} {a3 : Api_Net} {r : Bool} (h : names_Right_1 a1 a2 a3 = some r) :
    CallsOK Tryz.prog UU 109 [.v (.int .i64 a1), .agg (c69 a2), .rp (c31 a3) 0] [] (.v (.bool r)) [] := by
  unfold names_Right_1 at h
  obtain ⟨r4, h5, h⟩ := bind_out h
  rcases ite_out h with ⟨h6, h⟩ | ⟨h6, h⟩
  · injection h with h; subst h; exact runFn_sound mixedOrders Tryz.func109 rfl (keep := none) (π := [.callv (.v (.bool r4)), .dec true]) (hrun := by kernel_rfl) (hps := pc (k_names_place_Device h5) <| pc (h6) <| pn)
  · injection h with h; subst h; exact runFn_sound mixedOrders Tryz.func109 rfl (keep := none) (π := [.callv (.v (.bool r4)), .dec false]) (hrun := by kernel_rfl) (hps := pc (k_names_place_Device h5) <| pc (h6) <| pn)

theorem k_names_all_Flood_Right_1_L1 {a1 : List Api_Flood} {a2 : Api_Net} : LoopOK Tryz.prog UU 0 20 (subC (codeOf Tryz.f108) [1, 0, 1, 0, 0]) (ρ := Unit ⊕ Unit) (names_all_Flood_Right_1_L1 a1 a2)
    (fun v3 : Int => ([(1, .fn (.func 109) [] [.rp (c31 a2) 0]), (4, .v (.bool false)), (7, .sl 69 a1), (8, .v (.int .i64 (a1.length : Int))), (9, .v (.int .i64 v3))] : Fr DD)) (fun v3 : Int => ([] : Heap DD)) (fun r => match r with | Sum.inl _ => .ret | Sum.inr _ => .exit 0) (fun r => match r with | Sum.inl _ => [(4, .v (.bool false))] | Sum.inr _ => [(4, .v (.bool false))]) (fun r => match r with | Sum.inl _ => [] | Sum.inr _ => []) := by
  refine loop_sound3 (fun s q h => ?_) (fun r => ?_)
  · replace h : names_all_Flood_Right_1_L1 a1 a2 s = some q := h; revert h; revert s; intro v3 h
    unfold names_all_Flood_Right_1_L1 at h
    rcases ite_out h with ⟨h4, h⟩ | ⟨h4, h⟩
    · obtain ⟨x5, h6, h⟩ := bind_out h
      obtain ⟨r7, h8, h⟩ := bind_out h
      rcases ite_out h with ⟨h9, h⟩ | ⟨h9, h⟩
      · injection h with h; subst h; exact runLp_sound mixedOrders (live := [4]) (ids := []) (π := [.dec true, .row (c69 x5), .callv (.v (.bool r7)), .dec true]) (hx := by kernel_rfl) (hps := pc (h4) <| pc (ob69 h6) <| pc (k_names_Right_1 h8) <| pc (h9) <| pn)
      · injection h with h; subst h; exact runLp_sound mixedOrders (live := [1, 4, 7, 8, 9]) (ids := []) (π := [.dec true, .row (c69 x5), .callv (.v (.bool r7)), .dec false]) (hx := by kernel_rfl) (hps := pc (h4) <| pc (ob69 h6) <| pc (k_names_Right_1 h8) <| pc (h9) <| pn)
    · injection h with h; subst h; exact runLp_sound mixedOrders (live := [4]) (ids := []) (π := [.dec false]) (hx := by kernel_rfl) (hps := pc (h4) <| pn)
  · rcases r with _ | _ <;> exact Ex.noConfusion

theorem k_names_all_Flood_Right_1 {a1 : List Api_Flood} {a2 : Api_Net} {r : Bool} (h : names_all_Flood_Right_1 a1 a2 = some r) :
    CallsOK Tryz.prog UU 108 [.sl 69 a1, .fn (.func 109) [] [.rp (c31 a2) 0]] [] (.v (.bool r)) [] := by
  unfold names_all_Flood_Right_1 at h
  obtain ⟨r11, h10, h⟩ := bind_out h
  rcases r11 with _ | _
  · injection h with h; subst h; exact runFn_sound mixedOrders Tryz.func108 rfl (keep := none) (π := [.sum [1, 4, 7, 8, 9] [] .ret [(4, .v (.bool false))] []]) (hrun := by kernel_rfl) (hps := pc (k_names_all_Flood_Right_1_L1 _ _ h10) <| pn)
  · injection h with h; subst h; exact runFn_sound mixedOrders Tryz.func108 rfl (keep := none) (π := [.sum [1, 4, 7, 8, 9] [] (.exit 0) [(4, .v (.bool false))] []]) (hrun := by kernel_rfl) (hps := pc (k_names_all_Flood_Right_1_L1 _ _ h10) <| pn)

theorem k_names_Right_2 {a1 : Int} {a2 : Api_Vrf} {a3 : Api_Net} {r : Bool} (h : names_Right_2 a1 a2 a3 = some r) :
    CallsOK Tryz.prog UU 112 [.v (.int .i64 a1), .agg (c71 a2), .rp (c31 a3) 0] [] (.v (.bool r)) [] := by
  unfold names_Right_2 at h
  obtain ⟨r4, h5, h⟩ := bind_out h
  rcases ite_out h with ⟨h6, h⟩ | ⟨h6, h⟩
  · obtain ⟨r7, h8, h⟩ := bind_out h
    rcases ite_out h with ⟨h9, h⟩ | ⟨h9, h⟩
    · obtain ⟨r10, h11, h⟩ := bind_out h
      injection h with h; subst h; exact runFn_sound mixedOrders Tryz.func112 rfl (keep := none) (π := [.callv (.v (.bool r4)), .dec true, .callv (.v (.bool r7)), .dec true, .callv (.v (.bool r10))]) (hrun := by kernel_rfl) (hps := pc (k_names_place_Device h5) <| pc (h6) <| pc (k_names_rising h8) <| pc (h9) <| pc (k_names_rising h11) <| pn)
    · injection h with h; subst h; exact runFn_sound mixedOrders Tryz.func112 rfl (keep := none) (π := [.callv (.v (.bool r4)), .dec true, .callv (.v (.bool r7)), .dec false]) (hrun := by kernel_rfl) (hps := pc (k_names_place_Device h5) <| pc (h6) <| pc (k_names_rising h8) <| pc (h9) <| pn)
  · injection h with h; subst h; exact runFn_sound mixedOrders Tryz.func112 rfl (keep := none) (π := [.callv (.v (.bool r4)), .dec false]) (hrun := by kernel_rfl) (hps := pc (k_names_place_Device h5) <| pc (h6) <| pn)

theorem k_names_all_Vrf_Right_2_L1 {a1 : List Api_Vrf} {a2 : Api_Net} : LoopOK Tryz.prog UU 0 20 (subC (codeOf Tryz.f111) [1, 0, 1, 0, 0]) (ρ := Unit ⊕ Unit) (names_all_Vrf_Right_2_L1 a1 a2)
    (fun v3 : Int => ([(1, .fn (.func 112) [] [.rp (c31 a2) 0]), (4, .v (.bool false)), (7, .sl 71 a1), (8, .v (.int .i64 (a1.length : Int))), (9, .v (.int .i64 v3))] : Fr DD)) (fun v3 : Int => ([] : Heap DD)) (fun r => match r with | Sum.inl _ => .ret | Sum.inr _ => .exit 0) (fun r => match r with | Sum.inl _ => [(4, .v (.bool false))] | Sum.inr _ => [(4, .v (.bool false))]) (fun r => match r with | Sum.inl _ => [] | Sum.inr _ => []) := by
  refine loop_sound3 (fun s q h => ?_) (fun r => ?_)
  · replace h : names_all_Vrf_Right_2_L1 a1 a2 s = some q := h; revert h; revert s; intro v3 h
    unfold names_all_Vrf_Right_2_L1 at h
    rcases ite_out h with ⟨h4, h⟩ | ⟨h4, h⟩
    · obtain ⟨x5, h6, h⟩ := bind_out h
      obtain ⟨r7, h8, h⟩ := bind_out h
      rcases ite_out h with ⟨h9, h⟩ | ⟨h9, h⟩
      · injection h with h; subst h; exact runLp_sound mixedOrders (live := [4]) (ids := []) (π := [.dec true, .row (c71 x5), .callv (.v (.bool r7)), .dec true]) (hx := by kernel_rfl) (hps := pc (h4) <| pc (ob71 h6) <| pc (k_names_Right_2 h8) <| pc (h9) <| pn)
      · injection h with h; subst h; exact runLp_sound mixedOrders (live := [1, 4, 7, 8, 9]) (ids := []) (π := [.dec true, .row (c71 x5), .callv (.v (.bool r7)), .dec false]) (hx := by kernel_rfl) (hps := pc (h4) <| pc (ob71 h6) <| pc (k_names_Right_2 h8) <| pc (h9) <| pn)
    · injection h with h; subst h; exact runLp_sound mixedOrders (live := [4]) (ids := []) (π := [.dec false]) (hx := by kernel_rfl) (hps := pc (h4) <| pn)
  · rcases r with _ | _ <;> exact Ex.noConfusion

theorem k_names_all_Vrf_Right_2 {a1 : List Api_Vrf} {a2 : Api_Net} {r : Bool} (h : names_all_Vrf_Right_2 a1 a2 = some r) :
    CallsOK Tryz.prog UU 111 [.sl 71 a1, .fn (.func 112) [] [.rp (c31 a2) 0]] [] (.v (.bool r)) [] := by
  unfold names_all_Vrf_Right_2 at h
  obtain ⟨r11, h10, h⟩ := bind_out h
  rcases r11 with _ | _
  · injection h with h; subst h; exact runFn_sound mixedOrders Tryz.func111 rfl (keep := none) (π := [.sum [1, 4, 7, 8, 9] [] .ret [(4, .v (.bool false))] []]) (hrun := by kernel_rfl) (hps := pc (k_names_all_Vrf_Right_2_L1 _ _ h10) <| pn)
  · injection h with h; subst h; exact runFn_sound mixedOrders Tryz.func111 rfl (keep := none) (π := [.sum [1, 4, 7, 8, 9] [] (.exit 0) [(4, .v (.bool false))] []]) (hrun := by kernel_rfl) (hps := pc (k_names_all_Vrf_Right_2_L1 _ _ h10) <| pn)

theorem k_names_place_Vrf {a1 : List Api_Vrf} {a2 : Int} {r : Bool} (h : names_place_Vrf a1 a2 = some r) :
    CallsOK Tryz.prog UU 166 [.sl 71 a1, .v (.int .i64 a2)] [] (.v (.bool r)) [] := by
  unfold names_place_Vrf at h
  rcases ite_out h with ⟨h3, h⟩ | ⟨h3, h⟩
  · injection h with h; subst h; exact runFn_sound mixedOrders Tryz.func166 rfl (keep := none) (π := [.dec true]) (hrun := by kernel_rfl) (hps := pc (h3) <| pn)
  · injection h with h; subst h; exact runFn_sound mixedOrders Tryz.func166 rfl (keep := none) (π := [.dec false]) (hrun := by kernel_rfl) (hps := pc (h3) <| pn)

theorem k_names_judge_irb {a1 : Names_judge} {a2 : Int} {a3 : Api_Irb} {r : Bool} (h : names_judge_irb a1 a2 a3 = some r) :
    CallsOK Tryz.prog UU 115 [.agg (c145 a1), .v (.int .i64 a2), .agg (c165 a3)] [] (.v (.bool r)) [] := by
  unfold names_judge_irb at h
  obtain ⟨r4, h5, h⟩ := bind_out h
  rcases ite_out h with ⟨h6, h⟩ | ⟨h6, h⟩
  · obtain ⟨r7, h8, h⟩ := bind_out h
    rcases ite_out h with ⟨h9, h⟩ | ⟨h9, h⟩
    · obtain ⟨x10, h11, h⟩ := bind_out h
      obtain ⟨x12, h13, h⟩ := bind_out h
      rcases ite_out h with ⟨h14, h⟩ | ⟨h14, h⟩
      · obtain ⟨x15, h16, h⟩ := bind_out h
        rcases ite_out h with ⟨h17, h⟩ | ⟨h17, h⟩
        · rcases ite_out h with ⟨h18, h⟩ | ⟨h18, h⟩
          · injection h with h; subst h; exact runFn_sound mixedOrders Tryz.func115 rfl (keep := none) (π := [.callv (.v (.bool r4)), .dec true, .callv (.v (.bool r7)), .dec true, .row (c67 x10), .row (c71 x12), .dec true, .row (c67 x15), .dec true, .dec true]) (hrun := by kernel_rfl) (hps := pc (k_names_place_Domain h5) <| pc (h6) <| pc (k_names_place_Vrf h8) <| pc (h9) <| pc (ob67 h11) <| pc (ob71 h13) <| pc (h14) <| pc (ob67 h16) <| pc (h17) <| pc (h18) <| pn)
          · injection h with h; subst h; exact runFn_sound mixedOrders Tryz.func115 rfl (keep := none) (π := [.callv (.v (.bool r4)), .dec true, .callv (.v (.bool r7)), .dec true, .row (c67 x10), .row (c71 x12), .dec true, .row (c67 x15), .dec true, .dec false]) (hrun := by kernel_rfl) (hps := pc (k_names_place_Domain h5) <| pc (h6) <| pc (k_names_place_Vrf h8) <| pc (h9) <| pc (ob67 h11) <| pc (ob71 h13) <| pc (h14) <| pc (ob67 h16) <| pc (h17) <| pc (h18) <| pn)
        · injection h with h; subst h; exact runFn_sound mixedOrders Tryz.func115 rfl (keep := none) (π := [.callv (.v (.bool r4)), .dec true, .callv (.v (.bool r7)), .dec true, .row (c67 x10), .row (c71 x12), .dec true, .row (c67 x15), .dec false]) (hrun := by kernel_rfl) (hps := pc (k_names_place_Domain h5) <| pc (h6) <| pc (k_names_place_Vrf h8) <| pc (h9) <| pc (ob67 h11) <| pc (ob71 h13) <| pc (h14) <| pc (ob67 h16) <| pc (h17) <| pn)
      · injection h with h; subst h; exact runFn_sound mixedOrders Tryz.func115 rfl (keep := none) (π := [.callv (.v (.bool r4)), .dec true, .callv (.v (.bool r7)), .dec true, .row (c67 x10), .row (c71 x12), .dec false]) (hrun := by kernel_rfl) (hps := pc (k_names_place_Domain h5) <| pc (h6) <| pc (k_names_place_Vrf h8) <| pc (h9) <| pc (ob67 h11) <| pc (ob71 h13) <| pc (h14) <| pn)
    · injection h with h; subst h; exact runFn_sound mixedOrders Tryz.func115 rfl (keep := none) (π := [.callv (.v (.bool r4)), .dec true, .callv (.v (.bool r7)), .dec false]) (hrun := by kernel_rfl) (hps := pc (k_names_place_Domain h5) <| pc (h6) <| pc (k_names_place_Vrf h8) <| pc (h9) <| pn)
  · injection h with h; subst h; exact runFn_sound mixedOrders Tryz.func115 rfl (keep := none) (π := [.callv (.v (.bool r4)), .dec false]) (hrun := by kernel_rfl) (hps := pc (k_names_place_Domain h5) <| pc (h6) <| pn)

theorem k_names_all_Irb_judge_irb_L1 {a1 : List Api_Irb} {a2 : Names_judge} : LoopOK Tryz.prog UU 0 20 (subC (codeOf Tryz.f114) [1, 0, 1, 0, 0]) (ρ := Unit ⊕ Unit) (names_all_Irb_judge_irb_L1 a1 a2)
    (fun v3 : Int => ([(1, .fn (.func 115) [.agg (c145 a2)] []), (4, .v (.bool false)), (7, .sl 165 a1), (8, .v (.int .i64 (a1.length : Int))), (9, .v (.int .i64 v3))] : Fr DD)) (fun v3 : Int => ([] : Heap DD)) (fun r => match r with | Sum.inl _ => .ret | Sum.inr _ => .exit 0) (fun r => match r with | Sum.inl _ => [(4, .v (.bool false))] | Sum.inr _ => [(4, .v (.bool false))]) (fun r => match r with | Sum.inl _ => [] | Sum.inr _ => []) := by
  refine loop_sound3 (fun s q h => ?_) (fun r => ?_)
  · replace h : names_all_Irb_judge_irb_L1 a1 a2 s = some q := h; revert h; revert s; intro v3 h
    unfold names_all_Irb_judge_irb_L1 at h
    rcases ite_out h with ⟨h4, h⟩ | ⟨h4, h⟩
    · obtain ⟨x5, h6, h⟩ := bind_out h
      obtain ⟨r7, h8, h⟩ := bind_out h
      rcases ite_out h with ⟨h9, h⟩ | ⟨h9, h⟩
      · injection h with h; subst h; exact runLp_sound mixedOrders (live := [4]) (ids := []) (π := [.dec true, .row (c165 x5), .callv (.v (.bool r7)), .dec true]) (hx := by kernel_rfl) (hps := pc (h4) <| pc (ob165 h6) <| pc (k_names_judge_irb h8) <| pc (h9) <| pn)
      · injection h with h; subst h; exact runLp_sound mixedOrders (live := [1, 4, 7, 8, 9]) (ids := []) (π := [.dec true, .row (c165 x5), .callv (.v (.bool r7)), .dec false]) (hx := by kernel_rfl) (hps := pc (h4) <| pc (ob165 h6) <| pc (k_names_judge_irb h8) <| pc (h9) <| pn)
    · injection h with h; subst h; exact runLp_sound mixedOrders (live := [4]) (ids := []) (π := [.dec false]) (hx := by kernel_rfl) (hps := pc (h4) <| pn)
  · rcases r with _ | _ <;> exact Ex.noConfusion

theorem k_names_all_Irb_judge_irb {a1 : List Api_Irb} {a2 : Names_judge} {r : Bool} (h : names_all_Irb_judge_irb a1 a2 = some r) :
    CallsOK Tryz.prog UU 114 [.sl 165 a1, .fn (.func 115) [.agg (c145 a2)] []] [] (.v (.bool r)) [] := by
  unfold names_all_Irb_judge_irb at h
  obtain ⟨r11, h10, h⟩ := bind_out h
  rcases r11 with _ | _
  · injection h with h; subst h; exact runFn_sound mixedOrders Tryz.func114 rfl (keep := none) (π := [.sum [1, 4, 7, 8, 9] [] .ret [(4, .v (.bool false))] []]) (hrun := by kernel_rfl) (hps := pc (k_names_all_Irb_judge_irb_L1 _ _ h10) <| pn)
  · injection h with h; subst h; exact runFn_sound mixedOrders Tryz.func114 rfl (keep := none) (π := [.sum [1, 4, 7, 8, 9] [] (.exit 0) [(4, .v (.bool false))] []]) (hrun := by kernel_rfl) (hps := pc (k_names_all_Irb_judge_irb_L1 _ _ h10) <| pn)

theorem k_names_Right {a1 : Api_Net} {r : Bool} (h : names_Right a1 = some r) :
    CallsOK Tryz.prog UU 54 [.agg (c31 a1)] [] (.v (.bool r)) [] := by
  unfold names_Right at h
  obtain ⟨r2, h3, h⟩ := bind_out h
  rcases ite_out h with ⟨h4, h⟩ | ⟨h4, h⟩
  · obtain ⟨r5, h6, h⟩ := bind_out h
    rcases ite_out h with ⟨h7, h⟩ | ⟨h7, h⟩
    · obtain ⟨r8, h9, h⟩ := bind_out h
      rcases ite_out h with ⟨h10, h⟩ | ⟨h10, h⟩
      · obtain ⟨r11, h12, h⟩ := bind_out h
        rcases ite_out h with ⟨h13, h⟩ | ⟨h13, h⟩
        · obtain ⟨r14, h15, h⟩ := bind_out h
          rcases ite_out h with ⟨h16, h⟩ | ⟨h16, h⟩
          · obtain ⟨r17, h18, h⟩ := bind_out h
            rcases ite_out h with ⟨h19, h⟩ | ⟨h19, h⟩
            · obtain ⟨r20, h21, h⟩ := bind_out h
              rcases ite_out h with ⟨h22, h⟩ | ⟨h22, h⟩
              · obtain ⟨r23, h24, h⟩ := bind_out h
                rcases ite_out h with ⟨h25, h⟩ | ⟨h25, h⟩
                · obtain ⟨r26, h27, h⟩ := bind_out h
                  injection h with h; subst h; exact runFn_sound mixedOrders Tryz.func54 rfl (keep := none) (π := [.callv (.v (.bool r2)), .dec true, .callv (.v (.bool r5)), .dec true, .callv (.v (.bool r8)), .dec true, .callv (.v (.bool r11)), .dec true, .callv (.v (.bool r14)), .dec true, .callv (.v (.bool r17)), .dec true, .callv (.v (.bool r20)), .dec true, .callv (.v (.bool r23)), .dec true, .callv (.v (.bool r26))]) (hrun := by kernel_rfl) (hps := pc (k_names_judge_few h3) <| pc (h4) <| pc (k_names_all_Domain_judge_bare h6) <| pc (h7) <| pc (k_names_all_Domain_judge_peers h9) <| pc (h10) <| pc (k_names_all_Port_judge_port h12) <| pc (h13) <| pc (k_names_all_Link_judge_link h15) <| pc (h16) <| pc (k_names_all_Static_judge_static h18) <| pc (h19) <| pc (k_names_all_Flood_Right_1 h21) <| pc (h22) <| pc (k_names_all_Vrf_Right_2 h24) <| pc (h25) <| pc (k_names_all_Irb_judge_irb h27) <| pn)
                · injection h with h; subst h; exact runFn_sound mixedOrders Tryz.func54 rfl (keep := none) (π := [.callv (.v (.bool r2)), .dec true, .callv (.v (.bool r5)), .dec true, .callv (.v (.bool r8)), .dec true, .callv (.v (.bool r11)), .dec true, .callv (.v (.bool r14)), .dec true, .callv (.v (.bool r17)), .dec true, .callv (.v (.bool r20)), .dec true, .callv (.v (.bool r23)), .dec false]) (hrun := by kernel_rfl) (hps := pc (k_names_judge_few h3) <| pc (h4) <| pc (k_names_all_Domain_judge_bare h6) <| pc (h7) <| pc (k_names_all_Domain_judge_peers h9) <| pc (h10) <| pc (k_names_all_Port_judge_port h12) <| pc (h13) <| pc (k_names_all_Link_judge_link h15) <| pc (h16) <| pc (k_names_all_Static_judge_static h18) <| pc (h19) <| pc (k_names_all_Flood_Right_1 h21) <| pc (h22) <| pc (k_names_all_Vrf_Right_2 h24) <| pc (h25) <| pn)
              · injection h with h; subst h; exact runFn_sound mixedOrders Tryz.func54 rfl (keep := none) (π := [.callv (.v (.bool r2)), .dec true, .callv (.v (.bool r5)), .dec true, .callv (.v (.bool r8)), .dec true, .callv (.v (.bool r11)), .dec true, .callv (.v (.bool r14)), .dec true, .callv (.v (.bool r17)), .dec true, .callv (.v (.bool r20)), .dec false]) (hrun := by kernel_rfl) (hps := pc (k_names_judge_few h3) <| pc (h4) <| pc (k_names_all_Domain_judge_bare h6) <| pc (h7) <| pc (k_names_all_Domain_judge_peers h9) <| pc (h10) <| pc (k_names_all_Port_judge_port h12) <| pc (h13) <| pc (k_names_all_Link_judge_link h15) <| pc (h16) <| pc (k_names_all_Static_judge_static h18) <| pc (h19) <| pc (k_names_all_Flood_Right_1 h21) <| pc (h22) <| pn)
            · injection h with h; subst h; exact runFn_sound mixedOrders Tryz.func54 rfl (keep := none) (π := [.callv (.v (.bool r2)), .dec true, .callv (.v (.bool r5)), .dec true, .callv (.v (.bool r8)), .dec true, .callv (.v (.bool r11)), .dec true, .callv (.v (.bool r14)), .dec true, .callv (.v (.bool r17)), .dec false]) (hrun := by kernel_rfl) (hps := pc (k_names_judge_few h3) <| pc (h4) <| pc (k_names_all_Domain_judge_bare h6) <| pc (h7) <| pc (k_names_all_Domain_judge_peers h9) <| pc (h10) <| pc (k_names_all_Port_judge_port h12) <| pc (h13) <| pc (k_names_all_Link_judge_link h15) <| pc (h16) <| pc (k_names_all_Static_judge_static h18) <| pc (h19) <| pn)
          · injection h with h; subst h; exact runFn_sound mixedOrders Tryz.func54 rfl (keep := none) (π := [.callv (.v (.bool r2)), .dec true, .callv (.v (.bool r5)), .dec true, .callv (.v (.bool r8)), .dec true, .callv (.v (.bool r11)), .dec true, .callv (.v (.bool r14)), .dec false]) (hrun := by kernel_rfl) (hps := pc (k_names_judge_few h3) <| pc (h4) <| pc (k_names_all_Domain_judge_bare h6) <| pc (h7) <| pc (k_names_all_Domain_judge_peers h9) <| pc (h10) <| pc (k_names_all_Port_judge_port h12) <| pc (h13) <| pc (k_names_all_Link_judge_link h15) <| pc (h16) <| pn)
        · injection h with h; subst h; exact runFn_sound mixedOrders Tryz.func54 rfl (keep := none) (π := [.callv (.v (.bool r2)), .dec true, .callv (.v (.bool r5)), .dec true, .callv (.v (.bool r8)), .dec true, .callv (.v (.bool r11)), .dec false]) (hrun := by kernel_rfl) (hps := pc (k_names_judge_few h3) <| pc (h4) <| pc (k_names_all_Domain_judge_bare h6) <| pc (h7) <| pc (k_names_all_Domain_judge_peers h9) <| pc (h10) <| pc (k_names_all_Port_judge_port h12) <| pc (h13) <| pn)
      · injection h with h; subst h; exact runFn_sound mixedOrders Tryz.func54 rfl (keep := none) (π := [.callv (.v (.bool r2)), .dec true, .callv (.v (.bool r5)), .dec true, .callv (.v (.bool r8)), .dec false]) (hrun := by kernel_rfl) (hps := pc (k_names_judge_few h3) <| pc (h4) <| pc (k_names_all_Domain_judge_bare h6) <| pc (h7) <| pc (k_names_all_Domain_judge_peers h9) <| pc (h10) <| pn)
    · injection h with h; subst h; exact runFn_sound mixedOrders Tryz.func54 rfl (keep := none) (π := [.callv (.v (.bool r2)), .dec true, .callv (.v (.bool r5)), .dec false]) (hrun := by kernel_rfl) (hps := pc (k_names_judge_few h3) <| pc (h4) <| pc (k_names_all_Domain_judge_bare h6) <| pc (h7) <| pn)
  · injection h with h; subst h; exact runFn_sound mixedOrders Tryz.func54 rfl (keep := none) (π := [.callv (.v (.bool r2)), .dec false]) (hrun := by kernel_rfl) (hps := pc (k_names_judge_few h3) <| pc (h4) <| pn)

theorem k_owners_Right_L1 {a1 : Api_Net} {a2 : List Int} : LoopOK Tryz.prog UU 0 51 (subC (codeOf Tryz.f36) [1, 1, 0, 1, 0, 0]) (ρ := Unit ⊕ Unit) (owners_Right_L1 a1 a2)
    (fun v7 : Int => ([(2, .op 0 1 0 0), (4, .v (.bool false)), (19, .sl 3 a2), (20, .v (.int .i64 (a2.length : Int))), (21, .v (.int .i64 v7))] : Fr DD)) (fun v7 : Int => ([.box 31 (c31 a1) false] : Heap DD)) (fun r => match r with | Sum.inl _ => .ret | Sum.inr _ => .exit 0) (fun r => match r with | Sum.inl _ => [(4, .v (.bool false))] | Sum.inr _ => [(4, .v (.bool false))]) (fun r => match r with | Sum.inl _ => [] | Sum.inr _ => []) := by
  refine loop_sound3 (fun s q h => ?_) (fun r => ?_)
  · replace h : owners_Right_L1 a1 a2 s = some q := h; revert h; revert s; intro v7 h
    unfold owners_Right_L1 at h
    rcases ite_out h with ⟨h8, h⟩ | ⟨h8, h⟩
    · obtain ⟨x9, h10, h⟩ := bind_out h
      obtain ⟨x11, h12, h⟩ := bind_out h
      rcases ite_out h with ⟨h13, h⟩ | ⟨h13, h⟩
      · rcases ite_out h with ⟨h14, h⟩ | ⟨h14, h⟩
        · injection h with h; subst h; exact runLp_sound mixedOrders (live := [4]) (ids := []) (π := [.dec true, .row (c3 x9), .row (c65 x11), .dec true, .dec true]) (hx := by kernel_rfl) (hps := pc (h8) <| pc (ob3 h10) <| pc (ob65 h12) <| pc (h13) <| pc (h14) <| pn)
        · rcases ite_out h with ⟨h15, h⟩ | ⟨h15, h⟩
          · rcases ite_out h with ⟨h16, h⟩ | ⟨h16, h⟩
            · injection h with h; subst h; exact runLp_sound mixedOrders (live := [4]) (ids := []) (π := [.dec true, .row (c3 x9), .row (c65 x11), .dec true, .dec false, .dec true, .dec true]) (hx := by kernel_rfl) (hps := pc (h8) <| pc (ob3 h10) <| pc (ob65 h12) <| pc (h13) <| pc (h14) <| pc (h15) <| pc (h16) <| pn)
            · rcases ite_out h with ⟨h17, h⟩ | ⟨h17, h⟩
              · injection h with h; subst h; exact runLp_sound mixedOrders (live := [4]) (ids := []) (π := [.dec true, .row (c3 x9), .row (c65 x11), .dec true, .dec false, .dec true, .dec false, .dec true]) (hx := by kernel_rfl) (hps := pc (h8) <| pc (ob3 h10) <| pc (ob65 h12) <| pc (h13) <| pc (h14) <| pc (h15) <| pc (h16) <| pc (h17) <| pn)
              · injection h with h; subst h; exact runLp_sound mixedOrders (live := [2, 4, 19, 20, 21]) (ids := [0]) (π := [.dec true, .row (c3 x9), .row (c65 x11), .dec true, .dec false, .dec true, .dec false, .dec false]) (hx := by kernel_rfl) (hps := pc (h8) <| pc (ob3 h10) <| pc (ob65 h12) <| pc (h13) <| pc (h14) <| pc (h15) <| pc (h16) <| pc (h17) <| pn)
          · injection h with h; subst h; exact runLp_sound mixedOrders (live := [2, 4, 19, 20, 21]) (ids := [0]) (π := [.dec true, .row (c3 x9), .row (c65 x11), .dec true, .dec false, .dec false]) (hx := by kernel_rfl) (hps := pc (h8) <| pc (ob3 h10) <| pc (ob65 h12) <| pc (h13) <| pc (h14) <| pc (h15) <| pn)
      · rcases ite_out h with ⟨h18, h⟩ | ⟨h18, h⟩
        · rcases ite_out h with ⟨h19, h⟩ | ⟨h19, h⟩
          · injection h with h; subst h; exact runLp_sound mixedOrders (live := [4]) (ids := []) (π := [.dec true, .row (c3 x9), .row (c65 x11), .dec false, .dec true, .dec true]) (hx := by kernel_rfl) (hps := pc (h8) <| pc (ob3 h10) <| pc (ob65 h12) <| pc (h13) <| pc (h18) <| pc (h19) <| pn)
          · rcases ite_out h with ⟨h20, h⟩ | ⟨h20, h⟩
            · injection h with h; subst h; exact runLp_sound mixedOrders (live := [4]) (ids := []) (π := [.dec true, .row (c3 x9), .row (c65 x11), .dec false, .dec true, .dec false, .dec true]) (hx := by kernel_rfl) (hps := pc (h8) <| pc (ob3 h10) <| pc (ob65 h12) <| pc (h13) <| pc (h18) <| pc (h19) <| pc (h20) <| pn)
            · injection h with h; subst h; exact runLp_sound mixedOrders (live := [2, 4, 19, 20, 21]) (ids := [0]) (π := [.dec true, .row (c3 x9), .row (c65 x11), .dec false, .dec true, .dec false, .dec false]) (hx := by kernel_rfl) (hps := pc (h8) <| pc (ob3 h10) <| pc (ob65 h12) <| pc (h13) <| pc (h18) <| pc (h19) <| pc (h20) <| pn)
        · injection h with h; subst h; exact runLp_sound mixedOrders (live := [2, 4, 19, 20, 21]) (ids := [0]) (π := [.dec true, .row (c3 x9), .row (c65 x11), .dec false, .dec false]) (hx := by kernel_rfl) (hps := pc (h8) <| pc (ob3 h10) <| pc (ob65 h12) <| pc (h13) <| pc (h18) <| pn)
    · injection h with h; subst h; exact runLp_sound mixedOrders (live := [4]) (ids := []) (π := [.dec false]) (hx := by kernel_rfl) (hps := pc (h8) <| pn)
  · rcases r with _ | _ <;> exact Ex.noConfusion

theorem k_owners_Right {a1 : Api_Net} {a2 : List Int} {r : Bool} (h : owners_Right a1 a2 = some r) :
    CallsOK Tryz.prog UU 36 [.agg (c31 a1), .sl 3 a2] [] (.v (.bool r)) [] := by
  unfold owners_Right at h
  rcases ite_out h with ⟨h3, h⟩ | ⟨h3, h⟩
  · injection h with h; subst h; exact runFn_sound mixedOrders Tryz.func36 rfl (keep := none) (π := [.dec true]) (hrun := by kernel_rfl) (hps := pc (h3) <| pn)
  · obtain ⟨r4, h5, h⟩ := bind_out h
    rcases ite_out h with ⟨h6, h⟩ | ⟨h6, h⟩
    · injection h with h; subst h; exact runFn_sound mixedOrders Tryz.func36 rfl (keep := none) (π := [.dec false, .callv (.v (.bool r4)), .dec true]) (hrun := by kernel_rfl) (hps := pc (h3) <| pc (k_names_Right h5) <| pc (h6) <| pn)
    · obtain ⟨r22, h21, h⟩ := bind_out h
      rcases r22 with _ | _
      · injection h with h; subst h; exact runFn_sound mixedOrders Tryz.func36 rfl (keep := none) (π := [.dec false, .callv (.v (.bool r4)), .dec false, .sum [2, 4, 19, 20, 21] [0] .ret [(4, .v (.bool false))] []]) (hrun := by kernel_rfl) (hps := pc (h3) <| pc (k_names_Right h5) <| pc (h6) <| pc (k_owners_Right_L1 _ _ h21) <| pn)
      · injection h with h; subst h; exact runFn_sound mixedOrders Tryz.func36 rfl (keep := none) (π := [.dec false, .callv (.v (.bool r4)), .dec false, .sum [2, 4, 19, 20, 21] [0] (.exit 0) [(4, .v (.bool false))] []]) (hrun := by kernel_rfl) (hps := pc (h3) <| pc (k_names_Right h5) <| pc (h6) <| pc (k_owners_Right_L1 _ _ h21) <| pn)

theorem k_reach_place {a1 : Api_Net} {a2 : Int} {r : Bool} (h : reach_place a1 a2 = some r) :
    CallsOK Tryz.prog UU 171 [.agg (c31 a1), .v (.int .i64 a2)] [] (.v (.bool r)) [] := by
  unfold reach_place at h
  rcases ite_out h with ⟨h3, h⟩ | ⟨h3, h⟩
  · rcases ite_out h with ⟨h4, h⟩ | ⟨h4, h⟩
    · obtain ⟨r5, h6, h⟩ := bind_out h
      injection h with h; subst h; exact runFn_sound mixedOrders Tryz.func171 rfl (keep := none) (π := [.dec true, .dec true, .callv (.v (.bool r5))]) (hrun := by kernel_rfl) (hps := pc (h3) <| pc (h4) <| pc (k_names_Right h6) <| pn)
    · injection h with h; subst h; exact runFn_sound mixedOrders Tryz.func171 rfl (keep := none) (π := [.dec true, .dec false]) (hrun := by kernel_rfl) (hps := pc (h3) <| pc (h4) <| pn)
  · injection h with h; subst h; exact runFn_sound mixedOrders Tryz.func171 rfl (keep := none) (π := [.dec false]) (hrun := by kernel_rfl) (hps := pc (h3) <| pn)

theorem k_names_Members_L1 {a1 : Api_Net} {a2 : Int} : LoopOK Tryz.prog UU 0 51 (subC (codeOf Tryz.f38) [1, 1, 1, 0, 1, 0, 0]) (fun s : (List Int) × Int => match s with | (l9, v10) => names_Members_L1 a1 a2 l9 v10)
    (fun s : (List Int) × Int => (match s with | (l9, v10) => [(1, .v (.int .i64 a2)), (2, .op 0 1 0 0), (4, .os 1 0), (5, .os 2 (List.length l9)), (19, .sl 65 a1.ports), (20, .v (.int .i64 (a1.ports.length : Int))), (21, .v (.int .i64 v10))] : Fr DD)) (fun s : (List Int) × Int => (match s with | (l9, v10) => [.box 31 (c31 a1) false, .n 3, .arr 3 l9 (List.length l9) false] : Heap DD)) (fun r => match r with | l25 => .exit 0) (fun r => match r with | l25 => [(4, .os 0 0), (5, .os 1 (List.length l25))]) (fun r => match r with | l25 => [.n 3, .arr 3 l25 (List.length l25) false]) := by
  refine loop_sound3 (fun s q h => ?_) (fun r => ?_)
  · obtain ⟨l9, v10⟩ := s; replace h : names_Members_L1 a1 a2 l9 v10 = some q := h
    unfold names_Members_L1 at h
    rcases ite_out h with ⟨h11, h⟩ | ⟨h11, h⟩
    · obtain ⟨x12, h13, h⟩ := bind_out h
      obtain ⟨x14, h15, h⟩ := bind_out h
      rcases ite_out h with ⟨h16, h⟩ | ⟨h16, h⟩
      · obtain ⟨x17, h18, h⟩ := bind_out h
        obtain ⟨r19, h20, h⟩ := bind_out h
        rcases ite_out h with ⟨h21, h⟩ | ⟨h21, h⟩
        · rcases ite_out h with ⟨h22, h⟩ | ⟨h22, h⟩
          · injection h with h; subst h; exact runLp_sound mixedOrders (live := [1, 2, 4, 5, 19, 20, 21]) (ids := [0, 1, 2]) (π := [.dec true, .row (c65 x12), .row (c67 x14), .dec true, .row (c67 x17), .callv (.v (.bool r19)), .dec true, .obj [] (.arr 3 [v10] (List.length [v10]) false), .obj [] (.arr 3 (l9 ++ [v10]) (List.length (l9 ++ [v10])) false)]) (hx := by kernel_rfl) (hps := pc (h11) <| pc (ob65 h13) <| pc (ob67 h15) <| pc (h16) <| pc (ob67 h18) <| pc (k_names_Member h20) <| pc (h21) <| pc (bs_ob 3 [v10]) <| pc (app_ob 3 (n := (List.length l9)) (l := l9) (xs := [v10]) h22) <| pc ((rfl : ((List.length [v10]) : Nat) = (List.length [v10]))) <| pn)
          · cases h
        · injection h with h; subst h; exact runLp_sound mixedOrders (live := [1, 2, 4, 5, 19, 20, 21]) (ids := [0, 1, 2]) (π := [.dec true, .row (c65 x12), .row (c67 x14), .dec true, .row (c67 x17), .callv (.v (.bool r19)), .dec false]) (hx := by kernel_rfl) (hps := pc (h11) <| pc (ob65 h13) <| pc (ob67 h15) <| pc (h16) <| pc (ob67 h18) <| pc (k_names_Member h20) <| pc (h21) <| pn)
      · injection h with h; subst h; exact runLp_sound mixedOrders (live := [1, 2, 4, 5, 19, 20, 21]) (ids := [0, 1, 2]) (π := [.dec true, .row (c65 x12), .row (c67 x14), .dec false]) (hx := by kernel_rfl) (hps := pc (h11) <| pc (ob65 h13) <| pc (ob67 h15) <| pc (h16) <| pn)
    · injection h with h; subst h; exact runLp_sound mixedOrders (live := [4, 5]) (ids := [1, 2]) (π := [.dec false]) (hx := by kernel_rfl) (hps := pc (h11) <| pn)
  · exact Ex.noConfusion

theorem k_names_Members {a1 : Api_Net} {a2 : Int} {r : ((List Int))} (h : names_Members a1 a2 = some r) :
    CallsOK Tryz.prog UU 38 [.agg (c31 a1), .v (.int .i64 a2)] [] ((fun r => match r with | l28 => .os 0 (List.length l28)) r) ((fun r => match r with | l28 => [.arr 3 l28 (List.length l28) false]) r) := by
  unfold names_Members at h
  obtain ⟨r3, h4, h⟩ := bind_out h
  rcases ite_out h with ⟨h5, h⟩ | ⟨h5, h⟩
  · injection h with h; subst h; exact runFn_sound mixedOrders Tryz.func38 rfl (keep := some [2]) (π := [.callv (.v (.bool r3)), .dec true]) (hrun := by kernel_rfl) (hps := pc (k_names_Right h4) <| pc (h5) <| pn)
  · obtain ⟨r6, h7, h⟩ := bind_out h
    rcases ite_out h with ⟨h8, h⟩ | ⟨h8, h⟩
    · injection h with h; subst h; exact runFn_sound mixedOrders Tryz.func38 rfl (keep := some [2]) (π := [.callv (.v (.bool r3)), .dec false, .callv (.v (.bool r6)), .dec true]) (hrun := by kernel_rfl) (hps := pc (k_names_Right h4) <| pc (h5) <| pc (k_names_place_Domain h7) <| pc (h8) <| pn)
    · obtain ⟨l25, h26, h⟩ := bind_out h
      injection h with h; subst h; exact runFn_sound mixedOrders Tryz.func38 rfl (keep := some [1]) (π := [.callv (.v (.bool r3)), .dec false, .callv (.v (.bool r6)), .dec false, .sum [1, 2, 4, 5, 19, 20, 21] [0, 1, 2] (.exit 0) [(4, .os 0 0), (5, .os 1 (List.length l25))] [.n 3, .arr 3 l25 (List.length l25) false]]) (hrun := by kernel_rfl) (hps := pc (k_names_Right h4) <| pc (h5) <| pc (k_names_place_Domain h7) <| pc (h8) <| pc (k_names_Members_L1 _ _ h26) <| pn)

theorem k_links_Other {a1 : Api_Net} {a2 : Int} {r : Int} (h : links_Other a1 a2 = some r) :
    CallsOK Tryz.prog UU 52 [.agg (c31 a1), .v (.int .i64 a2)] [] (.v (.int .i64 r)) [] := by
  unfold links_Other at h
  rcases ite_out h with ⟨h3, h⟩ | ⟨h3, h⟩
  · injection h with h; subst h; exact runFn_sound mixedOrders Tryz.func52 rfl (keep := none) (π := [.dec true]) (hrun := by kernel_rfl) (hps := pc (h3) <| pn)
  · rcases ite_out h with ⟨h4, h⟩ | ⟨h4, h⟩
    · injection h with h; subst h; exact runFn_sound mixedOrders Tryz.func52 rfl (keep := none) (π := [.dec false, .dec true]) (hrun := by kernel_rfl) (hps := pc (h3) <| pc (h4) <| pn)
    · obtain ⟨x5, h6, h⟩ := bind_out h
      rcases ite_out h with ⟨h7, h⟩ | ⟨h7, h⟩
      · injection h with h; subst h; exact runFn_sound mixedOrders Tryz.func52 rfl (keep := none) (π := [.dec false, .dec false, .row (c65 x5), .dec true]) (hrun := by kernel_rfl) (hps := pc (h3) <| pc (h4) <| pc (ob65 h6) <| pc (h7) <| pn)
      · obtain ⟨r8, h9, h⟩ := bind_out h
        rcases ite_out h with ⟨h10, h⟩ | ⟨h10, h⟩
        · injection h with h; subst h; exact runFn_sound mixedOrders Tryz.func52 rfl (keep := none) (π := [.dec false, .dec false, .row (c65 x5), .dec false, .callv (.v (.bool r8)), .dec true]) (hrun := by kernel_rfl) (hps := pc (h3) <| pc (h4) <| pc (ob65 h6) <| pc (h7) <| pc (k_names_Right h9) <| pc (h10) <| pn)
        · obtain ⟨x11, h12, h⟩ := bind_out h
          obtain ⟨x13, h14, h⟩ := bind_out h
          rcases ite_out h with ⟨h15, h⟩ | ⟨h15, h⟩
          · injection h with h; subst h; exact runFn_sound mixedOrders Tryz.func52 rfl (keep := none) (π := [.dec false, .dec false, .row (c65 x5), .dec false, .callv (.v (.bool r8)), .dec false, .row (c65 x11), .row (c92 x13), .dec true]) (hrun := by kernel_rfl) (hps := pc (h3) <| pc (h4) <| pc (ob65 h6) <| pc (h7) <| pc (k_names_Right h9) <| pc (h10) <| pc (ob65 h12) <| pc (ob92 h14) <| pc (h15) <| pn)
          · injection h with h; subst h; exact runFn_sound mixedOrders Tryz.func52 rfl (keep := none) (π := [.dec false, .dec false, .row (c65 x5), .dec false, .callv (.v (.bool r8)), .dec false, .row (c65 x11), .row (c92 x13), .dec false]) (hrun := by kernel_rfl) (hps := pc (h3) <| pc (h4) <| pc (ob65 h6) <| pc (h7) <| pc (k_names_Right h9) <| pc (h10) <| pc (ob65 h12) <| pc (ob92 h14) <| pc (h15) <| pn)

theorem k_links_Cross {a1 : Api_Net} {a2 : Int} {a3 : Int} {r : Int × Int × Bool} (h : links_Cross a1 a2 a3 = some r) :
    CallsOK Tryz.prog UU 50 [.agg (c31 a1), .v (.int .i64 a2), .v (.int .i64 a3)] [] (.tup [.v (.int .i64 r.1), .v (.int .i64 r.2.1), .v (.bool r.2.2)]) [] := by
  unfold links_Cross at h
  obtain ⟨r4, h5, h⟩ := bind_out h
  rcases ite_out h with ⟨h6, h⟩ | ⟨h6, h⟩
  · injection h with h; subst h; exact runFn_sound mixedOrders Tryz.func50 rfl (keep := none) (π := [.callv (.v (.int .i64 r4)), .dec true]) (hrun := by kernel_rfl) (hps := pc (k_links_Other h5) <| pc (h6) <| pn)
  · obtain ⟨x7, h8, h⟩ := bind_out h
    obtain ⟨r9, h10, h⟩ := bind_out h
    rcases ite_out h with ⟨h11, h⟩ | ⟨h11, h⟩
    · injection h with h; subst h; exact runFn_sound mixedOrders Tryz.func50 rfl (keep := none) (π := [.callv (.v (.int .i64 r4)), .dec false, .row (c65 x7), .callv (.v (.bool r9)), .dec true]) (hrun := by kernel_rfl) (hps := pc (k_links_Other h5) <| pc (h6) <| pc (ob65 h8) <| pc (k_names_Member h10) <| pc (h11) <| pn)
    · obtain ⟨x12, h13, h⟩ := bind_out h
      obtain ⟨x14, h15, h⟩ := bind_out h
      rcases ite_out h with ⟨h16, h⟩ | ⟨h16, h⟩
      · rcases ite_out h with ⟨h17, h⟩ | ⟨h17, h⟩
        · injection h with h; subst h; exact runFn_sound mixedOrders Tryz.func50 rfl (keep := none) (π := [.callv (.v (.int .i64 r4)), .dec false, .row (c65 x7), .callv (.v (.bool r9)), .dec false, .row (c65 x12), .row (c65 x14), .dec true, .dec true]) (hrun := by kernel_rfl) (hps := pc (k_links_Other h5) <| pc (h6) <| pc (ob65 h8) <| pc (k_names_Member h10) <| pc (h11) <| pc (ob65 h13) <| pc (ob65 h15) <| pc (h16) <| pc (h17) <| pn)
        · injection h with h; subst h; exact runFn_sound mixedOrders Tryz.func50 rfl (keep := none) (π := [.callv (.v (.int .i64 r4)), .dec false, .row (c65 x7), .callv (.v (.bool r9)), .dec false, .row (c65 x12), .row (c65 x14), .dec true, .dec false]) (hrun := by kernel_rfl) (hps := pc (k_links_Other h5) <| pc (h6) <| pc (ob65 h8) <| pc (k_names_Member h10) <| pc (h11) <| pc (ob65 h13) <| pc (ob65 h15) <| pc (h16) <| pc (h17) <| pn)
      · obtain ⟨r18, h19, h⟩ := bind_out h
        rcases ite_out h with ⟨h20, h⟩ | ⟨h20, h⟩
        · rcases ite_out h with ⟨h21, h⟩ | ⟨h21, h⟩
          · injection h with h; subst h; exact runFn_sound mixedOrders Tryz.func50 rfl (keep := none) (π := [.callv (.v (.int .i64 r4)), .dec false, .row (c65 x7), .callv (.v (.bool r9)), .dec false, .row (c65 x12), .row (c65 x14), .dec false, .callv (.v (.bool r18)), .dec true, .dec true]) (hrun := by kernel_rfl) (hps := pc (k_links_Other h5) <| pc (h6) <| pc (ob65 h8) <| pc (k_names_Member h10) <| pc (h11) <| pc (ob65 h13) <| pc (ob65 h15) <| pc (h16) <| pc (k_slices_Contains_int h19) <| pc (h20) <| pc (h21) <| pn)
          · injection h with h; subst h; exact runFn_sound mixedOrders Tryz.func50 rfl (keep := none) (π := [.callv (.v (.int .i64 r4)), .dec false, .row (c65 x7), .callv (.v (.bool r9)), .dec false, .row (c65 x12), .row (c65 x14), .dec false, .callv (.v (.bool r18)), .dec true, .dec false]) (hrun := by kernel_rfl) (hps := pc (k_links_Other h5) <| pc (h6) <| pc (ob65 h8) <| pc (k_names_Member h10) <| pc (h11) <| pc (ob65 h13) <| pc (ob65 h15) <| pc (h16) <| pc (k_slices_Contains_int h19) <| pc (h20) <| pc (h21) <| pn)
        · rcases ite_out h with ⟨h22, h⟩ | ⟨h22, h⟩
          · injection h with h; subst h; exact runFn_sound mixedOrders Tryz.func50 rfl (keep := none) (π := [.callv (.v (.int .i64 r4)), .dec false, .row (c65 x7), .callv (.v (.bool r9)), .dec false, .row (c65 x12), .row (c65 x14), .dec false, .callv (.v (.bool r18)), .dec false, .dec true]) (hrun := by kernel_rfl) (hps := pc (k_links_Other h5) <| pc (h6) <| pc (ob65 h8) <| pc (k_names_Member h10) <| pc (h11) <| pc (ob65 h13) <| pc (ob65 h15) <| pc (h16) <| pc (k_slices_Contains_int h19) <| pc (h20) <| pc (h22) <| pn)
          · injection h with h; subst h; exact runFn_sound mixedOrders Tryz.func50 rfl (keep := none) (π := [.callv (.v (.int .i64 r4)), .dec false, .row (c65 x7), .callv (.v (.bool r9)), .dec false, .row (c65 x12), .row (c65 x14), .dec false, .callv (.v (.bool r18)), .dec false, .dec false]) (hrun := by kernel_rfl) (hps := pc (k_links_Other h5) <| pc (h6) <| pc (ob65 h8) <| pc (k_names_Member h10) <| pc (h11) <| pc (ob65 h13) <| pc (ob65 h15) <| pc (h16) <| pc (k_slices_Contains_int h19) <| pc (h20) <| pc (h22) <| pn)

theorem k_names_Domain_1 {a1 : Api_Domain} {a2 : Int} {a3 : Int} {r : Bool} (h : names_Domain_1 a1 a2 a3 = some r) :
    CallsOK Tryz.prog UU 135 [.agg (c67 a1), .rp (c3 a2) 0, .rp (c3 a3) 0] [] (.v (.bool r)) [] := by
  unfold names_Domain_1 at h
  rcases ite_out h with ⟨h4, h⟩ | ⟨h4, h⟩
  · injection h with h; subst h; exact runFn_sound mixedOrders Tryz.func135 rfl (keep := none) (π := [.dec true]) (hrun := by kernel_rfl) (hps := pc (h4) <| pn)
  · injection h with h; subst h; exact runFn_sound mixedOrders Tryz.func135 rfl (keep := none) (π := [.dec false]) (hrun := by kernel_rfl) (hps := pc (h4) <| pn)

theorem k_slices_IndexFunc_Domain_Domain_1_L1 {a1 : List Api_Domain} {a2 : Int} {a3 : Int} : LoopOK Tryz.prog UU 0 19 (subC (codeOf Tryz.f136) [1, 0, 1, 0, 0]) (ρ := Int ⊕ Unit) (slices_IndexFunc_Domain_Domain_1_L1 a1 a2 a3)
    (fun v4 : Int => ([(0, .sl 67 a1), (1, .fn (.func 135) [] [.rp (c3 a2) 0, .rp (c3 a3) 0]), (4, .z), (7, .v (.int .i64 (a1.length : Int))), (8, .v (.int .i64 v4))] : Fr DD)) (fun v4 : Int => ([] : Heap DD)) (fun r => match r with | Sum.inl v12 => .ret | Sum.inr _ => .exit 0) (fun r => match r with | Sum.inl v12 => [(4, .v (.int .i64 v12))] | Sum.inr _ => [(4, .z)]) (fun r => match r with | Sum.inl v12 => [] | Sum.inr _ => []) := by
  refine loop_sound3 (fun s q h => ?_) (fun r => ?_)
  · replace h : slices_IndexFunc_Domain_Domain_1_L1 a1 a2 a3 s = some q := h; revert h; revert s; intro v4 h
    unfold slices_IndexFunc_Domain_Domain_1_L1 at h
    rcases ite_out h with ⟨h5, h⟩ | ⟨h5, h⟩
    · obtain ⟨x6, h7, h⟩ := bind_out h
      obtain ⟨r8, h9, h⟩ := bind_out h
      rcases ite_out h with ⟨h10, h⟩ | ⟨h10, h⟩
      · injection h with h; subst h; exact runLp_sound mixedOrders (live := [4]) (ids := []) (π := [.dec true, .row (c67 x6), .callv (.v (.bool r8)), .dec true]) (hx := by kernel_rfl) (hps := pc (h5) <| pc (ob67 h7) <| pc (k_names_Domain_1 h9) <| pc (h10) <| pn)
      · injection h with h; subst h; exact runLp_sound mixedOrders (live := [0, 1, 4, 7, 8]) (ids := []) (π := [.dec true, .row (c67 x6), .callv (.v (.bool r8)), .dec false]) (hx := by kernel_rfl) (hps := pc (h5) <| pc (ob67 h7) <| pc (k_names_Domain_1 h9) <| pc (h10) <| pn)
    · injection h with h; subst h; exact runLp_sound mixedOrders (live := [4]) (ids := []) (π := [.dec false]) (hx := by kernel_rfl) (hps := pc (h5) <| pn)
  · rcases r with _ | _ <;> exact Ex.noConfusion

theorem k_slices_IndexFunc_Domain_Domain_1 {a1 : List Api_Domain} {a2 : Int} {a3 : Int} {r : Int} (h : slices_IndexFunc_Domain_Domain_1 a1 a2 a3 = some r) :
    CallsOK Tryz.prog UU 136 [.sl 67 a1, .fn (.func 135) [] [.rp (c3 a2) 0, .rp (c3 a3) 0]] [] (.v (.int .i64 r)) [] := by
  unfold slices_IndexFunc_Domain_Domain_1 at h
  obtain ⟨r14, h13, h⟩ := bind_out h
  rcases r14 with v12 | _
  · injection h with h; subst h; exact runFn_sound mixedOrders Tryz.func136 rfl (keep := none) (π := [.sum [0, 1, 4, 7, 8] [] .ret [(4, .v (.int .i64 v12))] []]) (hrun := by kernel_rfl) (hps := pc (k_slices_IndexFunc_Domain_Domain_1_L1 _ _ h13) <| pn)
  · injection h with h; subst h; exact runFn_sound mixedOrders Tryz.func136 rfl (keep := none) (π := [.sum [0, 1, 4, 7, 8] [] (.exit 0) [(4, .z)] []]) (hrun := by kernel_rfl) (hps := pc (k_slices_IndexFunc_Domain_Domain_1_L1 _ _ h13) <| pn)

theorem k_names_find_Domain_Domain_1 {a1 : Api_Net} {a2 : List Api_Domain} {a3 : Int} {a4 : Int} {r : Int} (h : names_find_Domain_Domain_1 a1 a2 a3 a4 = some r) :
    CallsOK Tryz.prog UU 134 [.agg (c31 a1), .sl 67 a2, .fn (.func 135) [] [.rp (c3 a3) 0, .rp (c3 a4) 0]] [] (.v (.int .i64 r)) [] := by
  unfold names_find_Domain_Domain_1 at h
  obtain ⟨r5, h6, h⟩ := bind_out h
  rcases ite_out h with ⟨h7, h⟩ | ⟨h7, h⟩
  · injection h with h; subst h; exact runFn_sound mixedOrders Tryz.func134 rfl (keep := none) (π := [.callv (.v (.bool r5)), .dec true]) (hrun := by kernel_rfl) (hps := pc (k_names_Right h6) <| pc (h7) <| pn)
  · obtain ⟨r8, h9, h⟩ := bind_out h
    injection h with h; subst h; exact runFn_sound mixedOrders Tryz.func134 rfl (keep := none) (π := [.callv (.v (.bool r5)), .dec false, .callv (.v (.int .i64 r8))]) (hrun := by kernel_rfl) (hps := pc (k_names_Right h6) <| pc (h7) <| pc (k_slices_IndexFunc_Domain_Domain_1 h9) <| pn)

theorem k_names_Domain {a1 : Api_Net} {a2 : Int} {a3 : Int} {r : Int} (h : names_Domain a1 a2 a3 = some r) :
    CallsOK Tryz.prog UU 77 [.agg (c31 a1), .v (.int .i64 a2), .v (.int .i64 a3)] [] (.v (.int .i64 r)) [] := by
  unfold names_Domain at h
  obtain ⟨r4, h5, h⟩ := bind_out h
  injection h with h; subst h; exact runFn_sound mixedOrders Tryz.func77 rfl (keep := none) (π := [.callv (.v (.int .i64 r4))]) (hrun := by kernel_rfl) (hps := pc (k_names_find_Domain_Domain_1 h5) <| pn)

end Go.Eng
