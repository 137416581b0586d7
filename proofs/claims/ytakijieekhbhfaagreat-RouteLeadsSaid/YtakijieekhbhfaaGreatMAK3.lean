/- Part of the proof of RouteLeads: printed mirrors of the functions, or their contracts. No conditions. -/
import Derived.Test.YtakijieekhbhfaaGreatMAK2
set_option linter.unusedVariables false
set_option maxRecDepth 100000
namespace Go.Eng
open Go Go.Proofs
theorem k_palingref03_Rising_L1 {a1 : List Int} {a2 : Int} {a3 : Int} : LoopOK Tryz.prog UU 0 52 (subC (codeOf Tryz.f134) [1, 1, 0, 1, 0, 0]) (ρ := Unit ⊕ Unit) (palingref03_Rising_L1 a1 a2 a3)
    (fun v6 : Int => ([(0, .sl 3 a1), (1, .v (.int .i64 a2)), (2, .v (.int .i64 a3)), (6, .v (.bool false)), (7, .v (.int .i64 v6))] : Fr DD)) (fun v6 : Int => ([] : Heap DD)) (fun r => match r with | Sum.inl _ => .ret | Sum.inr _ => .exit 0) (fun r => match r with | Sum.inl _ => [(6, .v (.bool false))] | Sum.inr _ => [(6, .v (.bool false))]) (fun r => match r with | Sum.inl _ => [] | Sum.inr _ => []) := by
  refine loop_sound3 (fun s q h => ?_) (fun r => ?_)
  · replace h : palingref03_Rising_L1 a1 a2 a3 s = some q := h; revert h; revert s; intro v6 h
    unfold palingref03_Rising_L1 at h
    rcases ite_out h with ⟨h7, h⟩ | ⟨h7, h⟩
    · obtain ⟨x8, h9, h⟩ := bind_out h
      rcases ite_out h with ⟨h10, h⟩ | ⟨h10, h⟩
      · injection h with h; subst h; exact runLp_sound mixedOrders (live := [6]) (ids := []) (π := [.dec true, .row (c3 x8), .dec true]) (hx := by kernel_rfl) (hps := pc (h7) <| pc (ob3 h9) <| pc (h10) <| pn)
      · obtain ⟨x11, h12, h⟩ := bind_out h
        rcases ite_out h with ⟨h13, h⟩ | ⟨h13, h⟩
        · injection h with h; subst h; exact runLp_sound mixedOrders (live := [6]) (ids := []) (π := [.dec true, .row (c3 x8), .dec false, .row (c3 x11), .dec true]) (hx := by kernel_rfl) (hps := pc (h7) <| pc (ob3 h9) <| pc (h10) <| pc (ob3 h12) <| pc (h13) <| pn)
        · rcases ite_out h with ⟨h14, h⟩ | ⟨h14, h⟩
          · obtain ⟨x15, h16, h⟩ := bind_out h
            obtain ⟨x17, h18, h⟩ := bind_out h
            rcases ite_out h with ⟨h19, h⟩ | ⟨h19, h⟩
            · injection h with h; subst h; exact runLp_sound mixedOrders (live := [6]) (ids := []) (π := [.dec true, .row (c3 x8), .dec false, .row (c3 x11), .dec false, .dec true, .row (c3 x15), .row (c3 x17), .dec true]) (hx := by kernel_rfl) (hps := pc (h7) <| pc (ob3 h9) <| pc (h10) <| pc (ob3 h12) <| pc (h13) <| pc (h14) <| pc (ob3 h16) <| pc (ob3 h18) <| pc (h19) <| pn)
            · injection h with h; subst h; exact runLp_sound mixedOrders (live := [0, 1, 2, 6, 7]) (ids := []) (π := [.dec true, .row (c3 x8), .dec false, .row (c3 x11), .dec false, .dec true, .row (c3 x15), .row (c3 x17), .dec false]) (hx := by kernel_rfl) (hps := pc (h7) <| pc (ob3 h9) <| pc (h10) <| pc (ob3 h12) <| pc (h13) <| pc (h14) <| pc (ob3 h16) <| pc (ob3 h18) <| pc (h19) <| pn)
          · injection h with h; subst h; exact runLp_sound mixedOrders (live := [0, 1, 2, 6, 7]) (ids := []) (π := [.dec true, .row (c3 x8), .dec false, .row (c3 x11), .dec false, .dec false]) (hx := by kernel_rfl) (hps := pc (h7) <| pc (ob3 h9) <| pc (h10) <| pc (ob3 h12) <| pc (h13) <| pc (h14) <| pn)
    · injection h with h; subst h; exact runLp_sound mixedOrders (live := [6]) (ids := []) (π := [.dec false]) (hx := by kernel_rfl) (hps := pc (h7) <| pn)
  · rcases r with _ | _ <;> exact Ex.noConfusion

theorem k_palingref03_Rising {a1 : List Int} {a2 : Int} {a3 : Int} {r : Bool} (h : palingref03_Rising a1 a2 a3 = some r) :
    CallsOK Tryz.prog UU 134 [.sl 3 a1, .v (.int .i64 a2), .v (.int .i64 a3)] [] (.v (.bool r)) [] := by
  unfold palingref03_Rising at h
  rcases ite_out h with ⟨h4, h⟩ | ⟨h4, h⟩
  · injection h with h; subst h; exact runFn_sound mixedOrders Tryz.func134 rfl (keep := none) (π := [.dec true]) (hrun := by kernel_rfl) (hps := pc (h4) <| pn)
  · rcases ite_out h with ⟨h5, h⟩ | ⟨h5, h⟩
    · injection h with h; subst h; exact runFn_sound mixedOrders Tryz.func134 rfl (keep := none) (π := [.dec false, .dec true]) (hrun := by kernel_rfl) (hps := pc (h4) <| pc (h5) <| pn)
    · obtain ⟨r21, h20, h⟩ := bind_out h
      rcases r21 with _ | _
      · injection h with h; subst h; exact runFn_sound mixedOrders Tryz.func134 rfl (keep := none) (π := [.dec false, .dec false, .sum [0, 1, 2, 6, 7] [] .ret [(6, .v (.bool false))] []]) (hrun := by kernel_rfl) (hps := pc (h4) <| pc (h5) <| pc (k_palingref03_Rising_L1 _ _ h20) <| pn)
      · injection h with h; subst h; exact runFn_sound mixedOrders Tryz.func134 rfl (keep := none) (π := [.dec false, .dec false, .sum [0, 1, 2, 6, 7] [] (.exit 0) [(6, .v (.bool false))] []]) (hrun := by kernel_rfl) (hps := pc (h4) <| pc (h5) <| pc (k_palingref03_Rising_L1 _ _ h20) <| pn)

theorem k_palingref15_rising {a1 : List Int} {a2 : Int} {r : Bool} (h : palingref15_rising a1 a2 = some r) :
    CallsOK Tryz.prog UU 81 [.sl 3 a1, .v (.int .i64 a2)] [] (.v (.bool r)) [] := by
  unfold palingref15_rising at h
  rcases ite_out h with ⟨h3, h⟩ | ⟨h3, h⟩
  · injection h with h; subst h; exact runFn_sound mixedOrders Tryz.func81 rfl (keep := none) (π := [.dec true]) (hrun := by kernel_rfl) (hps := pc (h3) <| pn)
  · obtain ⟨r4, h5, h⟩ := bind_out h
    injection h with h; subst h; exact runFn_sound mixedOrders Tryz.func81 rfl (keep := none) (π := [.dec false, .callv (.v (.bool r4))]) (hrun := by kernel_rfl) (hps := pc (h3) <| pc (k_palingref03_Rising h5) <| pn)

theorem k_palingref15_ports_J2 {a1 : Api_Net} {v2 : Int} {x4 : Api_Port} {r : Unit ⊕ Unit} (h : palingref15_ports_J2 a1 v2 x4 = some r) :
    ExecOK Tryz.prog UU 0 120 (subC (codeOf Tryz.f23) [1, 0, 1, 0, 0, 1, 0, 0, 1, 1, 0]) [(1, .op 0 1 0 0), (2, .v (.bool false)), (3, .v (.int .i64 v2)), (4, .op 1 1 0 0)] [.box 31 (c31 a1) false, .box 59 (c59 x4) false] ((fun r => match r with | Sum.inl _ => .ret | Sum.inr _ => .nor) r) ((fun r => match r with | Sum.inl _ => [(2, .v (.bool false))] | Sum.inr _ => [(1, .op 0 1 0 0), (2, .v (.bool false)), (3, .v (.int .i64 v2)), (4, .op 1 1 0 0)]) r) ((fun r => match r with | Sum.inl _ => [] | Sum.inr _ => [.box 31 (c31 a1) false, .box 59 (c59 x4) false]) r) := by
  unfold palingref15_ports_J2 at h
  rcases ite_out h with ⟨h17, h⟩ | ⟨h17, h⟩
  · rcases ite_out h with ⟨h18, h⟩ | ⟨h18, h⟩
    · injection h with h; subst h; exact runLp_sound mixedOrders (live := [2]) (ids := []) (π := [.dec true, .dec true]) (hx := by kernel_rfl) (hps := pc (h17) <| pc (h18) <| pn)
    · rcases ite_out h with ⟨h19, h⟩ | ⟨h19, h⟩
      · obtain ⟨r20, h21, h⟩ := bind_out h
        rcases ite_out h with ⟨h22, h⟩ | ⟨h22, h⟩
        · injection h with h; subst h; exact runLp_sound mixedOrders (live := [2]) (ids := []) (π := [.dec true, .dec false, .dec true, .callv (.v (.int .i64 r20)), .dec true]) (hx := by kernel_rfl) (hps := pc (h17) <| pc (h18) <| pc (h19) <| pc (k_palingref15_At h21) <| pc (h22) <| pn)
        · injection h with h; subst h; exact runLp_sound mixedOrders (live := [1, 2, 3, 4]) (ids := [0, 1]) (π := [.dec true, .dec false, .dec true, .callv (.v (.int .i64 r20)), .dec false]) (hx := by kernel_rfl) (hps := pc (h17) <| pc (h18) <| pc (h19) <| pc (k_palingref15_At h21) <| pc (h22) <| pn)
      · injection h with h; subst h; exact runLp_sound mixedOrders (live := [1, 2, 3, 4]) (ids := [0, 1]) (π := [.dec true, .dec false, .dec false]) (hx := by kernel_rfl) (hps := pc (h17) <| pc (h18) <| pc (h19) <| pn)
  · rcases ite_out h with ⟨h23, h⟩ | ⟨h23, h⟩
    · obtain ⟨r24, h25, h⟩ := bind_out h
      rcases ite_out h with ⟨h26, h⟩ | ⟨h26, h⟩
      · injection h with h; subst h; exact runLp_sound mixedOrders (live := [2]) (ids := []) (π := [.dec false, .dec true, .callv (.v (.int .i64 r24)), .dec true]) (hx := by kernel_rfl) (hps := pc (h17) <| pc (h23) <| pc (k_palingref15_At h25) <| pc (h26) <| pn)
      · injection h with h; subst h; exact runLp_sound mixedOrders (live := [1, 2, 3, 4]) (ids := [0, 1]) (π := [.dec false, .dec true, .callv (.v (.int .i64 r24)), .dec false]) (hx := by kernel_rfl) (hps := pc (h17) <| pc (h23) <| pc (k_palingref15_At h25) <| pc (h26) <| pn)
    · injection h with h; subst h; exact runLp_sound mixedOrders (live := [1, 2, 3, 4]) (ids := [0, 1]) (π := [.dec false, .dec false]) (hx := by kernel_rfl) (hps := pc (h17) <| pc (h23) <| pn)

theorem k_palingref15_ports_L3 {a1 : Api_Net} {v2 : Int} {x4 : Api_Port} : LoopOK Tryz.prog UU 0 120 (subC (codeOf Tryz.f23) [1, 0, 1, 0, 0, 1, 0, 0, 1, 1, 1, 0, 1, 0, 0]) (ρ := Unit ⊕ Unit) (palingref15_ports_L3 a1 v2 x4)
    (fun v29 : Int => ([(1, .op 0 1 0 0), (2, .v (.bool false)), (3, .v (.int .i64 v2)), (4, .op 1 1 0 0), (5, .v (.int .i64 v29))] : Fr DD)) (fun v29 : Int => ([.box 31 (c31 a1) false, .box 59 (c59 x4) false] : Heap DD)) (fun r => match r with | Sum.inl _ => .ret | Sum.inr _ => .exit 2) (fun r => match r with | Sum.inl _ => [(2, .v (.bool false))] | Sum.inr _ => [(1, .op 0 1 0 0), (2, .v (.bool false)), (3, .v (.int .i64 v2)), (4, .op 1 1 0 0)]) (fun r => match r with | Sum.inl _ => [] | Sum.inr _ => [.box 31 (c31 a1) false, .box 59 (c59 x4) false]) := by
  refine loop_sound3 (fun s q h => ?_) (fun r => ?_)
  · replace h : palingref15_ports_L3 a1 v2 x4 s = some q := h; revert h; revert s; intro v29 h
    unfold palingref15_ports_L3 at h
    rcases ite_out h with ⟨h30, h⟩ | ⟨h30, h⟩
    · obtain ⟨x31, h32, h⟩ := bind_out h
      obtain ⟨r33, h34, h⟩ := bind_out h
      rcases ite_out h with ⟨h35, h⟩ | ⟨h35, h⟩
      · injection h with h; subst h; exact runLp_sound mixedOrders (live := [2]) (ids := []) (π := [.dec true, .row (c3 x31), .callv (.v (.int .i64 r33)), .dec true]) (hx := by kernel_rfl) (hps := pc (h30) <| pc (ob3 h32) <| pc (k_palingref15_At h34) <| pc (h35) <| pn)
      · injection h with h; subst h; exact runLp_sound mixedOrders (live := [1, 2, 3, 4, 5]) (ids := [0, 1]) (π := [.dec true, .row (c3 x31), .callv (.v (.int .i64 r33)), .dec false]) (hx := by kernel_rfl) (hps := pc (h30) <| pc (ob3 h32) <| pc (k_palingref15_At h34) <| pc (h35) <| pn)
    · injection h with h; subst h; exact runLp_sound mixedOrders (live := [1, 2, 3, 4]) (ids := [0, 1]) (π := [.dec false]) (hx := by kernel_rfl) (hps := pc (h30) <| pn)
  · rcases r with _ | _ <;> exact Ex.noConfusion

theorem k_palingref15_ports_L1 {a1 : Api_Net} : LoopOK Tryz.prog UU 0 120 (subC (codeOf Tryz.f23) [1, 0, 1, 0, 0]) (ρ := Unit ⊕ Unit) (palingref15_ports_L1 a1)
    (fun v2 : Int => ([(1, .op 0 1 0 0), (2, .v (.bool false)), (3, .v (.int .i64 v2))] : Fr DD)) (fun v2 : Int => ([.box 31 (c31 a1) false] : Heap DD)) (fun r => match r with | Sum.inl _ => .ret | Sum.inr _ => .exit 0) (fun r => match r with | Sum.inl _ => [(2, .v (.bool false))] | Sum.inr _ => [(2, .v (.bool false))]) (fun r => match r with | Sum.inl _ => [] | Sum.inr _ => []) := by
  refine loop_sound3 (fun s q h => ?_) (fun r => ?_)
  · replace h : palingref15_ports_L1 a1 s = some q := h; revert h; revert s; intro v2 h
    unfold palingref15_ports_L1 at h
    rcases ite_out h with ⟨h3, h⟩ | ⟨h3, h⟩
    · obtain ⟨x4, h5, h⟩ := bind_out h
      obtain ⟨r6, h7, h⟩ := bind_out h
      rcases ite_out h with ⟨h8, h⟩ | ⟨h8, h⟩
      · injection h with h; subst h; exact runLp_sound mixedOrders (live := [2]) (ids := []) (π := [.dec true, .row (c59 x4), .callv (.v (.bool r6)), .dec true]) (hx := by kernel_rfl) (hps := pc (h3) <| pc (ob59 h5) <| pc (k_palingref15_Place h7) <| pc (h8) <| pn)
      · rcases ite_out h with ⟨h9, h⟩ | ⟨h9, h⟩
        · injection h with h; subst h; exact runLp_sound mixedOrders (live := [2]) (ids := []) (π := [.dec true, .row (c59 x4), .callv (.v (.bool r6)), .dec false, .dec true]) (hx := by kernel_rfl) (hps := pc (h3) <| pc (ob59 h5) <| pc (k_palingref15_Place h7) <| pc (h8) <| pc (h9) <| pn)
        · rcases ite_out h with ⟨h10, h⟩ | ⟨h10, h⟩
          · injection h with h; subst h; exact runLp_sound mixedOrders (live := [2]) (ids := []) (π := [.dec true, .row (c59 x4), .callv (.v (.bool r6)), .dec false, .dec false, .dec true]) (hx := by kernel_rfl) (hps := pc (h3) <| pc (ob59 h5) <| pc (k_palingref15_Place h7) <| pc (h8) <| pc (h9) <| pc (h10) <| pn)
          · obtain ⟨r11, h12, h⟩ := bind_out h
            rcases ite_out h with ⟨h13, h⟩ | ⟨h13, h⟩
            · injection h with h; subst h; exact runLp_sound mixedOrders (live := [2]) (ids := []) (π := [.dec true, .row (c59 x4), .callv (.v (.bool r6)), .dec false, .dec false, .dec false, .callv (.v (.bool r11)), .dec true]) (hx := by kernel_rfl) (hps := pc (h3) <| pc (ob59 h5) <| pc (k_palingref15_Place h7) <| pc (h8) <| pc (h9) <| pc (h10) <| pc (k_palingref15_rising h12) <| pc (h13) <| pn)
            · obtain ⟨r14, h15, h⟩ := bind_out h
              rcases ite_out h with ⟨h16, h⟩ | ⟨h16, h⟩
              · injection h with h; subst h; exact runLp_sound mixedOrders (live := [2]) (ids := []) (π := [.dec true, .row (c59 x4), .callv (.v (.bool r6)), .dec false, .dec false, .dec false, .callv (.v (.bool r11)), .dec false, .callv (.v (.bool r14)), .dec true]) (hx := by kernel_rfl) (hps := pc (h3) <| pc (ob59 h5) <| pc (k_palingref15_Place h7) <| pc (h8) <| pc (h9) <| pc (h10) <| pc (k_palingref15_rising h12) <| pc (h13) <| pc (k_palingref15_In h15) <| pc (h16) <| pn)
              · obtain ⟨r28, h27, h⟩ := bind_out h
                rcases r28 with _ | _
                · injection h with h; subst h; exact runLp_sound mixedOrders (live := [2]) (ids := []) (π := [.dec true, .row (c59 x4), .callv (.v (.bool r6)), .dec false, .dec false, .dec false, .callv (.v (.bool r11)), .dec false, .callv (.v (.bool r14)), .dec false, .cut [1, 2, 3, 4] [0, 2] .ret [(2, .v (.bool false))] []]) (hx := by kernel_rfl) (hps := pc (h3) <| pc (ob59 h5) <| pc (k_palingref15_Place h7) <| pc (h8) <| pc (h9) <| pc (h10) <| pc (k_palingref15_rising h12) <| pc (h13) <| pc (k_palingref15_In h15) <| pc (h16) <| pc (k_palingref15_ports_J2 h27) <| pn)
                · obtain ⟨r37, h36, h⟩ := bind_out h
                  rcases r37 with _ | _
                  · injection h with h; subst h; exact runLp_sound mixedOrders (live := [2]) (ids := []) (π := [.dec true, .row (c59 x4), .callv (.v (.bool r6)), .dec false, .dec false, .dec false, .callv (.v (.bool r11)), .dec false, .callv (.v (.bool r14)), .dec false, .cut [1, 2, 3, 4] [0, 2] .nor [(1, .op 0 1 0 0), (2, .v (.bool false)), (3, .v (.int .i64 v2)), (4, .op 1 1 0 0)] [.box 31 (c31 a1) false, .box 59 (c59 x4) false], .sum [1, 2, 3, 4, 5] [0, 1] .ret [(2, .v (.bool false))] []]) (hx := by kernel_rfl) (hps := pc (h3) <| pc (ob59 h5) <| pc (k_palingref15_Place h7) <| pc (h8) <| pc (h9) <| pc (h10) <| pc (k_palingref15_rising h12) <| pc (h13) <| pc (k_palingref15_In h15) <| pc (h16) <| pc (k_palingref15_ports_J2 h27) <| pc (k_palingref15_ports_L3 _ _ h36) <| pn)
                  · rcases ite_out h with ⟨h38, h⟩ | ⟨h38, h⟩
                    · injection h with h; subst h; exact runLp_sound mixedOrders (live := [1, 2, 3]) (ids := [0]) (π := [.dec true, .row (c59 x4), .callv (.v (.bool r6)), .dec false, .dec false, .dec false, .callv (.v (.bool r11)), .dec false, .callv (.v (.bool r14)), .dec false, .cut [1, 2, 3, 4] [0, 2] .nor [(1, .op 0 1 0 0), (2, .v (.bool false)), (3, .v (.int .i64 v2)), (4, .op 1 1 0 0)] [.box 31 (c31 a1) false, .box 59 (c59 x4) false], .sum [1, 2, 3, 4, 5] [0, 1] (.exit 2) [(1, .op 0 1 0 0), (2, .v (.bool false)), (3, .v (.int .i64 v2)), (4, .op 1 1 0 0)] [.box 31 (c31 a1) false, .box 59 (c59 x4) false], .dec true]) (hx := by kernel_rfl) (hps := pc (h3) <| pc (ob59 h5) <| pc (k_palingref15_Place h7) <| pc (h8) <| pc (h9) <| pc (h10) <| pc (k_palingref15_rising h12) <| pc (h13) <| pc (k_palingref15_In h15) <| pc (h16) <| pc (k_palingref15_ports_J2 h27) <| pc (k_palingref15_ports_L3 _ _ h36) <| pc (h38) <| pn)
                    · obtain ⟨r39, h40, h⟩ := bind_out h
                      rcases ite_out h with ⟨h41, h⟩ | ⟨h41, h⟩
                      · injection h with h; subst h; exact runLp_sound mixedOrders (live := [2]) (ids := []) (π := [.dec true, .row (c59 x4), .callv (.v (.bool r6)), .dec false, .dec false, .dec false, .callv (.v (.bool r11)), .dec false, .callv (.v (.bool r14)), .dec false, .cut [1, 2, 3, 4] [0, 2] .nor [(1, .op 0 1 0 0), (2, .v (.bool false)), (3, .v (.int .i64 v2)), (4, .op 1 1 0 0)] [.box 31 (c31 a1) false, .box 59 (c59 x4) false], .sum [1, 2, 3, 4, 5] [0, 1] (.exit 2) [(1, .op 0 1 0 0), (2, .v (.bool false)), (3, .v (.int .i64 v2)), (4, .op 1 1 0 0)] [.box 31 (c31 a1) false, .box 59 (c59 x4) false], .dec false, .callv (.v (.bool r39)), .dec true]) (hx := by kernel_rfl) (hps := pc (h3) <| pc (ob59 h5) <| pc (k_palingref15_Place h7) <| pc (h8) <| pc (h9) <| pc (h10) <| pc (k_palingref15_rising h12) <| pc (h13) <| pc (k_palingref15_In h15) <| pc (h16) <| pc (k_palingref15_ports_J2 h27) <| pc (k_palingref15_ports_L3 _ _ h36) <| pc (h38) <| pc (k_palingref15_Place h40) <| pc (h41) <| pn)
                      · obtain ⟨x42, h43, h⟩ := bind_out h
                        rcases ite_out h with ⟨h44, h⟩ | ⟨h44, h⟩
                        · obtain ⟨x45, h46, h⟩ := bind_out h
                          rcases ite_out h with ⟨h47, h⟩ | ⟨h47, h⟩
                          · injection h with h; subst h; exact runLp_sound mixedOrders (live := [2]) (ids := []) (π := [.dec true, .row (c59 x4), .callv (.v (.bool r6)), .dec false, .dec false, .dec false, .callv (.v (.bool r11)), .dec false, .callv (.v (.bool r14)), .dec false, .cut [1, 2, 3, 4] [0, 2] .nor [(1, .op 0 1 0 0), (2, .v (.bool false)), (3, .v (.int .i64 v2)), (4, .op 1 1 0 0)] [.box 31 (c31 a1) false, .box 59 (c59 x4) false], .sum [1, 2, 3, 4, 5] [0, 1] (.exit 2) [(1, .op 0 1 0 0), (2, .v (.bool false)), (3, .v (.int .i64 v2)), (4, .op 1 1 0 0)] [.box 31 (c31 a1) false, .box 59 (c59 x4) false], .dec false, .callv (.v (.bool r39)), .dec false, .row (c116 x42), .dec true, .row (c116 x45), .dec true]) (hx := by kernel_rfl) (hps := pc (h3) <| pc (ob59 h5) <| pc (k_palingref15_Place h7) <| pc (h8) <| pc (h9) <| pc (h10) <| pc (k_palingref15_rising h12) <| pc (h13) <| pc (k_palingref15_In h15) <| pc (h16) <| pc (k_palingref15_ports_J2 h27) <| pc (k_palingref15_ports_L3 _ _ h36) <| pc (h38) <| pc (k_palingref15_Place h40) <| pc (h41) <| pc (ob116 h43) <| pc (h44) <| pc (ob116 h46) <| pc (h47) <| pn)
                          · injection h with h; subst h; exact runLp_sound mixedOrders (live := [1, 2, 3]) (ids := [0]) (π := [.dec true, .row (c59 x4), .callv (.v (.bool r6)), .dec false, .dec false, .dec false, .callv (.v (.bool r11)), .dec false, .callv (.v (.bool r14)), .dec false, .cut [1, 2, 3, 4] [0, 2] .nor [(1, .op 0 1 0 0), (2, .v (.bool false)), (3, .v (.int .i64 v2)), (4, .op 1 1 0 0)] [.box 31 (c31 a1) false, .box 59 (c59 x4) false], .sum [1, 2, 3, 4, 5] [0, 1] (.exit 2) [(1, .op 0 1 0 0), (2, .v (.bool false)), (3, .v (.int .i64 v2)), (4, .op 1 1 0 0)] [.box 31 (c31 a1) false, .box 59 (c59 x4) false], .dec false, .callv (.v (.bool r39)), .dec false, .row (c116 x42), .dec true, .row (c116 x45), .dec false]) (hx := by kernel_rfl) (hps := pc (h3) <| pc (ob59 h5) <| pc (k_palingref15_Place h7) <| pc (h8) <| pc (h9) <| pc (h10) <| pc (k_palingref15_rising h12) <| pc (h13) <| pc (k_palingref15_In h15) <| pc (h16) <| pc (k_palingref15_ports_J2 h27) <| pc (k_palingref15_ports_L3 _ _ h36) <| pc (h38) <| pc (k_palingref15_Place h40) <| pc (h41) <| pc (ob116 h43) <| pc (h44) <| pc (ob116 h46) <| pc (h47) <| pn)
                        · injection h with h; subst h; exact runLp_sound mixedOrders (live := [1, 2, 3]) (ids := [0]) (π := [.dec true, .row (c59 x4), .callv (.v (.bool r6)), .dec false, .dec false, .dec false, .callv (.v (.bool r11)), .dec false, .callv (.v (.bool r14)), .dec false, .cut [1, 2, 3, 4] [0, 2] .nor [(1, .op 0 1 0 0), (2, .v (.bool false)), (3, .v (.int .i64 v2)), (4, .op 1 1 0 0)] [.box 31 (c31 a1) false, .box 59 (c59 x4) false], .sum [1, 2, 3, 4, 5] [0, 1] (.exit 2) [(1, .op 0 1 0 0), (2, .v (.bool false)), (3, .v (.int .i64 v2)), (4, .op 1 1 0 0)] [.box 31 (c31 a1) false, .box 59 (c59 x4) false], .dec false, .callv (.v (.bool r39)), .dec false, .row (c116 x42), .dec false]) (hx := by kernel_rfl) (hps := pc (h3) <| pc (ob59 h5) <| pc (k_palingref15_Place h7) <| pc (h8) <| pc (h9) <| pc (h10) <| pc (k_palingref15_rising h12) <| pc (h13) <| pc (k_palingref15_In h15) <| pc (h16) <| pc (k_palingref15_ports_J2 h27) <| pc (k_palingref15_ports_L3 _ _ h36) <| pc (h38) <| pc (k_palingref15_Place h40) <| pc (h41) <| pc (ob116 h43) <| pc (h44) <| pn)
    · injection h with h; subst h; exact runLp_sound mixedOrders (live := [2]) (ids := []) (π := [.dec false]) (hx := by kernel_rfl) (hps := pc (h3) <| pn)
  · rcases r with _ | _ <;> exact Ex.noConfusion

theorem k_palingref15_ports {a1 : Api_Net} {r : Bool} (h : palingref15_ports a1 = some r) :
    CallsOK Tryz.prog UU 23 [.agg (c31 a1)] [] (.v (.bool r)) [] := by
  unfold palingref15_ports at h
  obtain ⟨r49, h48, h⟩ := bind_out h
  rcases r49 with _ | _
  · injection h with h; subst h; exact runFn_sound mixedOrders Tryz.func23 rfl (keep := none) (π := [.sum [1, 2, 3] [0] .ret [(2, .v (.bool false))] []]) (hrun := by kernel_rfl) (hps := pc (k_palingref15_ports_L1 _ _ h48) <| pn)
  · injection h with h; subst h; exact runFn_sound mixedOrders Tryz.func23 rfl (keep := none) (π := [.sum [1, 2, 3] [0] (.exit 0) [(2, .v (.bool false))] []]) (hrun := by kernel_rfl) (hps := pc (k_palingref15_ports_L1 _ _ h48) <| pn)

theorem k_palingref15_links_L1 {a1 : Api_Net} : LoopOK Tryz.prog UU 0 70 (subC (codeOf Tryz.f24) [1, 0, 1, 0, 0]) (ρ := Unit ⊕ Unit) (palingref15_links_L1 a1)
    (fun v2 : Int => ([(1, .op 0 1 0 0), (2, .v (.bool false)), (3, .v (.int .i64 v2))] : Fr DD)) (fun v2 : Int => ([.box 31 (c31 a1) false] : Heap DD)) (fun r => match r with | Sum.inl _ => .ret | Sum.inr _ => .exit 0) (fun r => match r with | Sum.inl _ => [(2, .v (.bool false))] | Sum.inr _ => [(2, .v (.bool false))]) (fun r => match r with | Sum.inl _ => [] | Sum.inr _ => []) := by
  refine loop_sound3 (fun s q h => ?_) (fun r => ?_)
  · replace h : palingref15_links_L1 a1 s = some q := h; revert h; revert s; intro v2 h
    unfold palingref15_links_L1 at h
    rcases ite_out h with ⟨h3, h⟩ | ⟨h3, h⟩
    · obtain ⟨x4, h5, h⟩ := bind_out h
      obtain ⟨r6, h7, h⟩ := bind_out h
      rcases ite_out h with ⟨h8, h⟩ | ⟨h8, h⟩
      · injection h with h; subst h; exact runLp_sound mixedOrders (live := [2]) (ids := []) (π := [.dec true, .row (c116 x4), .callv (.v (.bool r6)), .dec true]) (hx := by kernel_rfl) (hps := pc (h3) <| pc (ob116 h5) <| pc (k_palingref15_Place h7) <| pc (h8) <| pn)
      · obtain ⟨r9, h10, h⟩ := bind_out h
        rcases ite_out h with ⟨h11, h⟩ | ⟨h11, h⟩
        · injection h with h; subst h; exact runLp_sound mixedOrders (live := [2]) (ids := []) (π := [.dec true, .row (c116 x4), .callv (.v (.bool r6)), .dec false, .callv (.v (.bool r9)), .dec true]) (hx := by kernel_rfl) (hps := pc (h3) <| pc (ob116 h5) <| pc (k_palingref15_Place h7) <| pc (h8) <| pc (k_palingref15_Place h10) <| pc (h11) <| pn)
        · obtain ⟨x12, h13, h⟩ := bind_out h
          obtain ⟨x14, h15, h⟩ := bind_out h
          rcases ite_out h with ⟨h16, h⟩ | ⟨h16, h⟩
          · injection h with h; subst h; exact runLp_sound mixedOrders (live := [2]) (ids := []) (π := [.dec true, .row (c116 x4), .callv (.v (.bool r6)), .dec false, .callv (.v (.bool r9)), .dec false, .row (c59 x12), .row (c59 x14), .dec true]) (hx := by kernel_rfl) (hps := pc (h3) <| pc (ob116 h5) <| pc (k_palingref15_Place h7) <| pc (h8) <| pc (k_palingref15_Place h10) <| pc (h11) <| pc (ob59 h13) <| pc (ob59 h15) <| pc (h16) <| pn)
          · obtain ⟨x17, h18, h⟩ := bind_out h
            rcases ite_out h with ⟨h19, h⟩ | ⟨h19, h⟩
            · injection h with h; subst h; exact runLp_sound mixedOrders (live := [2]) (ids := []) (π := [.dec true, .row (c116 x4), .callv (.v (.bool r6)), .dec false, .callv (.v (.bool r9)), .dec false, .row (c59 x12), .row (c59 x14), .dec false, .row (c59 x17), .dec true]) (hx := by kernel_rfl) (hps := pc (h3) <| pc (ob116 h5) <| pc (k_palingref15_Place h7) <| pc (h8) <| pc (k_palingref15_Place h10) <| pc (h11) <| pc (ob59 h13) <| pc (ob59 h15) <| pc (h16) <| pc (ob59 h18) <| pc (h19) <| pn)
            · obtain ⟨x20, h21, h⟩ := bind_out h
              rcases ite_out h with ⟨h22, h⟩ | ⟨h22, h⟩
              · injection h with h; subst h; exact runLp_sound mixedOrders (live := [2]) (ids := []) (π := [.dec true, .row (c116 x4), .callv (.v (.bool r6)), .dec false, .callv (.v (.bool r9)), .dec false, .row (c59 x12), .row (c59 x14), .dec false, .row (c59 x17), .dec false, .row (c59 x20), .dec true]) (hx := by kernel_rfl) (hps := pc (h3) <| pc (ob116 h5) <| pc (k_palingref15_Place h7) <| pc (h8) <| pc (k_palingref15_Place h10) <| pc (h11) <| pc (ob59 h13) <| pc (ob59 h15) <| pc (h16) <| pc (ob59 h18) <| pc (h19) <| pc (ob59 h21) <| pc (h22) <| pn)
              · injection h with h; subst h; exact runLp_sound mixedOrders (live := [1, 2, 3]) (ids := [0]) (π := [.dec true, .row (c116 x4), .callv (.v (.bool r6)), .dec false, .callv (.v (.bool r9)), .dec false, .row (c59 x12), .row (c59 x14), .dec false, .row (c59 x17), .dec false, .row (c59 x20), .dec false]) (hx := by kernel_rfl) (hps := pc (h3) <| pc (ob116 h5) <| pc (k_palingref15_Place h7) <| pc (h8) <| pc (k_palingref15_Place h10) <| pc (h11) <| pc (ob59 h13) <| pc (ob59 h15) <| pc (h16) <| pc (ob59 h18) <| pc (h19) <| pc (ob59 h21) <| pc (h22) <| pn)
    · injection h with h; subst h; exact runLp_sound mixedOrders (live := [2]) (ids := []) (π := [.dec false]) (hx := by kernel_rfl) (hps := pc (h3) <| pn)
  · rcases r with _ | _ <;> exact Ex.noConfusion

theorem k_palingref15_links {a1 : Api_Net} {r : Bool} (h : palingref15_links a1 = some r) :
    CallsOK Tryz.prog UU 24 [.agg (c31 a1)] [] (.v (.bool r)) [] := by
  unfold palingref15_links at h
  obtain ⟨r24, h23, h⟩ := bind_out h
  rcases r24 with _ | _
  · injection h with h; subst h; exact runFn_sound mixedOrders Tryz.func24 rfl (keep := none) (π := [.sum [1, 2, 3] [0] .ret [(2, .v (.bool false))] []]) (hrun := by kernel_rfl) (hps := pc (k_palingref15_links_L1 _ _ h23) <| pn)
  · injection h with h; subst h; exact runFn_sound mixedOrders Tryz.func24 rfl (keep := none) (π := [.sum [1, 2, 3] [0] (.exit 0) [(2, .v (.bool false))] []]) (hrun := by kernel_rfl) (hps := pc (k_palingref15_links_L1 _ _ h23) <| pn)

theorem k_palingref15_Member {a1 : Api_Port} {a2 : Int} {r : Bool} (h : palingref15_Member a1 a2 = some r) :
    CallsOK Tryz.prog UU 82 [.agg (c59 a1), .v (.int .i64 a2)] [] (.v (.bool r)) [] := by
  unfold palingref15_Member at h
  rcases ite_out h with ⟨h3, h⟩ | ⟨h3, h⟩
  · rcases ite_out h with ⟨h4, h⟩ | ⟨h4, h⟩
    · injection h with h; subst h; exact runFn_sound mixedOrders Tryz.func82 rfl (keep := none) (π := [.dec true, .dec true]) (hrun := by kernel_rfl) (hps := pc (h3) <| pc (h4) <| pn)
    · obtain ⟨r5, h6, h⟩ := bind_out h
      injection h with h; subst h; exact runFn_sound mixedOrders Tryz.func82 rfl (keep := none) (π := [.dec true, .dec false, .callv (.v (.bool r5))]) (hrun := by kernel_rfl) (hps := pc (h3) <| pc (h4) <| pc (k_palingref15_In h6) <| pn)
  · injection h with h; subst h; exact runFn_sound mixedOrders Tryz.func82 rfl (keep := none) (π := [.dec false]) (hrun := by kernel_rfl) (hps := pc (h3) <| pn)

theorem k_palingref15_rest_L1 {a1 : Api_Net} : LoopOK Tryz.prog UU 0 192 (subC (codeOf Tryz.f25) [1, 0, 1, 0, 0]) (ρ := Unit ⊕ Unit) (palingref15_rest_L1 a1)
    (fun v2 : Int => ([(1, .op 0 1 0 0), (2, .v (.bool false)), (3, .v (.int .i64 v2))] : Fr DD)) (fun v2 : Int => ([.box 31 (c31 a1) false] : Heap DD)) (fun r => match r with | Sum.inl _ => .ret | Sum.inr _ => .exit 0) (fun r => match r with | Sum.inl _ => [(2, .v (.bool false))] | Sum.inr _ => [(1, .op 0 1 0 0), (2, .v (.bool false))]) (fun r => match r with | Sum.inl _ => [] | Sum.inr _ => [.box 31 (c31 a1) false]) := by
  refine loop_sound3 (fun s q h => ?_) (fun r => ?_)
  · replace h : palingref15_rest_L1 a1 s = some q := h; revert h; revert s; intro v2 h
    unfold palingref15_rest_L1 at h
    rcases ite_out h with ⟨h3, h⟩ | ⟨h3, h⟩
    · obtain ⟨x4, h5, h⟩ := bind_out h
      obtain ⟨r6, h7, h⟩ := bind_out h
      rcases ite_out h with ⟨h8, h⟩ | ⟨h8, h⟩
      · injection h with h; subst h; exact runLp_sound mixedOrders (live := [2]) (ids := []) (π := [.dec true, .row (c120 x4), .callv (.v (.bool r6)), .dec true]) (hx := by kernel_rfl) (hps := pc (h3) <| pc (ob120 h5) <| pc (k_palingref15_Place h7) <| pc (h8) <| pn)
      · obtain ⟨r9, h10, h⟩ := bind_out h
        rcases ite_out h with ⟨h11, h⟩ | ⟨h11, h⟩
        · injection h with h; subst h; exact runLp_sound mixedOrders (live := [2]) (ids := []) (π := [.dec true, .row (c120 x4), .callv (.v (.bool r6)), .dec false, .callv (.v (.bool r9)), .dec true]) (hx := by kernel_rfl) (hps := pc (h3) <| pc (ob120 h5) <| pc (k_palingref15_Place h7) <| pc (h8) <| pc (k_palingref15_Place h10) <| pc (h11) <| pn)
        · obtain ⟨x12, h13, h⟩ := bind_out h
          obtain ⟨x14, h15, h⟩ := bind_out h
          rcases ite_out h with ⟨h16, h⟩ | ⟨h16, h⟩
          · injection h with h; subst h; exact runLp_sound mixedOrders (live := [2]) (ids := []) (π := [.dec true, .row (c120 x4), .callv (.v (.bool r6)), .dec false, .callv (.v (.bool r9)), .dec false, .row (c61 x12), .row (c59 x14), .dec true]) (hx := by kernel_rfl) (hps := pc (h3) <| pc (ob120 h5) <| pc (k_palingref15_Place h7) <| pc (h8) <| pc (k_palingref15_Place h10) <| pc (h11) <| pc (ob61 h13) <| pc (ob59 h15) <| pc (h16) <| pn)
          · obtain ⟨x17, h18, h⟩ := bind_out h
            obtain ⟨r19, h20, h⟩ := bind_out h
            rcases ite_out h with ⟨h21, h⟩ | ⟨h21, h⟩
            · injection h with h; subst h; exact runLp_sound mixedOrders (live := [2]) (ids := []) (π := [.dec true, .row (c120 x4), .callv (.v (.bool r6)), .dec false, .callv (.v (.bool r9)), .dec false, .row (c61 x12), .row (c59 x14), .dec false, .row (c59 x17), .callv (.v (.bool r19)), .dec true]) (hx := by kernel_rfl) (hps := pc (h3) <| pc (ob120 h5) <| pc (k_palingref15_Place h7) <| pc (h8) <| pc (k_palingref15_Place h10) <| pc (h11) <| pc (ob61 h13) <| pc (ob59 h15) <| pc (h16) <| pc (ob59 h18) <| pc (k_palingref15_Member h20) <| pc (h21) <| pn)
            · injection h with h; subst h; exact runLp_sound mixedOrders (live := [1, 2, 3]) (ids := [0]) (π := [.dec true, .row (c120 x4), .callv (.v (.bool r6)), .dec false, .callv (.v (.bool r9)), .dec false, .row (c61 x12), .row (c59 x14), .dec false, .row (c59 x17), .callv (.v (.bool r19)), .dec false]) (hx := by kernel_rfl) (hps := pc (h3) <| pc (ob120 h5) <| pc (k_palingref15_Place h7) <| pc (h8) <| pc (k_palingref15_Place h10) <| pc (h11) <| pc (ob61 h13) <| pc (ob59 h15) <| pc (h16) <| pc (ob59 h18) <| pc (k_palingref15_Member h20) <| pc (h21) <| pn)
    · injection h with h; subst h; exact runLp_sound mixedOrders (live := [1, 2]) (ids := [0]) (π := [.dec false]) (hx := by kernel_rfl) (hps := pc (h3) <| pn)
  · rcases r with _ | _ <;> exact Ex.noConfusion

theorem k_palingref15_rest_L2 {a1 : Api_Net} : LoopOK Tryz.prog UU 0 192 (subC (codeOf Tryz.f25) [1, 1, 0, 1, 0, 0]) (ρ := Unit ⊕ Unit) (palingref15_rest_L2 a1)
    (fun v24 : Int => ([(1, .op 0 1 0 0), (2, .v (.bool false)), (6, .v (.int .i64 v24))] : Fr DD)) (fun v24 : Int => ([.box 31 (c31 a1) false] : Heap DD)) (fun r => match r with | Sum.inl _ => .ret | Sum.inr _ => .exit 2) (fun r => match r with | Sum.inl _ => [(2, .v (.bool false))] | Sum.inr _ => [(1, .op 0 1 0 0), (2, .v (.bool false))]) (fun r => match r with | Sum.inl _ => [] | Sum.inr _ => [.box 31 (c31 a1) false]) := by
  refine loop_sound3 (fun s q h => ?_) (fun r => ?_)
  · replace h : palingref15_rest_L2 a1 s = some q := h; revert h; revert s; intro v24 h
    unfold palingref15_rest_L2 at h
    rcases ite_out h with ⟨h25, h⟩ | ⟨h25, h⟩
    · obtain ⟨x26, h27, h⟩ := bind_out h
      obtain ⟨r28, h29, h⟩ := bind_out h
      rcases ite_out h with ⟨h30, h⟩ | ⟨h30, h⟩
      · injection h with h; subst h; exact runLp_sound mixedOrders (live := [2]) (ids := []) (π := [.dec true, .row (c64 x26), .callv (.v (.bool r28)), .dec true]) (hx := by kernel_rfl) (hps := pc (h25) <| pc (ob64 h27) <| pc (k_palingref15_Place h29) <| pc (h30) <| pn)
      · obtain ⟨x31, h32, h⟩ := bind_out h
        rcases ite_out h with ⟨h33, h⟩ | ⟨h33, h⟩
        · injection h with h; subst h; exact runLp_sound mixedOrders (live := [2]) (ids := []) (π := [.dec true, .row (c64 x26), .callv (.v (.bool r28)), .dec false, .row (c64 x31), .dec true]) (hx := by kernel_rfl) (hps := pc (h25) <| pc (ob64 h27) <| pc (k_palingref15_Place h29) <| pc (h30) <| pc (ob64 h32) <| pc (h33) <| pn)
        · injection h with h; subst h; exact runLp_sound mixedOrders (live := [1, 2, 6]) (ids := [0]) (π := [.dec true, .row (c64 x26), .callv (.v (.bool r28)), .dec false, .row (c64 x31), .dec false]) (hx := by kernel_rfl) (hps := pc (h25) <| pc (ob64 h27) <| pc (k_palingref15_Place h29) <| pc (h30) <| pc (ob64 h32) <| pc (h33) <| pn)
    · injection h with h; subst h; exact runLp_sound mixedOrders (live := [1, 2]) (ids := [0]) (π := [.dec false]) (hx := by kernel_rfl) (hps := pc (h25) <| pn)
  · rcases r with _ | _ <;> exact Ex.noConfusion

theorem k_palingref15_rest_L3 {a1 : Api_Net} : LoopOK Tryz.prog UU 0 192 (subC (codeOf Tryz.f25) [1, 1, 1, 0, 1, 0, 0]) (ρ := Unit ⊕ Unit) (palingref15_rest_L3 a1)
    (fun v36 : Int => ([(1, .op 0 1 0 0), (2, .v (.bool false)), (7, .v (.int .i64 v36))] : Fr DD)) (fun v36 : Int => ([.box 31 (c31 a1) false] : Heap DD)) (fun r => match r with | Sum.inl _ => .ret | Sum.inr _ => .exit 4) (fun r => match r with | Sum.inl _ => [(2, .v (.bool false))] | Sum.inr _ => [(1, .op 0 1 0 0), (2, .v (.bool false))]) (fun r => match r with | Sum.inl _ => [] | Sum.inr _ => [.box 31 (c31 a1) false]) := by
  refine loop_sound3 (fun s q h => ?_) (fun r => ?_)
  · replace h : palingref15_rest_L3 a1 s = some q := h; revert h; revert s; intro v36 h
    unfold palingref15_rest_L3 at h
    rcases ite_out h with ⟨h37, h⟩ | ⟨h37, h⟩
    · obtain ⟨x38, h39, h⟩ := bind_out h
      obtain ⟨r40, h41, h⟩ := bind_out h
      rcases ite_out h with ⟨h42, h⟩ | ⟨h42, h⟩
      · injection h with h; subst h; exact runLp_sound mixedOrders (live := [2]) (ids := []) (π := [.dec true, .row (c66 x38), .callv (.v (.bool r40)), .dec true]) (hx := by kernel_rfl) (hps := pc (h37) <| pc (ob66 h39) <| pc (k_palingref15_Place h41) <| pc (h42) <| pn)
      · obtain ⟨r43, h44, h⟩ := bind_out h
        rcases ite_out h with ⟨h45, h⟩ | ⟨h45, h⟩
        · injection h with h; subst h; exact runLp_sound mixedOrders (live := [2]) (ids := []) (π := [.dec true, .row (c66 x38), .callv (.v (.bool r40)), .dec false, .callv (.v (.bool r43)), .dec true]) (hx := by kernel_rfl) (hps := pc (h37) <| pc (ob66 h39) <| pc (k_palingref15_Place h41) <| pc (h42) <| pc (k_palingref15_rising h44) <| pc (h45) <| pn)
        · obtain ⟨r46, h47, h⟩ := bind_out h
          rcases ite_out h with ⟨h48, h⟩ | ⟨h48, h⟩
          · injection h with h; subst h; exact runLp_sound mixedOrders (live := [2]) (ids := []) (π := [.dec true, .row (c66 x38), .callv (.v (.bool r40)), .dec false, .callv (.v (.bool r43)), .dec false, .callv (.v (.bool r46)), .dec true]) (hx := by kernel_rfl) (hps := pc (h37) <| pc (ob66 h39) <| pc (k_palingref15_Place h41) <| pc (h42) <| pc (k_palingref15_rising h44) <| pc (h45) <| pc (k_palingref15_rising h47) <| pc (h48) <| pn)
          · injection h with h; subst h; exact runLp_sound mixedOrders (live := [1, 2, 7]) (ids := [0]) (π := [.dec true, .row (c66 x38), .callv (.v (.bool r40)), .dec false, .callv (.v (.bool r43)), .dec false, .callv (.v (.bool r46)), .dec false]) (hx := by kernel_rfl) (hps := pc (h37) <| pc (ob66 h39) <| pc (k_palingref15_Place h41) <| pc (h42) <| pc (k_palingref15_rising h44) <| pc (h45) <| pc (k_palingref15_rising h47) <| pc (h48) <| pn)
    · injection h with h; subst h; exact runLp_sound mixedOrders (live := [1, 2]) (ids := [0]) (π := [.dec false]) (hx := by kernel_rfl) (hps := pc (h37) <| pn)
  · rcases r with _ | _ <;> exact Ex.noConfusion

theorem k_palingref15_rest_L4 {a1 : Api_Net} : LoopOK Tryz.prog UU 0 192 (subC (codeOf Tryz.f25) [1, 1, 1, 1, 0, 1, 0, 0]) (ρ := Unit ⊕ Unit) (palingref15_rest_L4 a1)
    (fun v51 : Int => ([(1, .op 0 1 0 0), (2, .v (.bool false)), (9, .v (.int .i64 v51))] : Fr DD)) (fun v51 : Int => ([.box 31 (c31 a1) false] : Heap DD)) (fun r => match r with | Sum.inl _ => .ret | Sum.inr _ => .exit 6) (fun r => match r with | Sum.inl _ => [(2, .v (.bool false))] | Sum.inr _ => [(2, .v (.bool false))]) (fun r => match r with | Sum.inl _ => [] | Sum.inr _ => []) := by
  refine loop_sound3 (fun s q h => ?_) (fun r => ?_)
  · replace h : palingref15_rest_L4 a1 s = some q := h; revert h; revert s; intro v51 h
    unfold palingref15_rest_L4 at h
    rcases ite_out h with ⟨h52, h⟩ | ⟨h52, h⟩
    · obtain ⟨x53, h54, h⟩ := bind_out h
      obtain ⟨r55, h56, h⟩ := bind_out h
      rcases ite_out h with ⟨h57, h⟩ | ⟨h57, h⟩
      · injection h with h; subst h; exact runLp_sound mixedOrders (live := [2]) (ids := []) (π := [.dec true, .row (c76 x53), .callv (.v (.bool r55)), .dec true]) (hx := by kernel_rfl) (hps := pc (h52) <| pc (ob76 h54) <| pc (k_palingref15_Place h56) <| pc (h57) <| pn)
      · obtain ⟨r58, h59, h⟩ := bind_out h
        rcases ite_out h with ⟨h60, h⟩ | ⟨h60, h⟩
        · injection h with h; subst h; exact runLp_sound mixedOrders (live := [2]) (ids := []) (π := [.dec true, .row (c76 x53), .callv (.v (.bool r55)), .dec false, .callv (.v (.bool r58)), .dec true]) (hx := by kernel_rfl) (hps := pc (h52) <| pc (ob76 h54) <| pc (k_palingref15_Place h56) <| pc (h57) <| pc (k_palingref15_Place h59) <| pc (h60) <| pn)
        · rcases ite_out h with ⟨h61, h⟩ | ⟨h61, h⟩
          · injection h with h; subst h; exact runLp_sound mixedOrders (live := [2]) (ids := []) (π := [.dec true, .row (c76 x53), .callv (.v (.bool r55)), .dec false, .callv (.v (.bool r58)), .dec false, .dec true]) (hx := by kernel_rfl) (hps := pc (h52) <| pc (ob76 h54) <| pc (k_palingref15_Place h56) <| pc (h57) <| pc (k_palingref15_Place h59) <| pc (h60) <| pc (h61) <| pn)
          · rcases ite_out h with ⟨h62, h⟩ | ⟨h62, h⟩
            · injection h with h; subst h; exact runLp_sound mixedOrders (live := [2]) (ids := []) (π := [.dec true, .row (c76 x53), .callv (.v (.bool r55)), .dec false, .callv (.v (.bool r58)), .dec false, .dec false, .dec true]) (hx := by kernel_rfl) (hps := pc (h52) <| pc (ob76 h54) <| pc (k_palingref15_Place h56) <| pc (h57) <| pc (k_palingref15_Place h59) <| pc (h60) <| pc (h61) <| pc (h62) <| pn)
            · obtain ⟨x63, h64, h⟩ := bind_out h
              obtain ⟨x65, h66, h⟩ := bind_out h
              rcases ite_out h with ⟨h67, h⟩ | ⟨h67, h⟩
              · injection h with h; subst h; exact runLp_sound mixedOrders (live := [2]) (ids := []) (π := [.dec true, .row (c76 x53), .callv (.v (.bool r55)), .dec false, .callv (.v (.bool r58)), .dec false, .dec false, .dec false, .row (c61 x63), .row (c66 x65), .dec true]) (hx := by kernel_rfl) (hps := pc (h52) <| pc (ob76 h54) <| pc (k_palingref15_Place h56) <| pc (h57) <| pc (k_palingref15_Place h59) <| pc (h60) <| pc (h61) <| pc (h62) <| pc (ob61 h64) <| pc (ob66 h66) <| pc (h67) <| pn)
              · obtain ⟨x68, h69, h⟩ := bind_out h
                rcases ite_out h with ⟨h70, h⟩ | ⟨h70, h⟩
                · injection h with h; subst h; exact runLp_sound mixedOrders (live := [2]) (ids := []) (π := [.dec true, .row (c76 x53), .callv (.v (.bool r55)), .dec false, .callv (.v (.bool r58)), .dec false, .dec false, .dec false, .row (c61 x63), .row (c66 x65), .dec false, .row (c61 x68), .dec true]) (hx := by kernel_rfl) (hps := pc (h52) <| pc (ob76 h54) <| pc (k_palingref15_Place h56) <| pc (h57) <| pc (k_palingref15_Place h59) <| pc (h60) <| pc (h61) <| pc (h62) <| pc (ob61 h64) <| pc (ob66 h66) <| pc (h67) <| pc (ob61 h69) <| pc (h70) <| pn)
                · injection h with h; subst h; exact runLp_sound mixedOrders (live := [1, 2, 9]) (ids := [0]) (π := [.dec true, .row (c76 x53), .callv (.v (.bool r55)), .dec false, .callv (.v (.bool r58)), .dec false, .dec false, .dec false, .row (c61 x63), .row (c66 x65), .dec false, .row (c61 x68), .dec false]) (hx := by kernel_rfl) (hps := pc (h52) <| pc (ob76 h54) <| pc (k_palingref15_Place h56) <| pc (h57) <| pc (k_palingref15_Place h59) <| pc (h60) <| pc (h61) <| pc (h62) <| pc (ob61 h64) <| pc (ob66 h66) <| pc (h67) <| pc (ob61 h69) <| pc (h70) <| pn)
    · injection h with h; subst h; exact runLp_sound mixedOrders (live := [2]) (ids := []) (π := [.dec false]) (hx := by kernel_rfl) (hps := pc (h52) <| pn)
  · rcases r with _ | _ <;> exact Ex.noConfusion

theorem k_palingref15_rest {a1 : Api_Net} {r : Bool} (h : palingref15_rest a1 = some r) :
    CallsOK Tryz.prog UU 25 [.agg (c31 a1)] [] (.v (.bool r)) [] := by
  unfold palingref15_rest at h
  obtain ⟨r23, h22, h⟩ := bind_out h
  rcases r23 with _ | _
  · injection h with h; subst h; exact runFn_sound mixedOrders Tryz.func25 rfl (keep := none) (π := [.sum [1, 2, 3] [0] .ret [(2, .v (.bool false))] []]) (hrun := by kernel_rfl) (hps := pc (k_palingref15_rest_L1 _ _ h22) <| pn)
  · obtain ⟨r35, h34, h⟩ := bind_out h
    rcases r35 with _ | _
    · injection h with h; subst h; exact runFn_sound mixedOrders Tryz.func25 rfl (keep := none) (π := [.sum [1, 2, 3] [0] (.exit 0) [(1, .op 0 1 0 0), (2, .v (.bool false))] [.box 31 (c31 a1) false], .sum [1, 2, 6] [0] .ret [(2, .v (.bool false))] []]) (hrun := by kernel_rfl) (hps := pc (k_palingref15_rest_L1 _ _ h22) <| pc (k_palingref15_rest_L2 _ _ h34) <| pn)
    · obtain ⟨r50, h49, h⟩ := bind_out h
      rcases r50 with _ | _
      · injection h with h; subst h; exact runFn_sound mixedOrders Tryz.func25 rfl (keep := none) (π := [.sum [1, 2, 3] [0] (.exit 0) [(1, .op 0 1 0 0), (2, .v (.bool false))] [.box 31 (c31 a1) false], .sum [1, 2, 6] [0] (.exit 2) [(1, .op 0 1 0 0), (2, .v (.bool false))] [.box 31 (c31 a1) false], .sum [1, 2, 7] [0] .ret [(2, .v (.bool false))] []]) (hrun := by kernel_rfl) (hps := pc (k_palingref15_rest_L1 _ _ h22) <| pc (k_palingref15_rest_L2 _ _ h34) <| pc (k_palingref15_rest_L3 _ _ h49) <| pn)
      · obtain ⟨r72, h71, h⟩ := bind_out h
        rcases r72 with _ | _
        · injection h with h; subst h; exact runFn_sound mixedOrders Tryz.func25 rfl (keep := none) (π := [.sum [1, 2, 3] [0] (.exit 0) [(1, .op 0 1 0 0), (2, .v (.bool false))] [.box 31 (c31 a1) false], .sum [1, 2, 6] [0] (.exit 2) [(1, .op 0 1 0 0), (2, .v (.bool false))] [.box 31 (c31 a1) false], .sum [1, 2, 7] [0] (.exit 4) [(1, .op 0 1 0 0), (2, .v (.bool false))] [.box 31 (c31 a1) false], .sum [1, 2, 9] [0] .ret [(2, .v (.bool false))] []]) (hrun := by kernel_rfl) (hps := pc (k_palingref15_rest_L1 _ _ h22) <| pc (k_palingref15_rest_L2 _ _ h34) <| pc (k_palingref15_rest_L3 _ _ h49) <| pc (k_palingref15_rest_L4 _ _ h71) <| pn)
        · injection h with h; subst h; exact runFn_sound mixedOrders Tryz.func25 rfl (keep := none) (π := [.sum [1, 2, 3] [0] (.exit 0) [(1, .op 0 1 0 0), (2, .v (.bool false))] [.box 31 (c31 a1) false], .sum [1, 2, 6] [0] (.exit 2) [(1, .op 0 1 0 0), (2, .v (.bool false))] [.box 31 (c31 a1) false], .sum [1, 2, 7] [0] (.exit 4) [(1, .op 0 1 0 0), (2, .v (.bool false))] [.box 31 (c31 a1) false], .sum [1, 2, 9] [0] (.exit 6) [(2, .v (.bool false))] []]) (hrun := by kernel_rfl) (hps := pc (k_palingref15_rest_L1 _ _ h22) <| pc (k_palingref15_rest_L2 _ _ h34) <| pc (k_palingref15_rest_L3 _ _ h49) <| pc (k_palingref15_rest_L4 _ _ h71) <| pn)

theorem k_palingref15_Right {a1 : Api_Net} {r : Bool} (h : palingref15_Right a1 = some r) :
    CallsOK Tryz.prog UU 8 [.agg (c31 a1)] [] (.v (.bool r)) [] := by
  unfold palingref15_Right at h
  rcases ite_out h with ⟨h2, h⟩ | ⟨h2, h⟩
  · injection h with h; subst h; exact runFn_sound mixedOrders Tryz.func8 rfl (keep := none) (π := [.dec true]) (hrun := by kernel_rfl) (hps := pc (h2) <| pn)
  · rcases ite_out h with ⟨h3, h⟩ | ⟨h3, h⟩
    · injection h with h; subst h; exact runFn_sound mixedOrders Tryz.func8 rfl (keep := none) (π := [.dec false, .dec true]) (hrun := by kernel_rfl) (hps := pc (h2) <| pc (h3) <| pn)
    · rcases ite_out h with ⟨h4, h⟩ | ⟨h4, h⟩
      · injection h with h; subst h; exact runFn_sound mixedOrders Tryz.func8 rfl (keep := none) (π := [.dec false, .dec false, .dec true]) (hrun := by kernel_rfl) (hps := pc (h2) <| pc (h3) <| pc (h4) <| pn)
      · rcases ite_out h with ⟨h5, h⟩ | ⟨h5, h⟩
        · injection h with h; subst h; exact runFn_sound mixedOrders Tryz.func8 rfl (keep := none) (π := [.dec false, .dec false, .dec false, .dec true]) (hrun := by kernel_rfl) (hps := pc (h2) <| pc (h3) <| pc (h4) <| pc (h5) <| pn)
        · rcases ite_out h with ⟨h6, h⟩ | ⟨h6, h⟩
          · injection h with h; subst h; exact runFn_sound mixedOrders Tryz.func8 rfl (keep := none) (π := [.dec false, .dec false, .dec false, .dec false, .dec true]) (hrun := by kernel_rfl) (hps := pc (h2) <| pc (h3) <| pc (h4) <| pc (h5) <| pc (h6) <| pn)
          · rcases ite_out h with ⟨h7, h⟩ | ⟨h7, h⟩
            · injection h with h; subst h; exact runFn_sound mixedOrders Tryz.func8 rfl (keep := none) (π := [.dec false, .dec false, .dec false, .dec false, .dec false, .dec true]) (hrun := by kernel_rfl) (hps := pc (h2) <| pc (h3) <| pc (h4) <| pc (h5) <| pc (h6) <| pc (h7) <| pn)
            · rcases ite_out h with ⟨h8, h⟩ | ⟨h8, h⟩
              · injection h with h; subst h; exact runFn_sound mixedOrders Tryz.func8 rfl (keep := none) (π := [.dec false, .dec false, .dec false, .dec false, .dec false, .dec false, .dec true]) (hrun := by kernel_rfl) (hps := pc (h2) <| pc (h3) <| pc (h4) <| pc (h5) <| pc (h6) <| pc (h7) <| pc (h8) <| pn)
              · rcases ite_out h with ⟨h9, h⟩ | ⟨h9, h⟩
                · injection h with h; subst h; exact runFn_sound mixedOrders Tryz.func8 rfl (keep := none) (π := [.dec false, .dec false, .dec false, .dec false, .dec false, .dec false, .dec false, .dec true]) (hrun := by kernel_rfl) (hps := pc (h2) <| pc (h3) <| pc (h4) <| pc (h5) <| pc (h6) <| pc (h7) <| pc (h8) <| pc (h9) <| pn)
                · obtain ⟨r10, h11, h⟩ := bind_out h
                  rcases ite_out h with ⟨h12, h⟩ | ⟨h12, h⟩
                  · obtain ⟨r13, h14, h⟩ := bind_out h
                    rcases ite_out h with ⟨h15, h⟩ | ⟨h15, h⟩
                    · obtain ⟨r16, h17, h⟩ := bind_out h
                      rcases ite_out h with ⟨h18, h⟩ | ⟨h18, h⟩
                      · obtain ⟨r19, h20, h⟩ := bind_out h
                        injection h with h; subst h; exact runFn_sound mixedOrders Tryz.func8 rfl (keep := none) (π := [.dec false, .dec false, .dec false, .dec false, .dec false, .dec false, .dec false, .dec false, .callv (.v (.bool r10)), .dec true, .callv (.v (.bool r13)), .dec true, .callv (.v (.bool r16)), .dec true, .callv (.v (.bool r19))]) (hrun := by kernel_rfl) (hps := pc (h2) <| pc (h3) <| pc (h4) <| pc (h5) <| pc (h6) <| pc (h7) <| pc (h8) <| pc (h9) <| pc (k_palingref15_domains h11) <| pc (h12) <| pc (k_palingref15_ports h14) <| pc (h15) <| pc (k_palingref15_links h17) <| pc (h18) <| pc (k_palingref15_rest h20) <| pn)
                      · injection h with h; subst h; exact runFn_sound mixedOrders Tryz.func8 rfl (keep := none) (π := [.dec false, .dec false, .dec false, .dec false, .dec false, .dec false, .dec false, .dec false, .callv (.v (.bool r10)), .dec true, .callv (.v (.bool r13)), .dec true, .callv (.v (.bool r16)), .dec false]) (hrun := by kernel_rfl) (hps := pc (h2) <| pc (h3) <| pc (h4) <| pc (h5) <| pc (h6) <| pc (h7) <| pc (h8) <| pc (h9) <| pc (k_palingref15_domains h11) <| pc (h12) <| pc (k_palingref15_ports h14) <| pc (h15) <| pc (k_palingref15_links h17) <| pc (h18) <| pn)
                    · injection h with h; subst h; exact runFn_sound mixedOrders Tryz.func8 rfl (keep := none) (π := [.dec false, .dec false, .dec false, .dec false, .dec false, .dec false, .dec false, .dec false, .callv (.v (.bool r10)), .dec true, .callv (.v (.bool r13)), .dec false]) (hrun := by kernel_rfl) (hps := pc (h2) <| pc (h3) <| pc (h4) <| pc (h5) <| pc (h6) <| pc (h7) <| pc (h8) <| pc (h9) <| pc (k_palingref15_domains h11) <| pc (h12) <| pc (k_palingref15_ports h14) <| pc (h15) <| pn)
                  · injection h with h; subst h; exact runFn_sound mixedOrders Tryz.func8 rfl (keep := none) (π := [.dec false, .dec false, .dec false, .dec false, .dec false, .dec false, .dec false, .dec false, .callv (.v (.bool r10)), .dec false]) (hrun := by kernel_rfl) (hps := pc (h2) <| pc (h3) <| pc (h4) <| pc (h5) <| pc (h6) <| pc (h7) <| pc (h8) <| pc (h9) <| pc (k_palingref15_domains h11) <| pc (h12) <| pn)

theorem k_palingref30_device {a1 : Api_Net} {a2 : Int} {r : Int} (h : palingref30_device a1 a2 = some r) :
    CallsOK Tryz.prog UU 27 [.agg (c31 a1), .v (.int .i64 a2)] [] (.v (.int .i64 r)) [] := by
  unfold palingref30_device at h
  obtain ⟨x3, h4, h⟩ := bind_out h
  obtain ⟨x5, h6, h⟩ := bind_out h
  injection h with h; subst h; exact runFn_sound mixedOrders Tryz.func27 rfl (keep := none) (π := [.row (c76 x3), .row (c61 x5)]) (hrun := by kernel_rfl) (hps := pc (ob76 h4) <| pc (ob61 h6) <| pn)

theorem k_palingref02_Right {a1 : Api_Prefix} {r : Bool} (h : palingref02_Right a1 = some r) :
    CallsOK Tryz.prog UU 83 [.agg (c74 a1)] [] (.v (.bool r)) [] := by
  unfold palingref02_Right at h
  rcases ite_out h with ⟨h2, h⟩ | ⟨h2, h⟩
  · injection h with h; subst h; exact runFn_sound mixedOrders Tryz.func83 rfl (keep := none) (π := [.dec true]) (hrun := by kernel_rfl) (hps := pc (h2) <| pn)
  · injection h with h; subst h; exact runFn_sound mixedOrders Tryz.func83 rfl (keep := none) (π := [.dec false]) (hrun := by kernel_rfl) (hps := pc (h2) <| pn)

theorem k_palingref02_size_L1 : LoopOK Tryz.prog UU 0 14 (subC (codeOf Tryz.f135) [1, 1, 0, 1, 0, 0]) (fun s : Int × Int => match s with | (v2, v3) => palingref02_size_L1 v2 v3)
    (fun s : Int × Int => (match s with | (v2, v3) => [(2, .z), (3, .v (.int .i64 v2)), (4, .v (.int .i64 v3))] : Fr DD)) (fun s : Int × Int => (match s with | (v2, v3) => [] : Heap DD)) (fun r => match r with | v6 => .exit 0) (fun r => match r with | v6 => [(2, .z), (3, .v (.int .i64 v6))]) (fun r => match r with | v6 => []) := by
  refine loop_sound3 (fun s q h => ?_) (fun r => ?_)
  · obtain ⟨v2, v3⟩ := s; replace h : palingref02_size_L1 v2 v3 = some q := h
    unfold palingref02_size_L1 at h
    rcases ite_out h with ⟨h4, h⟩ | ⟨h4, h⟩
    · injection h with h; subst h; exact runLp_sound mixedOrders (live := [2, 3, 4]) (ids := []) (π := [.dec true]) (hx := by kernel_rfl) (hps := pc (h4) <| pn)
    · injection h with h; subst h; exact runLp_sound mixedOrders (live := [2, 3]) (ids := []) (π := [.dec false]) (hx := by kernel_rfl) (hps := pc (h4) <| pn)
  · exact Ex.noConfusion

theorem k_palingref02_size {a1 : Api_Prefix} {r : Int} (h : palingref02_size a1 = some r) :
    CallsOK Tryz.prog UU 135 [.agg (c74 a1)] [] (.v (.int .i64 r)) [] := by
  unfold palingref02_size at h
  obtain ⟨v6, h7, h⟩ := bind_out h
  injection h with h; subst h; exact runFn_sound mixedOrders Tryz.func135 rfl (keep := none) (π := [.sum [2, 3, 4] [] (.exit 0) [(2, .z), (3, .v (.int .i64 v6))] []]) (hrun := by kernel_rfl) (hps := pc (k_palingref02_size_L1 _ _ h7) <| pn)

theorem k_palingref02_First {a1 : Api_Prefix} {r : Int} (h : palingref02_First a1 = some r) :
    CallsOK Tryz.prog UU 84 [.agg (c74 a1)] [] (.v (.int .u32 r)) [] := by
  unfold palingref02_First at h
  obtain ⟨r2, h3, h⟩ := bind_out h
  rcases ite_out h with ⟨h4, h⟩ | ⟨h4, h⟩
  · injection h with h; subst h; exact runFn_sound mixedOrders Tryz.func84 rfl (keep := none) (π := [.callv (.v (.bool r2)), .dec true]) (hrun := by kernel_rfl) (hps := pc (k_palingref02_Right h3) <| pc (h4) <| pn)
  · obtain ⟨r5, h6, h⟩ := bind_out h
    rcases ite_out h with ⟨h7, h⟩ | ⟨h7, h⟩
    · obtain ⟨r8, h9, h⟩ := bind_out h
      injection h with h; subst h; exact runFn_sound mixedOrders Tryz.func84 rfl (keep := none) (π := [.callv (.v (.bool r2)), .dec false, .callv (.v (.int .i64 r5)), .callv (.v (.int .i64 r8))]) (hrun := by kernel_rfl) (hps := pc (k_palingref02_Right h3) <| pc (h4) <| pc (k_palingref02_size h6) <| pc (ne0_ob h7) <| pc (k_palingref02_size h9) <| pn)
    · cases h

theorem k_palingref02_Last {a1 : Api_Prefix} {r : Int} (h : palingref02_Last a1 = some r) :
    CallsOK Tryz.prog UU 85 [.agg (c74 a1)] [] (.v (.int .u32 r)) [] := by
  unfold palingref02_Last at h
  obtain ⟨r2, h3, h⟩ := bind_out h
  rcases ite_out h with ⟨h4, h⟩ | ⟨h4, h⟩
  · injection h with h; subst h; exact runFn_sound mixedOrders Tryz.func85 rfl (keep := none) (π := [.callv (.v (.bool r2)), .dec true]) (hrun := by kernel_rfl) (hps := pc (k_palingref02_Right h3) <| pc (h4) <| pn)
  · obtain ⟨r5, h6, h⟩ := bind_out h
    obtain ⟨r7, h8, h⟩ := bind_out h
    injection h with h; subst h; exact runFn_sound mixedOrders Tryz.func85 rfl (keep := none) (π := [.callv (.v (.bool r2)), .dec false, .callv (.v (.int .u32 r5)), .callv (.v (.int .i64 r7))]) (hrun := by kernel_rfl) (hps := pc (k_palingref02_Right h3) <| pc (h4) <| pc (k_palingref02_First h6) <| pc (k_palingref02_size h8) <| pn)

theorem k_palingref02_Has {a1 : Api_Prefix} {a2 : Int} {r : Bool} (h : palingref02_Has a1 a2 = some r) :
    CallsOK Tryz.prog UU 28 [.agg (c74 a1), .v (.int .u32 a2)] [] (.v (.bool r)) [] := by
  unfold palingref02_Has at h
  obtain ⟨r3, h4, h⟩ := bind_out h
  rcases ite_out h with ⟨h5, h⟩ | ⟨h5, h⟩
  · obtain ⟨r6, h7, h⟩ := bind_out h
    rcases ite_out h with ⟨h8, h⟩ | ⟨h8, h⟩
    · obtain ⟨r9, h10, h⟩ := bind_out h
      injection h with h; subst h; exact runFn_sound mixedOrders Tryz.func28 rfl (keep := none) (π := [.callv (.v (.bool r3)), .dec true, .callv (.v (.int .u32 r6)), .dec true, .callv (.v (.int .u32 r9))]) (hrun := by kernel_rfl) (hps := pc (k_palingref02_Right h4) <| pc (h5) <| pc (k_palingref02_First h7) <| pc (h8) <| pc (k_palingref02_Last h10) <| pn)
    · injection h with h; subst h; exact runFn_sound mixedOrders Tryz.func28 rfl (keep := none) (π := [.callv (.v (.bool r3)), .dec true, .callv (.v (.int .u32 r6)), .dec false]) (hrun := by kernel_rfl) (hps := pc (k_palingref02_Right h4) <| pc (h5) <| pc (k_palingref02_First h7) <| pc (h8) <| pn)
  · injection h with h; subst h; exact runFn_sound mixedOrders Tryz.func28 rfl (keep := none) (π := [.callv (.v (.bool r3)), .dec false]) (hrun := by kernel_rfl) (hps := pc (k_palingref02_Right h4) <| pc (h5) <| pn)

theorem k_palingref20_Leaks_L1 {a1 : Api_Net} {a2 : Int} {a3 : Int} : LoopOK Tryz.prog UU 0 67 (subC (codeOf Tryz.f29) [1, 1, 1, 0, 1, 0, 0]) (ρ := Unit ⊕ Unit) (palingref20_Leaks_L1 a1 a2 a3)
    (fun v11 : Int => ([(1, .v (.int .i64 a2)), (2, .v (.int .i64 a3)), (3, .op 0 1 0 0), (6, .v (.bool false)), (7, .v (.int .i64 v11))] : Fr DD)) (fun v11 : Int => ([.box 31 (c31 a1) false] : Heap DD)) (fun r => match r with | Sum.inl _ => .ret | Sum.inr _ => .exit 0) (fun r => match r with | Sum.inl _ => [(6, .v (.bool true))] | Sum.inr _ => [(6, .v (.bool false))]) (fun r => match r with | Sum.inl _ => [] | Sum.inr _ => []) := by
  refine loop_sound3 (fun s q h => ?_) (fun r => ?_)
  · replace h : palingref20_Leaks_L1 a1 a2 a3 s = some q := h; revert h; revert s; intro v11 h
    unfold palingref20_Leaks_L1 at h
    obtain ⟨x12, h13, h⟩ := bind_out h
    rcases ite_out h with ⟨h14, h⟩ | ⟨h14, h⟩
    · obtain ⟨x15, h16, h⟩ := bind_out h
      obtain ⟨x17, h18, h⟩ := bind_out h
      rcases ite_out h with ⟨h19, h⟩ | ⟨h19, h⟩
      · obtain ⟨x20, h21, h⟩ := bind_out h
        obtain ⟨x22, h23, h⟩ := bind_out h
        obtain ⟨x24, h25, h⟩ := bind_out h
        obtain ⟨r26, h27, h⟩ := bind_out h
        rcases ite_out h with ⟨h28, h⟩ | ⟨h28, h⟩
        · injection h with h; subst h; exact runLp_sound mixedOrders (live := [6]) (ids := []) (π := [.row (c66 x12), .dec true, .row (c66 x15), .row (c66 x17), .dec true, .row (c66 x20), .row (c66 x22), .row (c3 x24), .callv (.v (.bool r26)), .dec true]) (hx := by kernel_rfl) (hps := pc (ob66 h13) <| pc (h14) <| pc (ob66 h16) <| pc (ob66 h18) <| pc (h19) <| pc (ob66 h21) <| pc (ob66 h23) <| pc (ob3 h25) <| pc (k_palingref15_In h27) <| pc (h28) <| pn)
        · injection h with h; subst h; exact runLp_sound mixedOrders (live := [1, 2, 3, 6, 7]) (ids := [0]) (π := [.row (c66 x12), .dec true, .row (c66 x15), .row (c66 x17), .dec true, .row (c66 x20), .row (c66 x22), .row (c3 x24), .callv (.v (.bool r26)), .dec false]) (hx := by kernel_rfl) (hps := pc (ob66 h13) <| pc (h14) <| pc (ob66 h16) <| pc (ob66 h18) <| pc (h19) <| pc (ob66 h21) <| pc (ob66 h23) <| pc (ob3 h25) <| pc (k_palingref15_In h27) <| pc (h28) <| pn)
      · injection h with h; subst h; exact runLp_sound mixedOrders (live := [1, 2, 3, 6, 7]) (ids := [0]) (π := [.row (c66 x12), .dec true, .row (c66 x15), .row (c66 x17), .dec false]) (hx := by kernel_rfl) (hps := pc (ob66 h13) <| pc (h14) <| pc (ob66 h16) <| pc (ob66 h18) <| pc (h19) <| pn)
    · injection h with h; subst h; exact runLp_sound mixedOrders (live := [6]) (ids := []) (π := [.row (c66 x12), .dec false]) (hx := by kernel_rfl) (hps := pc (ob66 h13) <| pc (h14) <| pn)
  · rcases r with _ | _ <;> exact Ex.noConfusion

theorem k_palingref20_Leaks {a1 : Api_Net} {a2 : Int} {a3 : Int} {r : Bool} (h : palingref20_Leaks a1 a2 a3 = some r) :
    CallsOK Tryz.prog UU 29 [.agg (c31 a1), .v (.int .i64 a2), .v (.int .i64 a3)] [] (.v (.bool r)) [] := by
  unfold palingref20_Leaks at h
  obtain ⟨r4, h5, h⟩ := bind_out h
  rcases ite_out h with ⟨h6, h⟩ | ⟨h6, h⟩
  · injection h with h; subst h; exact runFn_sound mixedOrders Tryz.func29 rfl (keep := none) (π := [.callv (.v (.bool r4)), .dec true]) (hrun := by kernel_rfl) (hps := pc (k_palingref15_Place h5) <| pc (h6) <| pn)
  · obtain ⟨r7, h8, h⟩ := bind_out h
    rcases ite_out h with ⟨h9, h⟩ | ⟨h9, h⟩
    · injection h with h; subst h; exact runFn_sound mixedOrders Tryz.func29 rfl (keep := none) (π := [.callv (.v (.bool r4)), .dec false, .callv (.v (.bool r7)), .dec true]) (hrun := by kernel_rfl) (hps := pc (k_palingref15_Place h5) <| pc (h6) <| pc (k_palingref15_Place h8) <| pc (h9) <| pn)
    · rcases ite_out h with ⟨h10, h⟩ | ⟨h10, h⟩
      · injection h with h; subst h; exact runFn_sound mixedOrders Tryz.func29 rfl (keep := none) (π := [.callv (.v (.bool r4)), .dec false, .callv (.v (.bool r7)), .dec false, .dec true]) (hrun := by kernel_rfl) (hps := pc (k_palingref15_Place h5) <| pc (h6) <| pc (k_palingref15_Place h8) <| pc (h9) <| pc (h10) <| pn)
      · obtain ⟨r30, h29, h⟩ := bind_out h
        rcases r30 with _ | _
        · injection h with h; subst h; exact runFn_sound mixedOrders Tryz.func29 rfl (keep := none) (π := [.callv (.v (.bool r4)), .dec false, .callv (.v (.bool r7)), .dec false, .dec false, .sum [1, 2, 3, 6, 7] [0] .ret [(6, .v (.bool true))] []]) (hrun := by kernel_rfl) (hps := pc (k_palingref15_Place h5) <| pc (h6) <| pc (k_palingref15_Place h8) <| pc (h9) <| pc (h10) <| pc (k_palingref20_Leaks_L1 _ _ h29) <| pn)
        · injection h with h; subst h; exact runFn_sound mixedOrders Tryz.func29 rfl (keep := none) (π := [.callv (.v (.bool r4)), .dec false, .callv (.v (.bool r7)), .dec false, .dec false, .sum [1, 2, 3, 6, 7] [0] (.exit 0) [(6, .v (.bool false))] []]) (hrun := by kernel_rfl) (hps := pc (k_palingref15_Place h5) <| pc (h6) <| pc (k_palingref15_Place h8) <| pc (h9) <| pc (h10) <| pc (k_palingref20_Leaks_L1 _ _ h29) <| pn)

theorem k_palingref30_better {a1 : Api_Net} {a2 : Int} {a3 : Int} {a4 : Int} {r : Bool} (h : palingref30_better a1 a2 a3 a4 = some r) :
    CallsOK Tryz.prog UU 30 [.agg (c31 a1), .v (.int .i64 a2), .v (.int .i64 a3), .v (.int .i64 a4)] [] (.v (.bool r)) [] := by
  unfold palingref30_better at h
  obtain ⟨x5, h6, h⟩ := bind_out h
  obtain ⟨x7, h8, h⟩ := bind_out h
  rcases ite_out h with ⟨h9, h⟩ | ⟨h9, h⟩
  · obtain ⟨x10, h11, h⟩ := bind_out h
    obtain ⟨x12, h13, h⟩ := bind_out h
    injection h with h; subst h; exact runFn_sound mixedOrders Tryz.func30 rfl (keep := none) (π := [.row (c76 x5), .row (c76 x7), .dec true, .row (c76 x10), .row (c76 x12)]) (hrun := by kernel_rfl) (hps := pc (ob76 h6) <| pc (ob76 h8) <| pc (h9) <| pc (ob76 h11) <| pc (ob76 h13) <| pn)
  · obtain ⟨x14, h15, h⟩ := bind_out h
    obtain ⟨x16, h17, h⟩ := bind_out h
    rcases ite_out h with ⟨h18, h⟩ | ⟨h18, h⟩
    · obtain ⟨x19, h20, h⟩ := bind_out h
      obtain ⟨x21, h22, h⟩ := bind_out h
      injection h with h; subst h; exact runFn_sound mixedOrders Tryz.func30 rfl (keep := none) (π := [.row (c76 x5), .row (c76 x7), .dec false, .row (c76 x14), .row (c76 x16), .dec true, .row (c76 x19), .row (c76 x21)]) (hrun := by kernel_rfl) (hps := pc (ob76 h6) <| pc (ob76 h8) <| pc (h9) <| pc (ob76 h15) <| pc (ob76 h17) <| pc (h18) <| pc (ob76 h20) <| pc (ob76 h22) <| pn)
    · injection h with h; subst h; exact runFn_sound mixedOrders Tryz.func30 rfl (keep := none) (π := [.row (c76 x5), .row (c76 x7), .dec false, .row (c76 x14), .row (c76 x16), .dec false]) (hrun := by kernel_rfl) (hps := pc (ob76 h6) <| pc (ob76 h8) <| pc (h9) <| pc (ob76 h15) <| pc (ob76 h17) <| pc (h18) <| pn)

theorem k_palingref30_Lookup_L1 {a1 : Api_Net} {a2 : Int} {a3 : Int} : LoopOK Tryz.prog UU 0 78 (subC (codeOf Tryz.f9) [1, 1, 1, 0, 1, 0, 0]) (fun s : Int × Int => match s with | (v7, v8) => palingref30_Lookup_L1 a1 a2 a3 v7 v8)
    (fun s : Int × Int => (match s with | (v7, v8) => [(1, .v (.int .i64 a2)), (2, .v (.int .u32 a3)), (3, .op 0 1 0 0), (6, .z), (7, .v (.bool false)), (8, .v (.int .i64 v7)), (9, .v (.int .i64 v8))] : Fr DD)) (fun s : Int × Int => (match s with | (v7, v8) => [.box 31 (c31 a1) false] : Heap DD)) (fun r => match r with | Sum.inl _ => .ret | Sum.inr v35 => .exit 0) (fun r => match r with | Sum.inl _ => [(6, .z), (7, .v (.bool false))] | Sum.inr v35 => [(6, .z), (7, .v (.bool false)), (8, .v (.int .i64 v35))]) (fun r => match r with | Sum.inl _ => [] | Sum.inr v35 => []) := by
  refine loop_sound3 (fun s q h => ?_) (fun r => ?_)
  · obtain ⟨v7, v8⟩ := s; replace h : palingref30_Lookup_L1 a1 a2 a3 v7 v8 = some q := h
    unfold palingref30_Lookup_L1 at h
    rcases ite_out h with ⟨h9, h⟩ | ⟨h9, h⟩
    · obtain ⟨r10, h11, h⟩ := bind_out h
      obtain ⟨r12, h13, h⟩ := bind_out h
      rcases ite_out h with ⟨h14, h⟩ | ⟨h14, h⟩
      · injection h with h; subst h; exact runLp_sound mixedOrders (live := [1, 2, 3, 6, 7, 8, 9]) (ids := [0]) (π := [.dec true, .callv (.v (.int .i64 r10)), .callv (.v (.int .i64 r12)), .dec true]) (hx := by kernel_rfl) (hps := pc (h9) <| pc (k_palingref30_device h11) <| pc (k_palingref30_device h13) <| pc (h14) <| pn)
      · obtain ⟨x15, h16, h⟩ := bind_out h
        rcases ite_out h with ⟨h17, h⟩ | ⟨h17, h⟩
        · injection h with h; subst h; exact runLp_sound mixedOrders (live := [6, 7]) (ids := []) (π := [.dec true, .callv (.v (.int .i64 r10)), .callv (.v (.int .i64 r12)), .dec false, .row (c76 x15), .dec true]) (hx := by kernel_rfl) (hps := pc (h9) <| pc (k_palingref30_device h11) <| pc (k_palingref30_device h13) <| pc (h14) <| pc (ob76 h16) <| pc (h17) <| pn)
        · obtain ⟨x18, h19, h⟩ := bind_out h
          obtain ⟨r20, h21, h⟩ := bind_out h
          rcases ite_out h with ⟨h22, h⟩ | ⟨h22, h⟩
          · injection h with h; subst h; exact runLp_sound mixedOrders (live := [1, 2, 3, 6, 7, 8, 9]) (ids := [0]) (π := [.dec true, .callv (.v (.int .i64 r10)), .callv (.v (.int .i64 r12)), .dec false, .row (c76 x15), .dec false, .row (c76 x18), .callv (.v (.bool r20)), .dec true]) (hx := by kernel_rfl) (hps := pc (h9) <| pc (k_palingref30_device h11) <| pc (k_palingref30_device h13) <| pc (h14) <| pc (ob76 h16) <| pc (h17) <| pc (ob76 h19) <| pc (k_palingref02_Has h21) <| pc (h22) <| pn)
          · obtain ⟨x23, h24, h⟩ := bind_out h
            obtain ⟨x25, h26, h⟩ := bind_out h
            obtain ⟨r27, h28, h⟩ := bind_out h
            rcases ite_out h with ⟨h29, h⟩ | ⟨h29, h⟩
            · injection h with h; subst h; exact runLp_sound mixedOrders (live := [1, 2, 3, 6, 7, 8, 9]) (ids := [0]) (π := [.dec true, .callv (.v (.int .i64 r10)), .callv (.v (.int .i64 r12)), .dec false, .row (c76 x15), .dec false, .row (c76 x18), .callv (.v (.bool r20)), .dec false, .row (c76 x23), .row (c76 x25), .callv (.v (.bool r27)), .dec true]) (hx := by kernel_rfl) (hps := pc (h9) <| pc (k_palingref30_device h11) <| pc (k_palingref30_device h13) <| pc (h14) <| pc (ob76 h16) <| pc (h17) <| pc (ob76 h19) <| pc (k_palingref02_Has h21) <| pc (h22) <| pc (ob76 h24) <| pc (ob76 h26) <| pc (k_palingref20_Leaks h28) <| pc (h29) <| pn)
            · rcases ite_out h with ⟨h30, h⟩ | ⟨h30, h⟩
              · injection h with h; subst h; exact runLp_sound mixedOrders (live := [1, 2, 3, 6, 7, 8, 9]) (ids := [0]) (π := [.dec true, .callv (.v (.int .i64 r10)), .callv (.v (.int .i64 r12)), .dec false, .row (c76 x15), .dec false, .row (c76 x18), .callv (.v (.bool r20)), .dec false, .row (c76 x23), .row (c76 x25), .callv (.v (.bool r27)), .dec false, .dec true]) (hx := by kernel_rfl) (hps := pc (h9) <| pc (k_palingref30_device h11) <| pc (k_palingref30_device h13) <| pc (h14) <| pc (ob76 h16) <| pc (h17) <| pc (ob76 h19) <| pc (k_palingref02_Has h21) <| pc (h22) <| pc (ob76 h24) <| pc (ob76 h26) <| pc (k_palingref20_Leaks h28) <| pc (h29) <| pc (h30) <| pn)
              · obtain ⟨r31, h32, h⟩ := bind_out h
                rcases ite_out h with ⟨h33, h⟩ | ⟨h33, h⟩
                · injection h with h; subst h; exact runLp_sound mixedOrders (live := [1, 2, 3, 6, 7, 8, 9]) (ids := [0]) (π := [.dec true, .callv (.v (.int .i64 r10)), .callv (.v (.int .i64 r12)), .dec false, .row (c76 x15), .dec false, .row (c76 x18), .callv (.v (.bool r20)), .dec false, .row (c76 x23), .row (c76 x25), .callv (.v (.bool r27)), .dec false, .dec false, .callv (.v (.bool r31)), .dec true]) (hx := by kernel_rfl) (hps := pc (h9) <| pc (k_palingref30_device h11) <| pc (k_palingref30_device h13) <| pc (h14) <| pc (ob76 h16) <| pc (h17) <| pc (ob76 h19) <| pc (k_palingref02_Has h21) <| pc (h22) <| pc (ob76 h24) <| pc (ob76 h26) <| pc (k_palingref20_Leaks h28) <| pc (h29) <| pc (h30) <| pc (k_palingref30_better h32) <| pc (h33) <| pn)
                · injection h with h; subst h; exact runLp_sound mixedOrders (live := [1, 2, 3, 6, 7, 8, 9]) (ids := [0]) (π := [.dec true, .callv (.v (.int .i64 r10)), .callv (.v (.int .i64 r12)), .dec false, .row (c76 x15), .dec false, .row (c76 x18), .callv (.v (.bool r20)), .dec false, .row (c76 x23), .row (c76 x25), .callv (.v (.bool r27)), .dec false, .dec false, .callv (.v (.bool r31)), .dec false]) (hx := by kernel_rfl) (hps := pc (h9) <| pc (k_palingref30_device h11) <| pc (k_palingref30_device h13) <| pc (h14) <| pc (ob76 h16) <| pc (h17) <| pc (ob76 h19) <| pc (k_palingref02_Has h21) <| pc (h22) <| pc (ob76 h24) <| pc (ob76 h26) <| pc (k_palingref20_Leaks h28) <| pc (h29) <| pc (h30) <| pc (k_palingref30_better h32) <| pc (h33) <| pn)
    · injection h with h; subst h; exact runLp_sound mixedOrders (live := [6, 7, 8]) (ids := []) (π := [.dec false]) (hx := by kernel_rfl) (hps := pc (h9) <| pn)
  · rcases r with _ | _ <;> exact Ex.noConfusion

theorem k_palingref30_Lookup {a1 : Api_Net} {a2 : Int} {a3 : Int} {r : Int × Bool} (h : palingref30_Lookup a1 a2 a3 = some r) :
    CallsOK Tryz.prog UU 9 [.agg (c31 a1), .v (.int .i64 a2), .v (.int .u32 a3)] [] (.tup [.v (.int .i64 r.1), .v (.bool r.2)]) [] := by
  unfold palingref30_Lookup at h
  obtain ⟨r4, h5, h⟩ := bind_out h
  rcases ite_out h with ⟨h6, h⟩ | ⟨h6, h⟩
  · injection h with h; subst h; exact runFn_sound mixedOrders Tryz.func9 rfl (keep := none) (π := [.callv (.v (.bool r4)), .dec true]) (hrun := by kernel_rfl) (hps := pc (k_palingref15_Place h5) <| pc (h6) <| pn)
  · obtain ⟨r37, h36, h⟩ := bind_out h
    rcases r37 with _ | v35
    · injection h with h; subst h; exact runFn_sound mixedOrders Tryz.func9 rfl (keep := none) (π := [.callv (.v (.bool r4)), .dec false, .sum [1, 2, 3, 6, 7, 8, 9] [0] .ret [(6, .z), (7, .v (.bool false))] []]) (hrun := by kernel_rfl) (hps := pc (k_palingref15_Place h5) <| pc (h6) <| pc (k_palingref30_Lookup_L1 _ _ h36) <| pn)
    · rcases ite_out h with ⟨h38, h⟩ | ⟨h38, h⟩
      · injection h with h; subst h; exact runFn_sound mixedOrders Tryz.func9 rfl (keep := none) (π := [.callv (.v (.bool r4)), .dec false, .sum [1, 2, 3, 6, 7, 8, 9] [0] (.exit 0) [(6, .z), (7, .v (.bool false)), (8, .v (.int .i64 v35))] [], .dec true]) (hrun := by kernel_rfl) (hps := pc (k_palingref15_Place h5) <| pc (h6) <| pc (k_palingref30_Lookup_L1 _ _ h36) <| pc (h38) <| pn)
      · injection h with h; subst h; exact runFn_sound mixedOrders Tryz.func9 rfl (keep := none) (π := [.callv (.v (.bool r4)), .dec false, .sum [1, 2, 3, 6, 7, 8, 9] [0] (.exit 0) [(6, .z), (7, .v (.bool false)), (8, .v (.int .i64 v35))] [], .dec false]) (hrun := by kernel_rfl) (hps := pc (k_palingref15_Place h5) <| pc (h6) <| pc (k_palingref30_Lookup_L1 _ _ h36) <| pc (h38) <| pn)

theorem k_palingref07_number_L1 {a1 : List Int} : LoopOK Tryz.prog UU 0 20 (subC (codeOf Tryz.f90) [1, 1, 0, 1, 0, 0]) (fun s : Int × Int => match s with | (v2, v3) => palingref07_number_L1 a1 v2 v3)
    (fun s : Int × Int => (match s with | (v2, v3) => [(0, .sl 5 a1), (2, .z), (3, .v (.int .i64 v2)), (4, .v (.int .i64 v3))] : Fr DD)) (fun s : Int × Int => (match s with | (v2, v3) => [] : Heap DD)) (fun r => match r with | v8 => .exit 0) (fun r => match r with | v8 => [(2, .z), (3, .v (.int .i64 v8))]) (fun r => match r with | v8 => []) := by
  refine loop_sound3 (fun s q h => ?_) (fun r => ?_)
  · obtain ⟨v2, v3⟩ := s; replace h : palingref07_number_L1 a1 v2 v3 = some q := h
    unfold palingref07_number_L1 at h
    rcases ite_out h with ⟨h4, h⟩ | ⟨h4, h⟩
    · obtain ⟨x5, h6, h⟩ := bind_out h
      injection h with h; subst h; exact runLp_sound mixedOrders (live := [0, 2, 3, 4]) (ids := []) (π := [.dec true, .row (c5 x5)]) (hx := by kernel_rfl) (hps := pc (h4) <| pc (ob5 h6) <| pn)
    · injection h with h; subst h; exact runLp_sound mixedOrders (live := [2, 3]) (ids := []) (π := [.dec false]) (hx := by kernel_rfl) (hps := pc (h4) <| pn)
  · exact Ex.noConfusion

theorem k_palingref07_number {a1 : List Int} {r : Int} (h : palingref07_number a1 = some r) :
    CallsOK Tryz.prog UU 90 [.sl 5 a1] [] (.v (.int .i64 r)) [] := by
  unfold palingref07_number at h
  obtain ⟨v8, h9, h⟩ := bind_out h
  injection h with h; subst h; exact runFn_sound mixedOrders Tryz.func90 rfl (keep := none) (π := [.sum [0, 2, 3, 4] [] (.exit 0) [(2, .z), (3, .v (.int .i64 v8))] []]) (hrun := by kernel_rfl) (hps := pc (k_palingref07_number_L1 _ _ h9) <| pn)

theorem k_palingref06_Sum_L1 {a1 : List Int} : LoopOK Tryz.prog UU 0 39 (subC (codeOf Tryz.f136) [1, 1, 0, 1, 0, 0]) (fun s : Int × Int => match s with | (v2, v3) => palingref06_Sum_L1 a1 v2 v3)
    (fun s : Int × Int => (match s with | (v2, v3) => [(0, .sl 5 a1), (2, .z), (3, .v (.int .i64 v2)), (4, .v (.int .i64 v3))] : Fr DD)) (fun s : Int × Int => (match s with | (v2, v3) => [] : Heap DD)) (fun r => match r with | v13 => .exit 0) (fun r => match r with | v13 => [(2, .z), (3, .v (.int .i64 v13))]) (fun r => match r with | v13 => []) := by
  refine loop_sound3 (fun s q h => ?_) (fun r => ?_)
  · obtain ⟨v2, v3⟩ := s; replace h : palingref06_Sum_L1 a1 v2 v3 = some q := h
    unfold palingref06_Sum_L1 at h
    rcases ite_out h with ⟨h4, h⟩ | ⟨h4, h⟩
    · obtain ⟨x5, h6, h⟩ := bind_out h
      rcases ite_out h with ⟨h7, h⟩ | ⟨h7, h⟩
      · obtain ⟨x8, h9, h⟩ := bind_out h
        rcases ite_out h with ⟨h10, h⟩ | ⟨h10, h⟩
        · injection h with h; subst h; exact runLp_sound mixedOrders (live := [0, 2, 3, 4]) (ids := []) (π := [.dec true, .row (c5 x5), .dec true, .row (c5 x8), .dec true]) (hx := by kernel_rfl) (hps := pc (h4) <| pc (ob5 h6) <| pc (h7) <| pc (ob5 h9) <| pc (h10) <| pn)
        · injection h with h; subst h; exact runLp_sound mixedOrders (live := [0, 2, 3, 4]) (ids := []) (π := [.dec true, .row (c5 x5), .dec true, .row (c5 x8), .dec false]) (hx := by kernel_rfl) (hps := pc (h4) <| pc (ob5 h6) <| pc (h7) <| pc (ob5 h9) <| pc (h10) <| pn)
      · rcases ite_out h with ⟨h11, h⟩ | ⟨h11, h⟩
        · injection h with h; subst h; exact runLp_sound mixedOrders (live := [0, 2, 3, 4]) (ids := []) (π := [.dec true, .row (c5 x5), .dec false, .dec true]) (hx := by kernel_rfl) (hps := pc (h4) <| pc (ob5 h6) <| pc (h7) <| pc (h11) <| pn)
        · injection h with h; subst h; exact runLp_sound mixedOrders (live := [0, 2, 3, 4]) (ids := []) (π := [.dec true, .row (c5 x5), .dec false, .dec false]) (hx := by kernel_rfl) (hps := pc (h4) <| pc (ob5 h6) <| pc (h7) <| pc (h11) <| pn)
    · injection h with h; subst h; exact runLp_sound mixedOrders (live := [2, 3]) (ids := []) (π := [.dec false]) (hx := by kernel_rfl) (hps := pc (h4) <| pn)
  · exact Ex.noConfusion

theorem k_palingref06_Sum {a1 : List Int} {r : Int} (h : palingref06_Sum a1 = some r) :
    CallsOK Tryz.prog UU 136 [.sl 5 a1] [] (.v (.int .i64 r)) [] := by
  unfold palingref06_Sum at h
  obtain ⟨v13, h14, h⟩ := bind_out h
  injection h with h; subst h; exact runFn_sound mixedOrders Tryz.func136 rfl (keep := none) (π := [.sum [0, 2, 3, 4] [] (.exit 0) [(2, .z), (3, .v (.int .i64 v13))] []]) (hrun := by kernel_rfl) (hps := pc (k_palingref06_Sum_L1 _ _ h14) <| pn)

theorem k_palingref06_Right {a1 : List Int} {r : Bool} (h : palingref06_Right a1 = some r) :
    CallsOK Tryz.prog UU 91 [.sl 5 a1] [] (.v (.bool r)) [] := by
  unfold palingref06_Right at h
  obtain ⟨r2, h3, h⟩ := bind_out h
  injection h with h; subst h; exact runFn_sound mixedOrders Tryz.func91 rfl (keep := none) (π := [.callv (.v (.int .i64 r2))]) (hrun := by kernel_rfl) (hps := pc (k_palingref06_Sum h3) <| pn)

theorem k_palingref07_Take {a1 : List Int} {r : ((List Int) × Int × Int × Int × Int × Int × Int × Int)} (h : palingref07_Take a1 = some r) :
    CallsOK Tryz.prog UU 34 [.sl 5 a1] [] ((fun r => match r with | (l36, v37, v38, v39, v40, v41, v42, v43) => .tup [.agg [.v (.int .i64 v37), .v (.int .i64 v38), .v (.int .i64 v39), .v (.int .i64 v40), .v (.int .u32 v41), .v (.int .u32 v42), .os 0 (List.length l36)], .v (.int .i64 v43)]) r) ((fun r => match r with | (l36, v37, v38, v39, v40, v41, v42, v43) => [.arr 5 l36 (List.length l36) false]) r) := by
  unfold palingref07_Take at h
  rcases ite_out h with ⟨h2, h⟩ | ⟨h2, h⟩
  · injection h with h; subst h; exact runFn_sound mixedOrders Tryz.func34 rfl (keep := some [2]) (π := [.dec true]) (hrun := by kernel_rfl) (hps := pc (h2) <| pn)
  · rcases ite_out h with ⟨h3, h⟩ | ⟨h3, h⟩
    · obtain ⟨r4, h5, h⟩ := bind_out h
      obtain ⟨x6, h7, h⟩ := bind_out h
      rcases ite_out h with ⟨h8, h⟩ | ⟨h8, h⟩
      · injection h with h; subst h; exact runFn_sound mixedOrders Tryz.func34 rfl (keep := some [2]) (π := [.dec false, .callv (.v (.int .i64 r4)), .row (c5 x6), .dec true]) (hrun := by kernel_rfl) (hps := pc (h2) <| pc (sl_ob h3) <| pc (k_palingref07_number h5) <| pc (ob5 h7) <| pc (h8) <| pn)
      · rcases ite_out h with ⟨h9, h⟩ | ⟨h9, h⟩
        · injection h with h; subst h; exact runFn_sound mixedOrders Tryz.func34 rfl (keep := some [2]) (π := [.dec false, .callv (.v (.int .i64 r4)), .row (c5 x6), .dec false, .dec true]) (hrun := by kernel_rfl) (hps := pc (h2) <| pc (sl_ob h3) <| pc (k_palingref07_number h5) <| pc (ob5 h7) <| pc (h8) <| pc (h9) <| pn)
        · rcases ite_out h with ⟨h10, h⟩ | ⟨h10, h⟩
          · injection h with h; subst h; exact runFn_sound mixedOrders Tryz.func34 rfl (keep := some [2]) (π := [.dec false, .callv (.v (.int .i64 r4)), .row (c5 x6), .dec false, .dec false, .dec true]) (hrun := by kernel_rfl) (hps := pc (h2) <| pc (sl_ob h3) <| pc (k_palingref07_number h5) <| pc (ob5 h7) <| pc (h8) <| pc (h9) <| pc (h10) <| pn)
          · rcases ite_out h with ⟨h11, h⟩ | ⟨h11, h⟩
            · obtain ⟨r12, h13, h⟩ := bind_out h
              rcases ite_out h with ⟨h14, h⟩ | ⟨h14, h⟩
              · injection h with h; subst h; exact runFn_sound mixedOrders Tryz.func34 rfl (keep := some [2]) (π := [.dec false, .callv (.v (.int .i64 r4)), .row (c5 x6), .dec false, .dec false, .dec false, .callv (.v (.int .i64 r12)), .dec true]) (hrun := by kernel_rfl) (hps := pc (h2) <| pc (sl_ob h3) <| pc (k_palingref07_number h5) <| pc (ob5 h7) <| pc (h8) <| pc (h9) <| pc (h10) <| pc (sl_ob h11) <| pc (k_palingref07_number h13) <| pc (h14) <| pn)
              · rcases ite_out h with ⟨h15, h⟩ | ⟨h15, h⟩
                · obtain ⟨r16, h17, h⟩ := bind_out h
                  rcases ite_out h with ⟨h18, h⟩ | ⟨h18, h⟩
                  · injection h with h; subst h; exact runFn_sound mixedOrders Tryz.func34 rfl (keep := some [2]) (π := [.dec false, .callv (.v (.int .i64 r4)), .row (c5 x6), .dec false, .dec false, .dec false, .callv (.v (.int .i64 r12)), .dec false, .callv (.v (.bool r16)), .dec true]) (hrun := by kernel_rfl) (hps := pc (h2) <| pc (sl_ob h3) <| pc (k_palingref07_number h5) <| pc (ob5 h7) <| pc (h8) <| pc (h9) <| pc (h10) <| pc (sl_ob h11) <| pc (k_palingref07_number h13) <| pc (h14) <| pc (sl_ob h15) <| pc (k_palingref06_Right h17) <| pc (h18) <| pn)
                  · obtain ⟨x19, h20, h⟩ := bind_out h
                    rcases ite_out h with ⟨h21, h⟩ | ⟨h21, h⟩
                    · obtain ⟨r22, h23, h⟩ := bind_out h
                      obtain ⟨x24, h25, h⟩ := bind_out h
                      obtain ⟨x26, h27, h⟩ := bind_out h
                      rcases ite_out h with ⟨h28, h⟩ | ⟨h28, h⟩
                      · obtain ⟨r29, h30, h⟩ := bind_out h
                        rcases ite_out h with ⟨h31, h⟩ | ⟨h31, h⟩
                        · obtain ⟨r32, h33, h⟩ := bind_out h
                          rcases ite_out h with ⟨h34, h⟩ | ⟨h34, h⟩
                          · rcases ite_out h with ⟨h35, h⟩ | ⟨h35, h⟩
                            · injection h with h; subst h; exact runFn_sound mixedOrders Tryz.func34 rfl (keep := some [5]) (π := [.dec false, .callv (.v (.int .i64 r4)), .row (c5 x6), .dec false, .dec false, .dec false, .callv (.v (.int .i64 r12)), .dec false, .callv (.v (.bool r16)), .dec false, .row (c5 x19), .callv (.v (.int .i64 r22)), .row (c5 x24), .row (c5 x26), .callv (.v (.int .i64 r29)), .callv (.v (.int .i64 r32)), .obj [] (.n 5), .obj [] (.arr 5 (List.drop (Int.toNat 20) (List.take (Int.toNat r4) a1)) (List.length (List.drop (Int.toNat 20) (List.take (Int.toNat r4) a1))) false)]) (hrun := by kernel_rfl) (hps := pc (h2) <| pc (sl_ob h3) <| pc (k_palingref07_number h5) <| pc (ob5 h7) <| pc (h8) <| pc (h9) <| pc (h10) <| pc (sl_ob h11) <| pc (k_palingref07_number h13) <| pc (h14) <| pc (sl_ob h15) <| pc (k_palingref06_Right h17) <| pc (h18) <| pc (ob5 h20) <| pc (sl_ob h21) <| pc (k_palingref07_number h23) <| pc (ob5 h25) <| pc (ob5 h27) <| pc (sl_ob h28) <| pc (k_palingref07_number h30) <| pc (sl_ob h31) <| pc (k_palingref07_number h33) <| pc (bs_ob 5 []) <| pc (sl_ob h34) <| pc (app_ob 5 (n := 0) (l := []) (xs := List.drop (Int.toNat 20) (List.take (Int.toNat r4) a1)) h35) <| pn)
                            · cases h
                          · cases h
                        · cases h
                      · cases h
                    · cases h
                · cases h
            · cases h
    · cases h

theorem k_palingref07_Hop {a1 : Api_Packet} {r : (Api_Packet × Int)} (h : palingref07_Hop a1 = some r) :
    CallsOK Tryz.prog UU 35 [.agg (c69 a1)] [] ((fun r => match r with | (r3, r4) => .tup [.agg (c69 r3), .v (.int .i64 r4)]) r) ((fun r => match r with | (r3, r4) => []) r) := by
  unfold palingref07_Hop at h
  rcases ite_out h with ⟨h2, h⟩ | ⟨h2, h⟩
  · injection h with h; subst h; exact runFz_sound mixedOrders Tryz.func35 rfl (ids := []) (fz := [3]) (π := [.dec true]) (hrun := by kernel_rfl) (hps := pc (h2) <| pc ((rfl : (0 : Nat) = 0)) <| pn)
  · injection h with h; subst h; exact runFz_sound mixedOrders Tryz.func35 rfl (ids := []) (fz := []) (π := [.dec false]) (hrun := by kernel_rfl) (hps := pc (h2) <| pn)

theorem k_palingref07_out {a1 : Int} {a2 : Int} {r : Bool} (h : palingref07_out a1 a2 = some r) :
    CallsOK Tryz.prog UU 92 [.v (.int .i64 a1), .v (.int .i64 a2)] [] (.v (.bool r)) [] := by
  unfold palingref07_out at h
  rcases ite_out h with ⟨h3, h⟩ | ⟨h3, h⟩
  · injection h with h; subst h; exact runFn_sound mixedOrders Tryz.func92 rfl (keep := none) (π := [.dec true]) (hrun := by kernel_rfl) (hps := pc (h3) <| pn)
  · injection h with h; subst h; exact runFn_sound mixedOrders Tryz.func92 rfl (keep := none) (π := [.dec false]) (hrun := by kernel_rfl) (hps := pc (h3) <| pn)

theorem k_palingref07_bytes_L1 {a2 : Int} : LoopOK Tryz.prog UU 0 26 (subC (codeOf Tryz.f93) [1, 1, 0, 1, 0, 0]) (fun s : (List Int) × Int × Int => match s with | (l4, v5, v6) => palingref07_bytes_L1 a2 l4 v5 v6)
    (fun s : (List Int) × Int × Int => (match s with | (l4, v5, v6) => [(0, .v (.int .i64 v5)), (1, .v (.int .i64 a2)), (4, .os 0 0), (5, .os 1 (Int.toNat a2)), (6, .v (.int .i64 v6))] : Fr DD)) (fun s : (List Int) × Int × Int => (match s with | (l4, v5, v6) => [.n 5, .arr 5 l4 (Int.toNat a2) false] : Heap DD)) (fun r => match r with | l13 => .exit 0) (fun r => match r with | l13 => [(4, .os 0 0), (5, .os 1 (Int.toNat a2))]) (fun r => match r with | l13 => [.n 5, .arr 5 l13 (Int.toNat a2) false]) := by
  refine loop_sound3 (fun s q h => ?_) (fun r => ?_)
  · obtain ⟨l4, v5, v6⟩ := s; replace h : palingref07_bytes_L1 a2 l4 v5 v6 = some q := h
    unfold palingref07_bytes_L1 at h
    rcases ite_out h with ⟨h7, h⟩ | ⟨h7, h⟩
    · rcases ite_out h with ⟨h8, h⟩ | ⟨h8, h⟩
      · obtain ⟨x9, h10, h⟩ := bind_out h
        injection h with h; subst h; exact runLp_sound mixedOrders (live := [0, 1, 4, 5, 6]) (ids := [0, 1]) (π := [.dec true, .row (c5 x9), .obj [] (.arr 5 (List.set l4 (Int.toNat (wr_i64 ((wr_i64 (a2 - 1)) - v6))) (wr_u8 (Int.tmod v5 256) : Int)) (Int.toNat a2) false)]) (hx := by kernel_rfl) (hps := pc (h7) <| pc ((show (256 : Int) ≠ 0 from by decide)) <| pc (And.intro (rfl : ((Int.toNat a2) : Nat) = (Int.toNat a2)) (lin_ob h8)) <| pc (st_ob (e := 5) (n := (Int.toNat a2)) (l := l4) (i := (Int.toNat (wr_i64 ((wr_i64 (a2 - 1)) - v6)))) (wr_u8 (Int.tmod v5 256) : Int) [.v (.int .u8 (wr_u8 (Int.tmod v5 256)))] (obn5 h10) rfl) <| pc ((show (256 : Int) ≠ 0 from by decide)) <| pn)
      · cases h
    · injection h with h; subst h; exact runLp_sound mixedOrders (live := [4, 5]) (ids := [0, 1]) (π := [.dec false]) (hx := by kernel_rfl) (hps := pc (h7) <| pn)
  · exact Ex.noConfusion

theorem k_palingref07_bytes {a1 : Int} {a2 : Int} {r : ((List Int))} (h : palingref07_bytes a1 a2 = some r) :
    CallsOK Tryz.prog UU 93 [.v (.int .i64 a1), .v (.int .i64 a2)] [] ((fun r => match r with | l16 => .os 0 (Int.toNat a2)) r) ((fun r => match r with | l16 => [.arr 5 l16 (Int.toNat a2) false]) r) := by
  unfold palingref07_bytes at h
  rcases ite_out h with ⟨h3, h⟩ | ⟨h3, h⟩
  · obtain ⟨l13, h14, h⟩ := bind_out h
    injection h with h; subst h; exact runFn_sound mixedOrders Tryz.func93 rfl (keep := some [1]) (π := [.obj [] (.arr 5 (List.replicate (Int.toNat a2) (0 : Int)) (Int.toNat a2) false), .sum [0, 1, 4, 5, 6] [0, 1] (.exit 0) [(4, .os 0 0), (5, .os 1 (Int.toNat a2))] [.n 5, .arr 5 l13 (Int.toNat a2) false]]) (hrun := by kernel_rfl) (hps := pc (mk_ob 5 (0 : Int) h3) <| pc ((rfl : ((Int.toNat a2) : Nat) = (Int.toNat a2))) <| pc (k_palingref07_bytes_L1 _ _ h14) <| pn)
  · cases h

theorem k_palingref06_Of {a1 : List Int} {r : Int} (h : palingref06_Of a1 = some r) :
    CallsOK Tryz.prog UU 94 [.sl 5 a1] [] (.v (.int .i64 r)) [] := by
  unfold palingref06_Of at h
  obtain ⟨r2, h3, h⟩ := bind_out h
  injection h with h; subst h; exact runFn_sound mixedOrders Tryz.func94 rfl (keep := none) (π := [.callv (.v (.int .i64 r2))]) (hrun := by kernel_rfl) (hps := pc (k_palingref06_Sum h3) <| pn)

theorem k_palingref07_Put {a1 : Api_Packet} {r : ((List Int) × Int)} (h : palingref07_Put a1 = some r) :
    CallsOK Tryz.prog UU 36 [.agg (c69 a1)] [] ((fun r => match r with | (l40, v41) => .tup [.os 0 (List.length l40), .v (.int .i64 v41)]) r) ((fun r => match r with | (l40, v41) => [.arr 5 l40 (List.length l40) false]) r) := by
  unfold palingref07_Put at h
  obtain ⟨r2, h3, h⟩ := bind_out h
  rcases ite_out h with ⟨h4, h⟩ | ⟨h4, h⟩
  · injection h with h; subst h; exact runFn_sound mixedOrders Tryz.func36 rfl (keep := some [2]) (π := [.callv (.v (.bool r2)), .dec true]) (hrun := by kernel_rfl) (hps := pc (k_palingref07_out h3) <| pc (h4) <| pn)
  · obtain ⟨r5, h6, h⟩ := bind_out h
    rcases ite_out h with ⟨h7, h⟩ | ⟨h7, h⟩
    · injection h with h; subst h; exact runFn_sound mixedOrders Tryz.func36 rfl (keep := some [2]) (π := [.callv (.v (.bool r2)), .dec false, .callv (.v (.bool r5)), .dec true]) (hrun := by kernel_rfl) (hps := pc (k_palingref07_out h3) <| pc (h4) <| pc (k_palingref07_out h6) <| pc (h7) <| pn)
    · obtain ⟨r8, h9, h⟩ := bind_out h
      rcases ite_out h with ⟨h10, h⟩ | ⟨h10, h⟩
      · injection h with h; subst h; exact runFn_sound mixedOrders Tryz.func36 rfl (keep := some [2]) (π := [.callv (.v (.bool r2)), .dec false, .callv (.v (.bool r5)), .dec false, .callv (.v (.bool r8)), .dec true]) (hrun := by kernel_rfl) (hps := pc (k_palingref07_out h3) <| pc (h4) <| pc (k_palingref07_out h6) <| pc (h7) <| pc (k_palingref07_out h9) <| pc (h10) <| pn)
      · obtain ⟨r11, h12, h⟩ := bind_out h
        rcases ite_out h with ⟨h13, h⟩ | ⟨h13, h⟩
        · injection h with h; subst h; exact runFn_sound mixedOrders Tryz.func36 rfl (keep := some [2]) (π := [.callv (.v (.bool r2)), .dec false, .callv (.v (.bool r5)), .dec false, .callv (.v (.bool r8)), .dec false, .callv (.v (.bool r11)), .dec true]) (hrun := by kernel_rfl) (hps := pc (k_palingref07_out h3) <| pc (h4) <| pc (k_palingref07_out h6) <| pc (h7) <| pc (k_palingref07_out h9) <| pc (h10) <| pc (k_palingref07_out h12) <| pc (h13) <| pn)
        · rcases ite_out h with ⟨h14, h⟩ | ⟨h14, h⟩
          · injection h with h; subst h; exact runFn_sound mixedOrders Tryz.func36 rfl (keep := some [2]) (π := [.callv (.v (.bool r2)), .dec false, .callv (.v (.bool r5)), .dec false, .callv (.v (.bool r8)), .dec false, .callv (.v (.bool r11)), .dec false, .dec true]) (hrun := by kernel_rfl) (hps := pc (k_palingref07_out h3) <| pc (h4) <| pc (k_palingref07_out h6) <| pc (h7) <| pc (k_palingref07_out h9) <| pc (h10) <| pc (k_palingref07_out h12) <| pc (h13) <| pc (h14) <| pn)
          · obtain ⟨l17, h16, h⟩ := bind_out h
            rcases ite_out h with ⟨h18, h⟩ | ⟨h18, h⟩
            · obtain ⟨l21, h20, h⟩ := bind_out h
              rcases ite_out h with ⟨h22, h⟩ | ⟨h22, h⟩
              · rcases ite_out h with ⟨h23, h⟩ | ⟨h23, h⟩
                · obtain ⟨l26, h25, h⟩ := bind_out h
                  obtain ⟨l29, h28, h⟩ := bind_out h
                  rcases ite_out h with ⟨h30, h⟩ | ⟨h30, h⟩
                  · rcases ite_out h with ⟨h31, h⟩ | ⟨h31, h⟩
                    · obtain ⟨r32, h33, h⟩ := bind_out h
                      obtain ⟨l36, h35, h⟩ := bind_out h
                      rcases ite_out h with ⟨h37, h⟩ | ⟨h37, h⟩
                      · rcases ite_out h with ⟨h38, h⟩ | ⟨h38, h⟩
                        · rcases ite_out h with ⟨h39, h⟩ | ⟨h39, h⟩
                          · injection h with h; subst h; exact runFn_sound mixedOrders Tryz.func36 rfl (keep := some [2]) (π := [.callv (.v (.bool r2)), .dec false, .callv (.v (.bool r5)), .dec false, .callv (.v (.bool r8)), .dec false, .callv (.v (.bool r11)), .dec false, .dec false, .obj [] (.arr 5 [(69 : Int), (wr_u8 a1.tos : Int)] (List.length [(69 : Int), (wr_u8 a1.tos : Int)]) false), .callo (.os 0 (Int.toNat 2)) [.arr 5 l17 (Int.toNat 2) false], .obj [] (.arr 5 ([(69 : Int), (wr_u8 a1.tos : Int)] ++ l17) (List.length ([(69 : Int), (wr_u8 a1.tos : Int)] ++ l17)) false), .callo (.os 0 (Int.toNat 2)) [.arr 5 l21 (Int.toNat 2) false], .obj [] (.arr 5 (([(69 : Int), (wr_u8 a1.tos : Int)] ++ l17) ++ l21) (List.length (([(69 : Int), (wr_u8 a1.tos : Int)] ++ l17) ++ l21)) false), .obj [] (.arr 5 [(0 : Int), (0 : Int), (wr_u8 a1.ttl : Int), (wr_u8 a1.proto : Int)] (List.length [(0 : Int), (0 : Int), (wr_u8 a1.ttl : Int), (wr_u8 a1.proto : Int)]) false), .obj [] (.arr 5 ((([(69 : Int), (wr_u8 a1.tos : Int)] ++ l17) ++ l21) ++ [(0 : Int), (0 : Int), (wr_u8 a1.ttl : Int), (wr_u8 a1.proto : Int)]) (List.length ((([(69 : Int), (wr_u8 a1.tos : Int)] ++ l17) ++ l21) ++ [(0 : Int), (0 : Int), (wr_u8 a1.ttl : Int), (wr_u8 a1.proto : Int)])) false), .sum [3] [] .nor [] [.box 69 (c69 a1) false, .n 5, .arr 5 ((([(69 : Int), (wr_u8 a1.tos : Int)] ++ l17) ++ l21) ++ [(0 : Int), (0 : Int), (wr_u8 a1.ttl : Int), (wr_u8 a1.proto : Int)]) (List.length ((([(69 : Int), (wr_u8 a1.tos : Int)] ++ l17) ++ l21) ++ [(0 : Int), (0 : Int), (wr_u8 a1.ttl : Int), (wr_u8 a1.proto : Int)])) false, .arr 5 l17 (Int.toNat 2) false, .arr 5 l21 (Int.toNat 2) false, .arr 5 [(0 : Int), (0 : Int), (wr_u8 a1.ttl : Int), (wr_u8 a1.proto : Int)] (List.length [(0 : Int), (0 : Int), (wr_u8 a1.ttl : Int), (wr_u8 a1.proto : Int)]) false, .arr 5 l26 (Int.toNat 4) false], .callo (.os 0 (Int.toNat 4)) [.arr 5 l26 (Int.toNat 4) false], .callo (.os 0 (Int.toNat 4)) [.arr 5 l29 (Int.toNat 4) false], .obj [] (.arr 5 (l26 ++ l29) (List.length (l26 ++ l29)) false), .obj [] (.n 5), .obj [] (.arr 5 ((([(69 : Int), (wr_u8 a1.tos : Int)] ++ l17) ++ l21) ++ [(0 : Int), (0 : Int), (wr_u8 a1.ttl : Int), (wr_u8 a1.proto : Int)]) (List.length ((([(69 : Int), (wr_u8 a1.tos : Int)] ++ l17) ++ l21) ++ [(0 : Int), (0 : Int), (wr_u8 a1.ttl : Int), (wr_u8 a1.proto : Int)])) false), .obj [] (.arr 5 (((([(69 : Int), (wr_u8 a1.tos : Int)] ++ l17) ++ l21) ++ [(0 : Int), (0 : Int), (wr_u8 a1.ttl : Int), (wr_u8 a1.proto : Int)]) ++ (l26 ++ l29)) (List.length (((([(69 : Int), (wr_u8 a1.tos : Int)] ++ l17) ++ l21) ++ [(0 : Int), (0 : Int), (wr_u8 a1.ttl : Int), (wr_u8 a1.proto : Int)]) ++ (l26 ++ l29))) false), .callv (.v (.int .i64 r32)), .callo (.os 0 (Int.toNat 2)) [.arr 5 l36 (Int.toNat 2) false], .obj [] (.arr 5 (((([(69 : Int), (wr_u8 a1.tos : Int)] ++ l17) ++ l21) ++ [(0 : Int), (0 : Int), (wr_u8 a1.ttl : Int), (wr_u8 a1.proto : Int)]) ++ l36) (List.length (((([(69 : Int), (wr_u8 a1.tos : Int)] ++ l17) ++ l21) ++ [(0 : Int), (0 : Int), (wr_u8 a1.ttl : Int), (wr_u8 a1.proto : Int)]) ++ l36)) false), .obj [] (.arr 5 ((((([(69 : Int), (wr_u8 a1.tos : Int)] ++ l17) ++ l21) ++ [(0 : Int), (0 : Int), (wr_u8 a1.ttl : Int), (wr_u8 a1.proto : Int)]) ++ l36) ++ (l26 ++ l29)) (List.length ((((([(69 : Int), (wr_u8 a1.tos : Int)] ++ l17) ++ l21) ++ [(0 : Int), (0 : Int), (wr_u8 a1.ttl : Int), (wr_u8 a1.proto : Int)]) ++ l36) ++ (l26 ++ l29))) false), .obj [] (.arr 5 (((((([(69 : Int), (wr_u8 a1.tos : Int)] ++ l17) ++ l21) ++ [(0 : Int), (0 : Int), (wr_u8 a1.ttl : Int), (wr_u8 a1.proto : Int)]) ++ l36) ++ (l26 ++ l29)) ++ a1.body) (List.length (((((([(69 : Int), (wr_u8 a1.tos : Int)] ++ l17) ++ l21) ++ [(0 : Int), (0 : Int), (wr_u8 a1.ttl : Int), (wr_u8 a1.proto : Int)]) ++ l36) ++ (l26 ++ l29)) ++ a1.body)) false)]) (hrun := by kernel_rfl) (hps := pc (k_palingref07_out h3) <| pc (h4) <| pc (k_palingref07_out h6) <| pc (h7) <| pc (k_palingref07_out h9) <| pc (h10) <| pc (k_palingref07_out h12) <| pc (h13) <| pc (h14) <| pc (bs_ob 5 [(69 : Int), (wr_u8 a1.tos : Int)]) <| pc (k_palingref07_bytes h16) <| pc (im5 l17) <| pc (app_ob 5 (n := (List.length [(69 : Int), (wr_u8 a1.tos : Int)])) (l := [(69 : Int), (wr_u8 a1.tos : Int)]) (xs := l17) h18) <| pc ((rfl : ((Int.toNat 2) : Nat) = (Int.toNat 2))) <| pc (k_palingref07_bytes h20) <| pc (im5 l21) <| pc (app_ob 5 (n := (List.length ([(69 : Int), (wr_u8 a1.tos : Int)] ++ l17))) (l := [(69 : Int), (wr_u8 a1.tos : Int)] ++ l17) (xs := l21) h22) <| pc ((rfl : ((Int.toNat 2) : Nat) = (Int.toNat 2))) <| pc (bs_ob 5 [(0 : Int), (0 : Int), (wr_u8 a1.ttl : Int), (wr_u8 a1.proto : Int)]) <| pc (app_ob 5 (n := (List.length (([(69 : Int), (wr_u8 a1.tos : Int)] ++ l17) ++ l21))) (l := ([(69 : Int), (wr_u8 a1.tos : Int)] ++ l17) ++ l21) (xs := [(0 : Int), (0 : Int), (wr_u8 a1.ttl : Int), (wr_u8 a1.proto : Int)]) h23) <| pc ((rfl : ((List.length [(0 : Int), (0 : Int), (wr_u8 a1.ttl : Int), (wr_u8 a1.proto : Int)]) : Nat) = (List.length [(0 : Int), (0 : Int), (wr_u8 a1.ttl : Int), (wr_u8 a1.proto : Int)]))) <| pc ((rfl : ([.box 69 (c69 a1) false, .n 5, .arr 5 ((([(69 : Int), (wr_u8 a1.tos : Int)] ++ l17) ++ l21) ++ [(0 : Int), (0 : Int), (wr_u8 a1.ttl : Int), (wr_u8 a1.proto : Int)]) (List.length ((([(69 : Int), (wr_u8 a1.tos : Int)] ++ l17) ++ l21) ++ [(0 : Int), (0 : Int), (wr_u8 a1.ttl : Int), (wr_u8 a1.proto : Int)])) false, .arr 5 l17 (Int.toNat 2) false, .arr 5 l21 (Int.toNat 2) false, .arr 5 [(0 : Int), (0 : Int), (wr_u8 a1.ttl : Int), (wr_u8 a1.proto : Int)] (List.length [(0 : Int), (0 : Int), (wr_u8 a1.ttl : Int), (wr_u8 a1.proto : Int)]) false, .arr 5 l26 (Int.toNat 4) false] : Heap DD) = [.box 69 (c69 a1) false, .n 5, .arr 5 ((([(69 : Int), (wr_u8 a1.tos : Int)] ++ l17) ++ l21) ++ [(0 : Int), (0 : Int), (wr_u8 a1.ttl : Int), (wr_u8 a1.proto : Int)]) (List.length ((([(69 : Int), (wr_u8 a1.tos : Int)] ++ l17) ++ l21) ++ [(0 : Int), (0 : Int), (wr_u8 a1.ttl : Int), (wr_u8 a1.proto : Int)])) false, .arr 5 l17 (Int.toNat 2) false, .arr 5 l21 (Int.toNat 2) false, .arr 5 [(0 : Int), (0 : Int), (wr_u8 a1.ttl : Int), (wr_u8 a1.proto : Int)] (List.length [(0 : Int), (0 : Int), (wr_u8 a1.ttl : Int), (wr_u8 a1.proto : Int)]) false, .arr 5 l26 (Int.toNat 4) false])) <| pc (k_palingref07_bytes h25) <| pc (im5 l26) <| pc ((rfl : (.op 0 1 0 5 : AV DD) = .op 0 1 0 5)) <| pc ((rfl : (.v (.int .u32 a1.dst) : AV DD) = .v (.int .u32 a1.dst))) <| pc ((rfl : (.v (.int .i64 (wr_i64 a1.dst)) : AV DD) = .v (.int .i64 (wr_i64 a1.dst)))) <| pc (k_palingref07_bytes h28) <| pc (im5 l29) <| pc (app_ob 5 (n := (Int.toNat 4)) (l := l26) (xs := l29) h30) <| pc ((rfl : ((Int.toNat 4) : Nat) = (Int.toNat 4))) <| pc (bs_ob 5 []) <| pc (app_ob 5 (n := 0) (l := []) (xs := (([(69 : Int), (wr_u8 a1.tos : Int)] ++ l17) ++ l21) ++ [(0 : Int), (0 : Int), (wr_u8 a1.ttl : Int), (wr_u8 a1.proto : Int)]) h23) <| pc ((rfl : ((List.length ((([(69 : Int), (wr_u8 a1.tos : Int)] ++ l17) ++ l21) ++ [(0 : Int), (0 : Int), (wr_u8 a1.ttl : Int), (wr_u8 a1.proto : Int)])) : Nat) = (List.length ((([(69 : Int), (wr_u8 a1.tos : Int)] ++ l17) ++ l21) ++ [(0 : Int), (0 : Int), (wr_u8 a1.ttl : Int), (wr_u8 a1.proto : Int)])))) <| pc (app_ob 5 (n := (List.length ((([(69 : Int), (wr_u8 a1.tos : Int)] ++ l17) ++ l21) ++ [(0 : Int), (0 : Int), (wr_u8 a1.ttl : Int), (wr_u8 a1.proto : Int)]))) (l := (([(69 : Int), (wr_u8 a1.tos : Int)] ++ l17) ++ l21) ++ [(0 : Int), (0 : Int), (wr_u8 a1.ttl : Int), (wr_u8 a1.proto : Int)]) (xs := l26 ++ l29) h31) <| pc ((rfl : ((List.length (l26 ++ l29)) : Nat) = (List.length (l26 ++ l29)))) <| pc (k_palingref06_Of h33) <| pc ((rfl : ((List.length (((([(69 : Int), (wr_u8 a1.tos : Int)] ++ l17) ++ l21) ++ [(0 : Int), (0 : Int), (wr_u8 a1.ttl : Int), (wr_u8 a1.proto : Int)]) ++ (l26 ++ l29))) : Nat) = (List.length (((([(69 : Int), (wr_u8 a1.tos : Int)] ++ l17) ++ l21) ++ [(0 : Int), (0 : Int), (wr_u8 a1.ttl : Int), (wr_u8 a1.proto : Int)]) ++ (l26 ++ l29))))) <| pc (k_palingref07_bytes h35) <| pc (im5 l36) <| pc (app_ob 5 (n := (List.length ((([(69 : Int), (wr_u8 a1.tos : Int)] ++ l17) ++ l21) ++ [(0 : Int), (0 : Int), (wr_u8 a1.ttl : Int), (wr_u8 a1.proto : Int)]))) (l := (([(69 : Int), (wr_u8 a1.tos : Int)] ++ l17) ++ l21) ++ [(0 : Int), (0 : Int), (wr_u8 a1.ttl : Int), (wr_u8 a1.proto : Int)]) (xs := l36) h37) <| pc ((rfl : ((Int.toNat 2) : Nat) = (Int.toNat 2))) <| pc (app_ob 5 (n := (List.length (((([(69 : Int), (wr_u8 a1.tos : Int)] ++ l17) ++ l21) ++ [(0 : Int), (0 : Int), (wr_u8 a1.ttl : Int), (wr_u8 a1.proto : Int)]) ++ l36))) (l := ((([(69 : Int), (wr_u8 a1.tos : Int)] ++ l17) ++ l21) ++ [(0 : Int), (0 : Int), (wr_u8 a1.ttl : Int), (wr_u8 a1.proto : Int)]) ++ l36) (xs := l26 ++ l29) h38) <| pc ((rfl : ((List.length (l26 ++ l29)) : Nat) = (List.length (l26 ++ l29)))) <| pc (app_ob 5 (n := (List.length ((((([(69 : Int), (wr_u8 a1.tos : Int)] ++ l17) ++ l21) ++ [(0 : Int), (0 : Int), (wr_u8 a1.ttl : Int), (wr_u8 a1.proto : Int)]) ++ l36) ++ (l26 ++ l29)))) (l := (((([(69 : Int), (wr_u8 a1.tos : Int)] ++ l17) ++ l21) ++ [(0 : Int), (0 : Int), (wr_u8 a1.ttl : Int), (wr_u8 a1.proto : Int)]) ++ l36) ++ (l26 ++ l29)) (xs := a1.body) h39) <| pn)
                          · cases h
                        · cases h
                      · cases h
                    · cases h
                  · cases h
                · cases h
              · cases h
            · cases h

theorem k_palingref01_Host {a1 : Int} {r : Int} (h : palingref01_Host a1 = some r) :
    CallsOK Tryz.prog UU 37 [.v (.int .u32 a1)] [] (.v (.int .u64 r)) [] := by
  unfold palingref01_Host at h
  injection h with h; subst h; exact runFn_sound mixedOrders Tryz.func37 rfl (keep := none) (π := []) (hrun := by kernel_rfl) (hps := pn)

theorem k_palingref30_Hop {a1 : Api_Net} {a2 : Int} {a3 : Api_Frame} {r : ((List Int) × Int × Int × Int × Int × Int)} (h : palingref30_Hop a1 a2 a3 = some r) :
    CallsOK Tryz.prog UU 11 [.agg (c31 a1), .v (.int .i64 a2), .agg (c36 a3)] [] ((fun r => match r with | (l41, v42, v43, v44, v45, v46) => .tup [.v (.int .i64 v42), .agg [.v (.int .u64 v43), .v (.int .u64 v44), .v (.int .i64 v45), .os 0 (List.length l41)], .v (.int .i64 v46)]) r) ((fun r => match r with | (l41, v42, v43, v44, v45, v46) => [.arr 5 l41 (List.length l41) false]) r) := by
  unfold palingref30_Hop at h
  obtain ⟨r4, h5, h⟩ := bind_out h
  rcases ite_out h with ⟨h6, h⟩ | ⟨h6, h⟩
  · injection h with h; subst h; exact runFn_sound mixedOrders Tryz.func11 rfl (keep := some [4]) (π := [.callv (.v (.bool r4)), .dec true]) (hrun := by kernel_rfl) (hps := pc (k_palingref15_Right h5) <| pc (h6) <| pn)
  · obtain ⟨r7, h8, h⟩ := bind_out h
    rcases ite_out h with ⟨h9, h⟩ | ⟨h9, h⟩
    · injection h with h; subst h; exact runFn_sound mixedOrders Tryz.func11 rfl (keep := some [4]) (π := [.callv (.v (.bool r4)), .dec false, .callv (.v (.bool r7)), .dec true]) (hrun := by kernel_rfl) (hps := pc (k_palingref15_Right h5) <| pc (h6) <| pc (k_palingref15_Place h8) <| pc (h9) <| pn)
    · rcases ite_out h with ⟨h10, h⟩ | ⟨h10, h⟩
      · injection h with h; subst h; exact runFn_sound mixedOrders Tryz.func11 rfl (keep := some [4]) (π := [.callv (.v (.bool r4)), .dec false, .callv (.v (.bool r7)), .dec false, .dec true]) (hrun := by kernel_rfl) (hps := pc (k_palingref15_Right h5) <| pc (h6) <| pc (k_palingref15_Place h8) <| pc (h9) <| pc (h10) <| pn)
      · obtain ⟨r11, h12, h⟩ := bind_out h
        obtain ⟨l13, v14, v15, v16, v17, v18, v19, v20⟩ := r11
        rcases ite_out h with ⟨h21, h⟩ | ⟨h21, h⟩
        · injection h with h; subst h; exact runFn_sound mixedOrders Tryz.func11 rfl (keep := some [7]) (π := [.callv (.v (.bool r4)), .dec false, .callv (.v (.bool r7)), .dec false, .dec false, .callo (.tup [.agg [.v (.int .i64 v14), .v (.int .i64 v15), .v (.int .i64 v16), .v (.int .i64 v17), .v (.int .u32 v18), .v (.int .u32 v19), .os 0 (List.length l13)], .v (.int .i64 v20)]) [.arr 5 l13 (List.length l13) false], .dec true]) (hrun := by kernel_rfl) (hps := pc (k_palingref15_Right h5) <| pc (h6) <| pc (k_palingref15_Place h8) <| pc (h9) <| pc (h10) <| pc (k_palingref07_Take h12) <| pc (im5 l13) <| pc (h21) <| pn)
        · obtain ⟨r22, h23, h⟩ := bind_out h
          obtain ⟨r24, r25⟩ := r22
          rcases ite_out h with ⟨h26, h⟩ | ⟨h26, h⟩
          · injection h with h; subst h; exact runFn_sound mixedOrders Tryz.func11 rfl (keep := some [9]) (π := [.callv (.v (.bool r4)), .dec false, .callv (.v (.bool r7)), .dec false, .dec false, .callo (.tup [.agg [.v (.int .i64 v14), .v (.int .i64 v15), .v (.int .i64 v16), .v (.int .i64 v17), .v (.int .u32 v18), .v (.int .u32 v19), .os 0 (List.length l13)], .v (.int .i64 v20)]) [.arr 5 l13 (List.length l13) false], .dec false, .frz [4], .callm [] (.tup [.agg (c69 r24), .v (.int .i64 r25)]) [], .dec true]) (hrun := by kernel_rfl) (hps := pc (k_palingref15_Right h5) <| pc (h6) <| pc (k_palingref15_Place h8) <| pc (h9) <| pc (h10) <| pc (k_palingref07_Take h12) <| pc (im5 l13) <| pc (h21) <| pc ((rfl : ((List.length l13) : Nat) = (List.length l13))) <| pc (k_palingref07_Hop h23) <| pc (h26) <| pn)
          · obtain ⟨r27, h28, h⟩ := bind_out h
            rcases ite_out h with ⟨h29, h⟩ | ⟨h29, h⟩
            · injection h with h; subst h; exact runFn_sound mixedOrders Tryz.func11 rfl (keep := some [9]) (π := [.callv (.v (.bool r4)), .dec false, .callv (.v (.bool r7)), .dec false, .dec false, .callo (.tup [.agg [.v (.int .i64 v14), .v (.int .i64 v15), .v (.int .i64 v16), .v (.int .i64 v17), .v (.int .u32 v18), .v (.int .u32 v19), .os 0 (List.length l13)], .v (.int .i64 v20)]) [.arr 5 l13 (List.length l13) false], .dec false, .frz [4], .callm [] (.tup [.agg (c69 r24), .v (.int .i64 r25)]) [], .dec false, .callv (.tup [.v (.int .i64 r27.1), .v (.bool r27.2)]), .dec true]) (hrun := by kernel_rfl) (hps := pc (k_palingref15_Right h5) <| pc (h6) <| pc (k_palingref15_Place h8) <| pc (h9) <| pc (h10) <| pc (k_palingref07_Take h12) <| pc (im5 l13) <| pc (h21) <| pc ((rfl : ((List.length l13) : Nat) = (List.length l13))) <| pc (k_palingref07_Hop h23) <| pc (h26) <| pc (k_palingref30_Lookup h28) <| pc (h29) <| pn)
            · obtain ⟨r30, h31, h⟩ := bind_out h
              obtain ⟨l32, v33⟩ := r30
              rcases ite_out h with ⟨h34, h⟩ | ⟨h34, h⟩
              · injection h with h; subst h; exact runFn_sound mixedOrders Tryz.func11 rfl (keep := some [10]) (π := [.callv (.v (.bool r4)), .dec false, .callv (.v (.bool r7)), .dec false, .dec false, .callo (.tup [.agg [.v (.int .i64 v14), .v (.int .i64 v15), .v (.int .i64 v16), .v (.int .i64 v17), .v (.int .u32 v18), .v (.int .u32 v19), .os 0 (List.length l13)], .v (.int .i64 v20)]) [.arr 5 l13 (List.length l13) false], .dec false, .frz [4], .callm [] (.tup [.agg (c69 r24), .v (.int .i64 r25)]) [], .dec false, .callv (.tup [.v (.int .i64 r27.1), .v (.bool r27.2)]), .dec false, .callo (.tup [.os 0 (List.length l32), .v (.int .i64 v33)]) [.arr 5 l32 (List.length l32) false], .dec true]) (hrun := by kernel_rfl) (hps := pc (k_palingref15_Right h5) <| pc (h6) <| pc (k_palingref15_Place h8) <| pc (h9) <| pc (h10) <| pc (k_palingref07_Take h12) <| pc (im5 l13) <| pc (h21) <| pc ((rfl : ((List.length l13) : Nat) = (List.length l13))) <| pc (k_palingref07_Hop h23) <| pc (h26) <| pc (k_palingref30_Lookup h28) <| pc (h29) <| pc (k_palingref07_Put h31) <| pc (im5 l32) <| pc (h34) <| pn)
              · obtain ⟨x35, h36, h⟩ := bind_out h
                obtain ⟨r37, h38, h⟩ := bind_out h
                obtain ⟨r39, h40, h⟩ := bind_out h
                injection h with h; subst h; exact runFn_sound mixedOrders Tryz.func11 rfl (keep := some [9]) (π := [.callv (.v (.bool r4)), .dec false, .callv (.v (.bool r7)), .dec false, .dec false, .callo (.tup [.agg [.v (.int .i64 v14), .v (.int .i64 v15), .v (.int .i64 v16), .v (.int .i64 v17), .v (.int .u32 v18), .v (.int .u32 v19), .os 0 (List.length l13)], .v (.int .i64 v20)]) [.arr 5 l13 (List.length l13) false], .dec false, .frz [4], .callm [] (.tup [.agg (c69 r24), .v (.int .i64 r25)]) [], .dec false, .callv (.tup [.v (.int .i64 r27.1), .v (.bool r27.2)]), .dec false, .callo (.tup [.os 0 (List.length l32), .v (.int .i64 v33)]) [.arr 5 l32 (List.length l32) false], .dec false, .row (c76 x35), .callv (.v (.int .u64 r37)), .callv (.v (.int .u64 r39))]) (hrun := by kernel_rfl) (hps := pc (k_palingref15_Right h5) <| pc (h6) <| pc (k_palingref15_Place h8) <| pc (h9) <| pc (h10) <| pc (k_palingref07_Take h12) <| pc (im5 l13) <| pc (h21) <| pc ((rfl : ((List.length l13) : Nat) = (List.length l13))) <| pc (k_palingref07_Hop h23) <| pc (h26) <| pc (k_palingref30_Lookup h28) <| pc (h29) <| pc (k_palingref07_Put h31) <| pc (im5 l32) <| pc (h34) <| pc (ob76 h36) <| pc (k_palingref01_Host h38) <| pc (k_palingref01_Host h40) <| pn)

theorem k_palingref04_Same {a1 : Api_Frame} {a2 : Api_Frame} {r : Bool} (h : palingref04_Same a1 a2 = some r) :
    CallsOK Tryz.prog UU 12 [.agg (c36 a1), .agg (c36 a2)] [] (.v (.bool r)) [] := by
  unfold palingref04_Same at h
  rcases ite_out h with ⟨h3, h⟩ | ⟨h3, h⟩
  · rcases ite_out h with ⟨h4, h⟩ | ⟨h4, h⟩
    · rcases ite_out h with ⟨h5, h⟩ | ⟨h5, h⟩
      · injection h with h; subst h; exact runFn_sound mixedOrders Tryz.func12 rfl (keep := none) (π := [.dec true, .dec true, .dec true, .callv (.v (.string (bstr a1.body))), .callv (.v (.string (bstr a2.body)))]) (hrun := by kernel_rfl) (hps := pc (h3) <| pc (h4) <| pc (h5) <| pc (cvb5 a1.body) <| pc (cvb5 a2.body) <| pn)
      · injection h with h; subst h; exact runFn_sound mixedOrders Tryz.func12 rfl (keep := none) (π := [.dec true, .dec true, .dec false]) (hrun := by kernel_rfl) (hps := pc (h3) <| pc (h4) <| pc (h5) <| pn)
    · injection h with h; subst h; exact runFn_sound mixedOrders Tryz.func12 rfl (keep := none) (π := [.dec true, .dec false]) (hrun := by kernel_rfl) (hps := pc (h3) <| pc (h4) <| pn)
  · injection h with h; subst h; exact runFn_sound mixedOrders Tryz.func12 rfl (keep := none) (π := [.dec false]) (hrun := by kernel_rfl) (hps := pc (h3) <| pn)

theorem k_palinglaw30_RouteLeads_J1 {a1 : Api_Net} {a2 : Int} {a3 : Int} {a4 : Api_Frame} {r13 : Int × Bool} {r : (Int × Bool)} (h : palinglaw30_RouteLeads_J1 a1 a2 a3 a4 r13 = some r) :
    ExecOK Tryz.prog UU 0 86 (subC (codeOf Tryz.f3) [1, 1, 1, 1, 0]) [(1, .v (.int .i64 a2)), (2, .v (.int .u32 a3)), (4, .op 0 1 0 0), (7, .op 1 1 0 0), (8, .v (.bool false)), (9, .v (.int .i64 r13.1)), (10, .v (.bool r13.2)), (11, .z), (12, .v (.bool false))] [.box 31 (c31 a1) false, .box 36 (c36 a4) false] ((fun r => match r with | (v22, v23) => .nor) r) ((fun r => match r with | (v22, v23) => [(1, .v (.int .i64 a2)), (4, .op 0 1 0 0), (7, .op 1 1 0 0), (8, .v (.bool false)), (9, .v (.int .i64 r13.1)), (10, .v (.bool r13.2)), (11, .v (.int .i64 v22)), (12, .v (.bool v23))]) r) ((fun r => match r with | (v22, v23) => [.box 31 (c31 a1) false, .box 36 (c36 a4) false]) r) := by
  unfold palinglaw30_RouteLeads_J1 at h
  obtain ⟨r15, h16, h⟩ := bind_out h
  rcases ite_out h with ⟨h17, h⟩ | ⟨h17, h⟩
  · obtain ⟨r18, h19, h⟩ := bind_out h
    injection h with h; subst h; exact runLp_sound mixedOrders (live := [1, 4, 7, 8, 9, 10, 11, 12]) (ids := [0, 1]) (π := [.callv (.v (.bool r15)), .dec true, .callv (.tup [.v (.int .i64 r18.1), .v (.bool r18.2)])]) (hx := by kernel_rfl) (hps := pc (k_palingref15_Right h16) <| pc (h17) <| pc (k_palingref30_Lookup h19) <| pn)
  · injection h with h; subst h; exact runLp_sound mixedOrders (live := [1, 4, 7, 8, 9, 10, 11, 12]) (ids := [0, 1]) (π := [.callv (.v (.bool r15)), .dec false]) (hx := by kernel_rfl) (hps := pc (k_palingref15_Right h16) <| pc (h17) <| pn)

theorem k_palinglaw30_RouteLeads {a1 : Api_Net} {a2 : Int} {a3 : Int} {a4 : Api_Frame} {r : Bool} (h : palinglaw30_RouteLeads a1 a2 a3 a4 = some r) :
    CallsOK Tryz.prog UU 3 [.agg (c31 a1), .v (.int .i64 a2), .v (.int .u32 a3), .agg (c36 a4)] [] (.v (.bool r)) [] := by
  unfold palinglaw30_RouteLeads at h
  obtain ⟨r5, h6, h⟩ := bind_out h
  rcases ite_out h with ⟨h7, h⟩ | ⟨h7, h⟩
  · obtain ⟨r8, h9, h⟩ := bind_out h
    injection h with h; subst h; exact runFn_sound mixedOrders Tryz.func3 rfl (keep := none) (π := [.callv (.v (.bool r5)), .dec true, .callv (.v (.bool r8))]) (hrun := by kernel_rfl) (hps := pc (k_palinglaw15_Great h6) <| pc (h7) <| pc (k_palinglaw30_works h9) <| pn)
  · rcases ite_out h with ⟨h10, h⟩ | ⟨h10, h⟩
    · obtain ⟨r11, h12, h⟩ := bind_out h
      injection h with h; subst h; exact runFn_sound mixedOrders Tryz.func3 rfl (keep := none) (π := [.callv (.v (.bool r5)), .dec false, .dec true, .callv (.v (.bool r11))]) (hrun := by kernel_rfl) (hps := pc (k_palinglaw15_Great h6) <| pc (h7) <| pc (h10) <| pc (k_palinglaw30_works h12) <| pn)
    · obtain ⟨r13, h14, h⟩ := bind_out h
      obtain ⟨r25, h24, h⟩ := bind_out h
      obtain ⟨v22, v23⟩ := r25
      obtain ⟨r26, h27, h⟩ := bind_out h
      obtain ⟨l28, v29, v30, v31, v32, v33⟩ := r26
      obtain ⟨r34, h35, h⟩ := bind_out h
      obtain ⟨l36, v37, v38, v39, v40, v41⟩ := r34
      rcases ite_out h with ⟨h42, h⟩ | ⟨h42, h⟩
      · rcases ite_out h with ⟨h43, h⟩ | ⟨h43, h⟩
        · rcases ite_out h with ⟨h44, h⟩ | ⟨h44, h⟩
          · obtain ⟨r45, h46, h⟩ := bind_out h
            rcases ite_out h with ⟨h47, h⟩ | ⟨h47, h⟩
            · rcases ite_out h with ⟨h48, h⟩ | ⟨h48, h⟩
              · obtain ⟨r49, h50, h⟩ := bind_out h
                injection h with h; subst h; exact runFn_sound mixedOrders Tryz.func3 rfl (keep := none) (π := [.callv (.v (.bool r5)), .dec false, .dec false, .callv (.tup [.v (.int .i64 r13.1), .v (.bool r13.2)]), .skp, .cut [1, 2, 4, 7, 8, 9, 10, 11, 12] [0, 1] .nor [(1, .v (.int .i64 a2)), (4, .op 0 1 0 0), (7, .op 1 1 0 0), (8, .v (.bool false)), (9, .v (.int .i64 r13.1)), (10, .v (.bool r13.2)), (11, .v (.int .i64 v22)), (12, .v (.bool v23))] [.box 31 (c31 a1) false, .box 36 (c36 a4) false], .callo (.tup [.v (.int .i64 v29), .agg [.v (.int .u64 v30), .v (.int .u64 v31), .v (.int .i64 v32), .os 0 (List.length l28)], .v (.int .i64 v33)]) [.arr 5 l28 (List.length l28) false], .callo (.tup [.v (.int .i64 v37), .agg [.v (.int .u64 v38), .v (.int .u64 v39), .v (.int .i64 v40), .os 0 (List.length l36)], .v (.int .i64 v41)]) [.arr 5 l36 (List.length l36) false], .dec true, .dec true, .dec true, .callv (.v (.bool r45)), .dec true, .dec true, .callv (.v (.bool r49))]) (hrun := by kernel_rfl) (hps := pc (k_palinglaw15_Great h6) <| pc (h7) <| pc (h10) <| pc (k_route_Lookup h14) <| pc (k_palinglaw30_RouteLeads_J1 h24) <| pc (k_route_Hop h27) <| pc (im5 l28) <| pc (k_palingref30_Hop h35) <| pc (im5 l36) <| pc (h42) <| pc (h43) <| pc (h44) <| pc (k_palingref04_Same h46) <| pc ((rfl : ((List.length l28) : Nat) = (List.length l28))) <| pc ((rfl : ((List.length l36) : Nat) = (List.length l36))) <| pc (h47) <| pc (h48) <| pc (k_palinglaw30_works h50) <| pn)
              · injection h with h; subst h; exact runFn_sound mixedOrders Tryz.func3 rfl (keep := none) (π := [.callv (.v (.bool r5)), .dec false, .dec false, .callv (.tup [.v (.int .i64 r13.1), .v (.bool r13.2)]), .skp, .cut [1, 2, 4, 7, 8, 9, 10, 11, 12] [0, 1] .nor [(1, .v (.int .i64 a2)), (4, .op 0 1 0 0), (7, .op 1 1 0 0), (8, .v (.bool false)), (9, .v (.int .i64 r13.1)), (10, .v (.bool r13.2)), (11, .v (.int .i64 v22)), (12, .v (.bool v23))] [.box 31 (c31 a1) false, .box 36 (c36 a4) false], .callo (.tup [.v (.int .i64 v29), .agg [.v (.int .u64 v30), .v (.int .u64 v31), .v (.int .i64 v32), .os 0 (List.length l28)], .v (.int .i64 v33)]) [.arr 5 l28 (List.length l28) false], .callo (.tup [.v (.int .i64 v37), .agg [.v (.int .u64 v38), .v (.int .u64 v39), .v (.int .i64 v40), .os 0 (List.length l36)], .v (.int .i64 v41)]) [.arr 5 l36 (List.length l36) false], .dec true, .dec true, .dec true, .callv (.v (.bool r45)), .dec true, .dec false]) (hrun := by kernel_rfl) (hps := pc (k_palinglaw15_Great h6) <| pc (h7) <| pc (h10) <| pc (k_route_Lookup h14) <| pc (k_palinglaw30_RouteLeads_J1 h24) <| pc (k_route_Hop h27) <| pc (im5 l28) <| pc (k_palingref30_Hop h35) <| pc (im5 l36) <| pc (h42) <| pc (h43) <| pc (h44) <| pc (k_palingref04_Same h46) <| pc ((rfl : ((List.length l28) : Nat) = (List.length l28))) <| pc ((rfl : ((List.length l36) : Nat) = (List.length l36))) <| pc (h47) <| pc (h48) <| pn)
            · injection h with h; subst h; exact runFn_sound mixedOrders Tryz.func3 rfl (keep := none) (π := [.callv (.v (.bool r5)), .dec false, .dec false, .callv (.tup [.v (.int .i64 r13.1), .v (.bool r13.2)]), .skp, .cut [1, 2, 4, 7, 8, 9, 10, 11, 12] [0, 1] .nor [(1, .v (.int .i64 a2)), (4, .op 0 1 0 0), (7, .op 1 1 0 0), (8, .v (.bool false)), (9, .v (.int .i64 r13.1)), (10, .v (.bool r13.2)), (11, .v (.int .i64 v22)), (12, .v (.bool v23))] [.box 31 (c31 a1) false, .box 36 (c36 a4) false], .callo (.tup [.v (.int .i64 v29), .agg [.v (.int .u64 v30), .v (.int .u64 v31), .v (.int .i64 v32), .os 0 (List.length l28)], .v (.int .i64 v33)]) [.arr 5 l28 (List.length l28) false], .callo (.tup [.v (.int .i64 v37), .agg [.v (.int .u64 v38), .v (.int .u64 v39), .v (.int .i64 v40), .os 0 (List.length l36)], .v (.int .i64 v41)]) [.arr 5 l36 (List.length l36) false], .dec true, .dec true, .dec true, .callv (.v (.bool r45)), .dec false]) (hrun := by kernel_rfl) (hps := pc (k_palinglaw15_Great h6) <| pc (h7) <| pc (h10) <| pc (k_route_Lookup h14) <| pc (k_palinglaw30_RouteLeads_J1 h24) <| pc (k_route_Hop h27) <| pc (im5 l28) <| pc (k_palingref30_Hop h35) <| pc (im5 l36) <| pc (h42) <| pc (h43) <| pc (h44) <| pc (k_palingref04_Same h46) <| pc ((rfl : ((List.length l28) : Nat) = (List.length l28))) <| pc ((rfl : ((List.length l36) : Nat) = (List.length l36))) <| pc (h47) <| pn)
          · injection h with h; subst h; exact runFn_sound mixedOrders Tryz.func3 rfl (keep := none) (π := [.callv (.v (.bool r5)), .dec false, .dec false, .callv (.tup [.v (.int .i64 r13.1), .v (.bool r13.2)]), .skp, .cut [1, 2, 4, 7, 8, 9, 10, 11, 12] [0, 1] .nor [(1, .v (.int .i64 a2)), (4, .op 0 1 0 0), (7, .op 1 1 0 0), (8, .v (.bool false)), (9, .v (.int .i64 r13.1)), (10, .v (.bool r13.2)), (11, .v (.int .i64 v22)), (12, .v (.bool v23))] [.box 31 (c31 a1) false, .box 36 (c36 a4) false], .callo (.tup [.v (.int .i64 v29), .agg [.v (.int .u64 v30), .v (.int .u64 v31), .v (.int .i64 v32), .os 0 (List.length l28)], .v (.int .i64 v33)]) [.arr 5 l28 (List.length l28) false], .callo (.tup [.v (.int .i64 v37), .agg [.v (.int .u64 v38), .v (.int .u64 v39), .v (.int .i64 v40), .os 0 (List.length l36)], .v (.int .i64 v41)]) [.arr 5 l36 (List.length l36) false], .dec true, .dec true, .dec false]) (hrun := by kernel_rfl) (hps := pc (k_palinglaw15_Great h6) <| pc (h7) <| pc (h10) <| pc (k_route_Lookup h14) <| pc (k_palinglaw30_RouteLeads_J1 h24) <| pc (k_route_Hop h27) <| pc (im5 l28) <| pc (k_palingref30_Hop h35) <| pc (im5 l36) <| pc (h42) <| pc (h43) <| pc (h44) <| pn)
        · injection h with h; subst h; exact runFn_sound mixedOrders Tryz.func3 rfl (keep := none) (π := [.callv (.v (.bool r5)), .dec false, .dec false, .callv (.tup [.v (.int .i64 r13.1), .v (.bool r13.2)]), .skp, .cut [1, 2, 4, 7, 8, 9, 10, 11, 12] [0, 1] .nor [(1, .v (.int .i64 a2)), (4, .op 0 1 0 0), (7, .op 1 1 0 0), (8, .v (.bool false)), (9, .v (.int .i64 r13.1)), (10, .v (.bool r13.2)), (11, .v (.int .i64 v22)), (12, .v (.bool v23))] [.box 31 (c31 a1) false, .box 36 (c36 a4) false], .callo (.tup [.v (.int .i64 v29), .agg [.v (.int .u64 v30), .v (.int .u64 v31), .v (.int .i64 v32), .os 0 (List.length l28)], .v (.int .i64 v33)]) [.arr 5 l28 (List.length l28) false], .callo (.tup [.v (.int .i64 v37), .agg [.v (.int .u64 v38), .v (.int .u64 v39), .v (.int .i64 v40), .os 0 (List.length l36)], .v (.int .i64 v41)]) [.arr 5 l36 (List.length l36) false], .dec true, .dec false]) (hrun := by kernel_rfl) (hps := pc (k_palinglaw15_Great h6) <| pc (h7) <| pc (h10) <| pc (k_route_Lookup h14) <| pc (k_palinglaw30_RouteLeads_J1 h24) <| pc (k_route_Hop h27) <| pc (im5 l28) <| pc (k_palingref30_Hop h35) <| pc (im5 l36) <| pc (h42) <| pc (h43) <| pn)
      · injection h with h; subst h; exact runFn_sound mixedOrders Tryz.func3 rfl (keep := none) (π := [.callv (.v (.bool r5)), .dec false, .dec false, .callv (.tup [.v (.int .i64 r13.1), .v (.bool r13.2)]), .skp, .cut [1, 2, 4, 7, 8, 9, 10, 11, 12] [0, 1] .nor [(1, .v (.int .i64 a2)), (4, .op 0 1 0 0), (7, .op 1 1 0 0), (8, .v (.bool false)), (9, .v (.int .i64 r13.1)), (10, .v (.bool r13.2)), (11, .v (.int .i64 v22)), (12, .v (.bool v23))] [.box 31 (c31 a1) false, .box 36 (c36 a4) false], .callo (.tup [.v (.int .i64 v29), .agg [.v (.int .u64 v30), .v (.int .u64 v31), .v (.int .i64 v32), .os 0 (List.length l28)], .v (.int .i64 v33)]) [.arr 5 l28 (List.length l28) false], .callo (.tup [.v (.int .i64 v37), .agg [.v (.int .u64 v38), .v (.int .u64 v39), .v (.int .i64 v40), .os 0 (List.length l36)], .v (.int .i64 v41)]) [.arr 5 l36 (List.length l36) false], .dec false]) (hrun := by kernel_rfl) (hps := pc (k_palinglaw15_Great h6) <| pc (h7) <| pc (h10) <| pc (k_route_Lookup h14) <| pc (k_palinglaw30_RouteLeads_J1 h24) <| pc (k_route_Hop h27) <| pc (im5 l28) <| pc (k_palingref30_Hop h35) <| pc (im5 l36) <| pc (h42) <| pn)

end Go.Eng
