/- Part of the proof of ReachPaths: printed mirrors of the functions, or their contracts. No conditions. -/
import Derived.Test.YtlinloabahbioaaMAK2
set_option linter.unusedVariables false
set_option maxRecDepth 100000
namespace Go.Eng
open Go Go.Proofs
theorem k_palingref03_Rising_L1 {a1 : List Int} {a2 : Int} {a3 : Int} : LoopOK Try.prog UU 0 52 (subC (codeOf Try.f164) [1, 1, 0, 1, 0, 0]) (ρ := Unit ⊕ Unit) (palingref03_Rising_L1 a1 a2 a3)
    (fun v6 : Int => ([(0, .sl 3 a1), (1, .v (.int .i64 a2)), (2, .v (.int .i64 a3)), (6, .v (.bool false)), (7, .v (.int .i64 v6))] : Fr DD)) (fun v6 : Int => ([] : Heap DD)) (fun r => match r with | Sum.inl _ => .ret | Sum.inr _ => .exit 0) (fun r => match r with | Sum.inl _ => [(6, .v (.bool false))] | Sum.inr _ => [(6, .v (.bool false))]) (fun r => match r with | Sum.inl _ => [] | Sum.inr _ => []) := by
  refine loop_sound3 (fun s q h => ?_) (fun r => ?_)
  · replace h : palingref03_Rising_L1 a1 a2 a3 s = some q := h; revert h; revert s; intro v6 h
    unfold palingref03_Rising_L1 at h
    rcases ite_out h with ⟨h7, h⟩ | ⟨h7, h⟩
    · obtain ⟨x8, h9, h⟩ := bind_out h
      rcases ite_out h with ⟨h10, h⟩ | ⟨h10, h⟩
      · injection h with h; subst h; exact runLp_sound mixedOrders (live := [6]) (ids := []) (π := [.dec true, .row (c3 x8), .dec true]) (hx := by kernel_rfl) (hps := pc (h7) <| pc (ob3 h9) <| pc (h10) <| pn)
      · obtain ⟨x11, h12, h⟩ := bind_out h
        rcases ite_out h with ⟨h13, h⟩ | ⟨h13, h⟩
        · injection h with h; subst h; exact runLp_sound mixedOrders (live := [6]) (ids := []) (π := [.dec true, .row (c3 x8), .dec false, .row (c3 x11), .dec true]) (hx := by kernel_rfl) (hps := pc (h7) <| pc (ob3 h9) <| pc (h10) <| pc (ob3 h12) <| pc (h13) <| pn)
        · rcases ite_out h with ⟨h14, h⟩ | ⟨h14, h⟩
          · obtain ⟨x15, h16, h⟩ := bind_out h
            obtain ⟨x17, h18, h⟩ := bind_out h
            rcases ite_out h with ⟨h19, h⟩ | ⟨h19, h⟩
            · injection h with h; subst h; exact runLp_sound mixedOrders (live := [6]) (ids := []) (π := [.dec true, .row (c3 x8), .dec false, .row (c3 x11), .dec false, .dec true, .row (c3 x15), .row (c3 x17), .dec true]) (hx := by kernel_rfl) (hps := pc (h7) <| pc (ob3 h9) <| pc (h10) <| pc (ob3 h12) <| pc (h13) <| pc (h14) <| pc (ob3 h16) <| pc (ob3 h18) <| pc (h19) <| pn)
            · injection h with h; subst h; exact runLp_sound mixedOrders (live := [0, 1, 2, 6, 7]) (ids := []) (π := [.dec true, .row (c3 x8), .dec false, .row (c3 x11), .dec false, .dec true, .row (c3 x15), .row (c3 x17), .dec false]) (hx := by kernel_rfl) (hps := pc (h7) <| pc (ob3 h9) <| pc (h10) <| pc (ob3 h12) <| pc (h13) <| pc (h14) <| pc (ob3 h16) <| pc (ob3 h18) <| pc (h19) <| pn)
          · injection h with h; subst h; exact runLp_sound mixedOrders (live := [0, 1, 2, 6, 7]) (ids := []) (π := [.dec true, .row (c3 x8), .dec false, .row (c3 x11), .dec false, .dec false]) (hx := by kernel_rfl) (hps := pc (h7) <| pc (ob3 h9) <| pc (h10) <| pc (ob3 h12) <| pc (h13) <| pc (h14) <| pn)
    · injection h with h; subst h; exact runLp_sound mixedOrders (live := [6]) (ids := []) (π := [.dec false]) (hx := by kernel_rfl) (hps := pc (h7) <| pn)
  · rcases r with _ | _ <;> exact Ex.noConfusion

theorem k_palingref03_Rising {a1 : List Int} {a2 : Int} {a3 : Int} {r : Bool} (h : palingref03_Rising a1 a2 a3 = some r) :
    CallsOK Try.prog UU 164 [.sl 3 a1, .v (.int .i64 a2), .v (.int .i64 a3)] [] (.v (.bool r)) [] := by
  unfold palingref03_Rising at h
  rcases ite_out h with ⟨h4, h⟩ | ⟨h4, h⟩
  · injection h with h; subst h; exact runFn_sound mixedOrders Try.func164 rfl (keep := none) (π := [.dec true]) (hrun := by kernel_rfl) (hps := pc (h4) <| pn)
  · rcases ite_out h with ⟨h5, h⟩ | ⟨h5, h⟩
    · injection h with h; subst h; exact runFn_sound mixedOrders Try.func164 rfl (keep := none) (π := [.dec false, .dec true]) (hrun := by kernel_rfl) (hps := pc (h4) <| pc (h5) <| pn)
    · obtain ⟨r21, h20, h⟩ := bind_out h
      rcases r21 with _ | _
      · injection h with h; subst h; exact runFn_sound mixedOrders Try.func164 rfl (keep := none) (π := [.dec false, .dec false, .sum [0, 1, 2, 6, 7] [] .ret [(6, .v (.bool false))] []]) (hrun := by kernel_rfl) (hps := pc (h4) <| pc (h5) <| pc (k_palingref03_Rising_L1 _ _ h20) <| pn)
      · injection h with h; subst h; exact runFn_sound mixedOrders Try.func164 rfl (keep := none) (π := [.dec false, .dec false, .sum [0, 1, 2, 6, 7] [] (.exit 0) [(6, .v (.bool false))] []]) (hrun := by kernel_rfl) (hps := pc (h4) <| pc (h5) <| pc (k_palingref03_Rising_L1 _ _ h20) <| pn)

theorem k_palingref15_rising {a1 : List Int} {a2 : Int} {r : Bool} (h : palingref15_rising a1 a2 = some r) :
    CallsOK Try.prog UU 146 [.sl 3 a1, .v (.int .i64 a2)] [] (.v (.bool r)) [] := by
  unfold palingref15_rising at h
  rcases ite_out h with ⟨h3, h⟩ | ⟨h3, h⟩
  · injection h with h; subst h; exact runFn_sound mixedOrders Try.func146 rfl (keep := none) (π := [.dec true]) (hrun := by kernel_rfl) (hps := pc (h3) <| pn)
  · obtain ⟨r4, h5, h⟩ := bind_out h
    injection h with h; subst h; exact runFn_sound mixedOrders Try.func146 rfl (keep := none) (π := [.dec false, .callv (.v (.bool r4))]) (hrun := by kernel_rfl) (hps := pc (h3) <| pc (k_palingref03_Rising h5) <| pn)

theorem k_palingref15_ports_J2 {a1 : Api_Net} {v2 : Int} {x4 : Api_Port} {r : Unit ⊕ Unit} (h : palingref15_ports_J2 a1 v2 x4 = some r) :
    ExecOK Try.prog UU 0 120 (subC (codeOf Try.f100) [1, 0, 1, 0, 0, 1, 0, 0, 1, 1, 0]) [(1, .op 0 1 0 0), (2, .v (.bool false)), (3, .v (.int .i64 v2)), (4, .op 1 1 0 0)] [.box 31 (c31 a1) false, .box 63 (c63 x4) false] ((fun r => match r with | Sum.inl _ => .ret | Sum.inr _ => .nor) r) ((fun r => match r with | Sum.inl _ => [(2, .v (.bool false))] | Sum.inr _ => [(1, .op 0 1 0 0), (2, .v (.bool false)), (3, .v (.int .i64 v2)), (4, .op 1 1 0 0)]) r) ((fun r => match r with | Sum.inl _ => [] | Sum.inr _ => [.box 31 (c31 a1) false, .box 63 (c63 x4) false]) r) := by
  unfold palingref15_ports_J2 at h
  rcases ite_out h with ⟨h17, h⟩ | ⟨h17, h⟩
  · rcases ite_out h with ⟨h18, h⟩ | ⟨h18, h⟩
    · injection h with h; subst h; exact runLp_sound mixedOrders (live := [2]) (ids := []) (π := [.dec true, .dec true]) (hx := by kernel_rfl) (hps := pc (h17) <| pc (h18) <| pn)
    · rcases ite_out h with ⟨h19, h⟩ | ⟨h19, h⟩
      · obtain ⟨r20, h21, h⟩ := bind_out h
        rcases ite_out h with ⟨h22, h⟩ | ⟨h22, h⟩
        · injection h with h; subst h; exact runLp_sound mixedOrders (live := [2]) (ids := []) (π := [.dec true, .dec false, .dec true, .callv (.v (.int .i64 r20)), .dec true]) (hx := by kernel_rfl) (hps := pc (h17) <| pc (h18) <| pc (h19) <| pc (k_palingref15_At h21) <| pc (h22) <| pn)
        · injection h with h; subst h; exact runLp_sound mixedOrders (live := [1, 2, 3, 4]) (ids := [0, 1]) (π := [.dec true, .dec false, .dec true, .callv (.v (.int .i64 r20)), .dec false]) (hx := by kernel_rfl) (hps := pc (h17) <| pc (h18) <| pc (h19) <| pc (k_palingref15_At h21) <| pc (h22) <| pn)
      · injection h with h; subst h; exact runLp_sound mixedOrders (live := [1, 2, 3, 4]) (ids := [0, 1]) (π := [.dec true, .dec false, .dec false]) (hx := by kernel_rfl) (hps := pc (h17) <| pc (h18) <| pc (h19) <| pn)
  · rcases ite_out h with ⟨h23, h⟩ | ⟨h23, h⟩
    · obtain ⟨r24, h25, h⟩ := bind_out h
      rcases ite_out h with ⟨h26, h⟩ | ⟨h26, h⟩
      · injection h with h; subst h; exact runLp_sound mixedOrders (live := [2]) (ids := []) (π := [.dec false, .dec true, .callv (.v (.int .i64 r24)), .dec true]) (hx := by kernel_rfl) (hps := pc (h17) <| pc (h23) <| pc (k_palingref15_At h25) <| pc (h26) <| pn)
      · injection h with h; subst h; exact runLp_sound mixedOrders (live := [1, 2, 3, 4]) (ids := [0, 1]) (π := [.dec false, .dec true, .callv (.v (.int .i64 r24)), .dec false]) (hx := by kernel_rfl) (hps := pc (h17) <| pc (h23) <| pc (k_palingref15_At h25) <| pc (h26) <| pn)
    · injection h with h; subst h; exact runLp_sound mixedOrders (live := [1, 2, 3, 4]) (ids := [0, 1]) (π := [.dec false, .dec false]) (hx := by kernel_rfl) (hps := pc (h17) <| pc (h23) <| pn)

theorem k_palingref15_ports_L3 {a1 : Api_Net} {v2 : Int} {x4 : Api_Port} : LoopOK Try.prog UU 0 120 (subC (codeOf Try.f100) [1, 0, 1, 0, 0, 1, 0, 0, 1, 1, 1, 0, 1, 0, 0]) (ρ := Unit ⊕ Unit) (palingref15_ports_L3 a1 v2 x4)
    (fun v29 : Int => ([(1, .op 0 1 0 0), (2, .v (.bool false)), (3, .v (.int .i64 v2)), (4, .op 1 1 0 0), (5, .v (.int .i64 v29))] : Fr DD)) (fun v29 : Int => ([.box 31 (c31 a1) false, .box 63 (c63 x4) false] : Heap DD)) (fun r => match r with | Sum.inl _ => .ret | Sum.inr _ => .exit 2) (fun r => match r with | Sum.inl _ => [(2, .v (.bool false))] | Sum.inr _ => [(1, .op 0 1 0 0), (2, .v (.bool false)), (3, .v (.int .i64 v2)), (4, .op 1 1 0 0)]) (fun r => match r with | Sum.inl _ => [] | Sum.inr _ => [.box 31 (c31 a1) false, .box 63 (c63 x4) false]) := by
  refine loop_sound3 (fun s q h => ?_) (fun r => ?_)
  · replace h : palingref15_ports_L3 a1 v2 x4 s = some q := h; revert h; revert s; intro v29 h
    unfold palingref15_ports_L3 at h
    rcases ite_out h with ⟨h30, h⟩ | ⟨h30, h⟩
    · obtain ⟨x31, h32, h⟩ := bind_out h
      obtain ⟨r33, h34, h⟩ := bind_out h
      rcases ite_out h with ⟨h35, h⟩ | ⟨h35, h⟩
      · injection h with h; subst h; exact runLp_sound mixedOrders (live := [2]) (ids := []) (π := [.dec true, .row (c3 x31), .callv (.v (.int .i64 r33)), .dec true]) (hx := by kernel_rfl) (hps := pc (h30) <| pc (ob3 h32) <| pc (k_palingref15_At h34) <| pc (h35) <| pn)
      · injection h with h; subst h; exact runLp_sound mixedOrders (live := [1, 2, 3, 4, 5]) (ids := [0, 1]) (π := [.dec true, .row (c3 x31), .callv (.v (.int .i64 r33)), .dec false]) (hx := by kernel_rfl) (hps := pc (h30) <| pc (ob3 h32) <| pc (k_palingref15_At h34) <| pc (h35) <| pn)
    · injection h with h; subst h; exact runLp_sound mixedOrders (live := [1, 2, 3, 4]) (ids := [0, 1]) (π := [.dec false]) (hx := by kernel_rfl) (hps := pc (h30) <| pn)
  · rcases r with _ | _ <;> exact Ex.noConfusion

theorem k_palingref15_ports_L1 {a1 : Api_Net} : LoopOK Try.prog UU 0 120 (subC (codeOf Try.f100) [1, 0, 1, 0, 0]) (ρ := Unit ⊕ Unit) (palingref15_ports_L1 a1)
    (fun v2 : Int => ([(1, .op 0 1 0 0), (2, .v (.bool false)), (3, .v (.int .i64 v2))] : Fr DD)) (fun v2 : Int => ([.box 31 (c31 a1) false] : Heap DD)) (fun r => match r with | Sum.inl _ => .ret | Sum.inr _ => .exit 0) (fun r => match r with | Sum.inl _ => [(2, .v (.bool false))] | Sum.inr _ => [(2, .v (.bool false))]) (fun r => match r with | Sum.inl _ => [] | Sum.inr _ => []) := by
  refine loop_sound3 (fun s q h => ?_) (fun r => ?_)
  · replace h : palingref15_ports_L1 a1 s = some q := h; revert h; revert s; intro v2 h
    unfold palingref15_ports_L1 at h
    rcases ite_out h with ⟨h3, h⟩ | ⟨h3, h⟩
    · obtain ⟨x4, h5, h⟩ := bind_out h
      obtain ⟨r6, h7, h⟩ := bind_out h
      rcases ite_out h with ⟨h8, h⟩ | ⟨h8, h⟩
      · injection h with h; subst h; exact runLp_sound mixedOrders (live := [2]) (ids := []) (π := [.dec true, .row (c63 x4), .callv (.v (.bool r6)), .dec true]) (hx := by kernel_rfl) (hps := pc (h3) <| pc (ob63 h5) <| pc (k_palingref15_Place h7) <| pc (h8) <| pn)
      · rcases ite_out h with ⟨h9, h⟩ | ⟨h9, h⟩
        · injection h with h; subst h; exact runLp_sound mixedOrders (live := [2]) (ids := []) (π := [.dec true, .row (c63 x4), .callv (.v (.bool r6)), .dec false, .dec true]) (hx := by kernel_rfl) (hps := pc (h3) <| pc (ob63 h5) <| pc (k_palingref15_Place h7) <| pc (h8) <| pc (h9) <| pn)
        · rcases ite_out h with ⟨h10, h⟩ | ⟨h10, h⟩
          · injection h with h; subst h; exact runLp_sound mixedOrders (live := [2]) (ids := []) (π := [.dec true, .row (c63 x4), .callv (.v (.bool r6)), .dec false, .dec false, .dec true]) (hx := by kernel_rfl) (hps := pc (h3) <| pc (ob63 h5) <| pc (k_palingref15_Place h7) <| pc (h8) <| pc (h9) <| pc (h10) <| pn)
          · obtain ⟨r11, h12, h⟩ := bind_out h
            rcases ite_out h with ⟨h13, h⟩ | ⟨h13, h⟩
            · injection h with h; subst h; exact runLp_sound mixedOrders (live := [2]) (ids := []) (π := [.dec true, .row (c63 x4), .callv (.v (.bool r6)), .dec false, .dec false, .dec false, .callv (.v (.bool r11)), .dec true]) (hx := by kernel_rfl) (hps := pc (h3) <| pc (ob63 h5) <| pc (k_palingref15_Place h7) <| pc (h8) <| pc (h9) <| pc (h10) <| pc (k_palingref15_rising h12) <| pc (h13) <| pn)
            · obtain ⟨r14, h15, h⟩ := bind_out h
              rcases ite_out h with ⟨h16, h⟩ | ⟨h16, h⟩
              · injection h with h; subst h; exact runLp_sound mixedOrders (live := [2]) (ids := []) (π := [.dec true, .row (c63 x4), .callv (.v (.bool r6)), .dec false, .dec false, .dec false, .callv (.v (.bool r11)), .dec false, .callv (.v (.bool r14)), .dec true]) (hx := by kernel_rfl) (hps := pc (h3) <| pc (ob63 h5) <| pc (k_palingref15_Place h7) <| pc (h8) <| pc (h9) <| pc (h10) <| pc (k_palingref15_rising h12) <| pc (h13) <| pc (k_palingref15_In h15) <| pc (h16) <| pn)
              · obtain ⟨r28, h27, h⟩ := bind_out h
                rcases r28 with _ | _
                · injection h with h; subst h; exact runLp_sound mixedOrders (live := [2]) (ids := []) (π := [.dec true, .row (c63 x4), .callv (.v (.bool r6)), .dec false, .dec false, .dec false, .callv (.v (.bool r11)), .dec false, .callv (.v (.bool r14)), .dec false, .cut [1, 2, 3, 4] [0, 2] .ret [(2, .v (.bool false))] []]) (hx := by kernel_rfl) (hps := pc (h3) <| pc (ob63 h5) <| pc (k_palingref15_Place h7) <| pc (h8) <| pc (h9) <| pc (h10) <| pc (k_palingref15_rising h12) <| pc (h13) <| pc (k_palingref15_In h15) <| pc (h16) <| pc (k_palingref15_ports_J2 h27) <| pn)
                · obtain ⟨r37, h36, h⟩ := bind_out h
                  rcases r37 with _ | _
                  · injection h with h; subst h; exact runLp_sound mixedOrders (live := [2]) (ids := []) (π := [.dec true, .row (c63 x4), .callv (.v (.bool r6)), .dec false, .dec false, .dec false, .callv (.v (.bool r11)), .dec false, .callv (.v (.bool r14)), .dec false, .cut [1, 2, 3, 4] [0, 2] .nor [(1, .op 0 1 0 0), (2, .v (.bool false)), (3, .v (.int .i64 v2)), (4, .op 1 1 0 0)] [.box 31 (c31 a1) false, .box 63 (c63 x4) false], .sum [1, 2, 3, 4, 5] [0, 1] .ret [(2, .v (.bool false))] []]) (hx := by kernel_rfl) (hps := pc (h3) <| pc (ob63 h5) <| pc (k_palingref15_Place h7) <| pc (h8) <| pc (h9) <| pc (h10) <| pc (k_palingref15_rising h12) <| pc (h13) <| pc (k_palingref15_In h15) <| pc (h16) <| pc (k_palingref15_ports_J2 h27) <| pc (k_palingref15_ports_L3 _ _ h36) <| pn)
                  · rcases ite_out h with ⟨h38, h⟩ | ⟨h38, h⟩
                    · injection h with h; subst h; exact runLp_sound mixedOrders (live := [1, 2, 3]) (ids := [0]) (π := [.dec true, .row (c63 x4), .callv (.v (.bool r6)), .dec false, .dec false, .dec false, .callv (.v (.bool r11)), .dec false, .callv (.v (.bool r14)), .dec false, .cut [1, 2, 3, 4] [0, 2] .nor [(1, .op 0 1 0 0), (2, .v (.bool false)), (3, .v (.int .i64 v2)), (4, .op 1 1 0 0)] [.box 31 (c31 a1) false, .box 63 (c63 x4) false], .sum [1, 2, 3, 4, 5] [0, 1] (.exit 2) [(1, .op 0 1 0 0), (2, .v (.bool false)), (3, .v (.int .i64 v2)), (4, .op 1 1 0 0)] [.box 31 (c31 a1) false, .box 63 (c63 x4) false], .dec true]) (hx := by kernel_rfl) (hps := pc (h3) <| pc (ob63 h5) <| pc (k_palingref15_Place h7) <| pc (h8) <| pc (h9) <| pc (h10) <| pc (k_palingref15_rising h12) <| pc (h13) <| pc (k_palingref15_In h15) <| pc (h16) <| pc (k_palingref15_ports_J2 h27) <| pc (k_palingref15_ports_L3 _ _ h36) <| pc (h38) <| pn)
                    · obtain ⟨r39, h40, h⟩ := bind_out h
                      rcases ite_out h with ⟨h41, h⟩ | ⟨h41, h⟩
                      · injection h with h; subst h; exact runLp_sound mixedOrders (live := [2]) (ids := []) (π := [.dec true, .row (c63 x4), .callv (.v (.bool r6)), .dec false, .dec false, .dec false, .callv (.v (.bool r11)), .dec false, .callv (.v (.bool r14)), .dec false, .cut [1, 2, 3, 4] [0, 2] .nor [(1, .op 0 1 0 0), (2, .v (.bool false)), (3, .v (.int .i64 v2)), (4, .op 1 1 0 0)] [.box 31 (c31 a1) false, .box 63 (c63 x4) false], .sum [1, 2, 3, 4, 5] [0, 1] (.exit 2) [(1, .op 0 1 0 0), (2, .v (.bool false)), (3, .v (.int .i64 v2)), (4, .op 1 1 0 0)] [.box 31 (c31 a1) false, .box 63 (c63 x4) false], .dec false, .callv (.v (.bool r39)), .dec true]) (hx := by kernel_rfl) (hps := pc (h3) <| pc (ob63 h5) <| pc (k_palingref15_Place h7) <| pc (h8) <| pc (h9) <| pc (h10) <| pc (k_palingref15_rising h12) <| pc (h13) <| pc (k_palingref15_In h15) <| pc (h16) <| pc (k_palingref15_ports_J2 h27) <| pc (k_palingref15_ports_L3 _ _ h36) <| pc (h38) <| pc (k_palingref15_Place h40) <| pc (h41) <| pn)
                      · obtain ⟨x42, h43, h⟩ := bind_out h
                        rcases ite_out h with ⟨h44, h⟩ | ⟨h44, h⟩
                        · obtain ⟨x45, h46, h⟩ := bind_out h
                          rcases ite_out h with ⟨h47, h⟩ | ⟨h47, h⟩
                          · injection h with h; subst h; exact runLp_sound mixedOrders (live := [2]) (ids := []) (π := [.dec true, .row (c63 x4), .callv (.v (.bool r6)), .dec false, .dec false, .dec false, .callv (.v (.bool r11)), .dec false, .callv (.v (.bool r14)), .dec false, .cut [1, 2, 3, 4] [0, 2] .nor [(1, .op 0 1 0 0), (2, .v (.bool false)), (3, .v (.int .i64 v2)), (4, .op 1 1 0 0)] [.box 31 (c31 a1) false, .box 63 (c63 x4) false], .sum [1, 2, 3, 4, 5] [0, 1] (.exit 2) [(1, .op 0 1 0 0), (2, .v (.bool false)), (3, .v (.int .i64 v2)), (4, .op 1 1 0 0)] [.box 31 (c31 a1) false, .box 63 (c63 x4) false], .dec false, .callv (.v (.bool r39)), .dec false, .row (c88 x42), .dec true, .row (c88 x45), .dec true]) (hx := by kernel_rfl) (hps := pc (h3) <| pc (ob63 h5) <| pc (k_palingref15_Place h7) <| pc (h8) <| pc (h9) <| pc (h10) <| pc (k_palingref15_rising h12) <| pc (h13) <| pc (k_palingref15_In h15) <| pc (h16) <| pc (k_palingref15_ports_J2 h27) <| pc (k_palingref15_ports_L3 _ _ h36) <| pc (h38) <| pc (k_palingref15_Place h40) <| pc (h41) <| pc (ob88 h43) <| pc (h44) <| pc (ob88 h46) <| pc (h47) <| pn)
                          · injection h with h; subst h; exact runLp_sound mixedOrders (live := [1, 2, 3]) (ids := [0]) (π := [.dec true, .row (c63 x4), .callv (.v (.bool r6)), .dec false, .dec false, .dec false, .callv (.v (.bool r11)), .dec false, .callv (.v (.bool r14)), .dec false, .cut [1, 2, 3, 4] [0, 2] .nor [(1, .op 0 1 0 0), (2, .v (.bool false)), (3, .v (.int .i64 v2)), (4, .op 1 1 0 0)] [.box 31 (c31 a1) false, .box 63 (c63 x4) false], .sum [1, 2, 3, 4, 5] [0, 1] (.exit 2) [(1, .op 0 1 0 0), (2, .v (.bool false)), (3, .v (.int .i64 v2)), (4, .op 1 1 0 0)] [.box 31 (c31 a1) false, .box 63 (c63 x4) false], .dec false, .callv (.v (.bool r39)), .dec false, .row (c88 x42), .dec true, .row (c88 x45), .dec false]) (hx := by kernel_rfl) (hps := pc (h3) <| pc (ob63 h5) <| pc (k_palingref15_Place h7) <| pc (h8) <| pc (h9) <| pc (h10) <| pc (k_palingref15_rising h12) <| pc (h13) <| pc (k_palingref15_In h15) <| pc (h16) <| pc (k_palingref15_ports_J2 h27) <| pc (k_palingref15_ports_L3 _ _ h36) <| pc (h38) <| pc (k_palingref15_Place h40) <| pc (h41) <| pc (ob88 h43) <| pc (h44) <| pc (ob88 h46) <| pc (h47) <| pn)
                        · injection h with h; subst h; exact runLp_sound mixedOrders (live := [1, 2, 3]) (ids := [0]) (π := [.dec true, .row (c63 x4), .callv (.v (.bool r6)), .dec false, .dec false, .dec false, .callv (.v (.bool r11)), .dec false, .callv (.v (.bool r14)), .dec false, .cut [1, 2, 3, 4] [0, 2] .nor [(1, .op 0 1 0 0), (2, .v (.bool false)), (3, .v (.int .i64 v2)), (4, .op 1 1 0 0)] [.box 31 (c31 a1) false, .box 63 (c63 x4) false], .sum [1, 2, 3, 4, 5] [0, 1] (.exit 2) [(1, .op 0 1 0 0), (2, .v (.bool false)), (3, .v (.int .i64 v2)), (4, .op 1 1 0 0)] [.box 31 (c31 a1) false, .box 63 (c63 x4) false], .dec false, .callv (.v (.bool r39)), .dec false, .row (c88 x42), .dec false]) (hx := by kernel_rfl) (hps := pc (h3) <| pc (ob63 h5) <| pc (k_palingref15_Place h7) <| pc (h8) <| pc (h9) <| pc (h10) <| pc (k_palingref15_rising h12) <| pc (h13) <| pc (k_palingref15_In h15) <| pc (h16) <| pc (k_palingref15_ports_J2 h27) <| pc (k_palingref15_ports_L3 _ _ h36) <| pc (h38) <| pc (k_palingref15_Place h40) <| pc (h41) <| pc (ob88 h43) <| pc (h44) <| pn)
    · injection h with h; subst h; exact runLp_sound mixedOrders (live := [2]) (ids := []) (π := [.dec false]) (hx := by kernel_rfl) (hps := pc (h3) <| pn)
  · rcases r with _ | _ <;> exact Ex.noConfusion

theorem k_palingref15_ports {a1 : Api_Net} {r : Bool} (h : palingref15_ports a1 = some r) :
    CallsOK Try.prog UU 100 [.agg (c31 a1)] [] (.v (.bool r)) [] := by
  unfold palingref15_ports at h
  obtain ⟨r49, h48, h⟩ := bind_out h
  rcases r49 with _ | _
  · injection h with h; subst h; exact runFn_sound mixedOrders Try.func100 rfl (keep := none) (π := [.sum [1, 2, 3] [0] .ret [(2, .v (.bool false))] []]) (hrun := by kernel_rfl) (hps := pc (k_palingref15_ports_L1 _ _ h48) <| pn)
  · injection h with h; subst h; exact runFn_sound mixedOrders Try.func100 rfl (keep := none) (π := [.sum [1, 2, 3] [0] (.exit 0) [(2, .v (.bool false))] []]) (hrun := by kernel_rfl) (hps := pc (k_palingref15_ports_L1 _ _ h48) <| pn)

theorem k_palingref15_links_L1 {a1 : Api_Net} : LoopOK Try.prog UU 0 70 (subC (codeOf Try.f101) [1, 0, 1, 0, 0]) (ρ := Unit ⊕ Unit) (palingref15_links_L1 a1)
    (fun v2 : Int => ([(1, .op 0 1 0 0), (2, .v (.bool false)), (3, .v (.int .i64 v2))] : Fr DD)) (fun v2 : Int => ([.box 31 (c31 a1) false] : Heap DD)) (fun r => match r with | Sum.inl _ => .ret | Sum.inr _ => .exit 0) (fun r => match r with | Sum.inl _ => [(2, .v (.bool false))] | Sum.inr _ => [(2, .v (.bool false))]) (fun r => match r with | Sum.inl _ => [] | Sum.inr _ => []) := by
  refine loop_sound3 (fun s q h => ?_) (fun r => ?_)
  · replace h : palingref15_links_L1 a1 s = some q := h; revert h; revert s; intro v2 h
    unfold palingref15_links_L1 at h
    rcases ite_out h with ⟨h3, h⟩ | ⟨h3, h⟩
    · obtain ⟨x4, h5, h⟩ := bind_out h
      obtain ⟨r6, h7, h⟩ := bind_out h
      rcases ite_out h with ⟨h8, h⟩ | ⟨h8, h⟩
      · injection h with h; subst h; exact runLp_sound mixedOrders (live := [2]) (ids := []) (π := [.dec true, .row (c88 x4), .callv (.v (.bool r6)), .dec true]) (hx := by kernel_rfl) (hps := pc (h3) <| pc (ob88 h5) <| pc (k_palingref15_Place h7) <| pc (h8) <| pn)
      · obtain ⟨r9, h10, h⟩ := bind_out h
        rcases ite_out h with ⟨h11, h⟩ | ⟨h11, h⟩
        · injection h with h; subst h; exact runLp_sound mixedOrders (live := [2]) (ids := []) (π := [.dec true, .row (c88 x4), .callv (.v (.bool r6)), .dec false, .callv (.v (.bool r9)), .dec true]) (hx := by kernel_rfl) (hps := pc (h3) <| pc (ob88 h5) <| pc (k_palingref15_Place h7) <| pc (h8) <| pc (k_palingref15_Place h10) <| pc (h11) <| pn)
        · obtain ⟨x12, h13, h⟩ := bind_out h
          obtain ⟨x14, h15, h⟩ := bind_out h
          rcases ite_out h with ⟨h16, h⟩ | ⟨h16, h⟩
          · injection h with h; subst h; exact runLp_sound mixedOrders (live := [2]) (ids := []) (π := [.dec true, .row (c88 x4), .callv (.v (.bool r6)), .dec false, .callv (.v (.bool r9)), .dec false, .row (c63 x12), .row (c63 x14), .dec true]) (hx := by kernel_rfl) (hps := pc (h3) <| pc (ob88 h5) <| pc (k_palingref15_Place h7) <| pc (h8) <| pc (k_palingref15_Place h10) <| pc (h11) <| pc (ob63 h13) <| pc (ob63 h15) <| pc (h16) <| pn)
          · obtain ⟨x17, h18, h⟩ := bind_out h
            rcases ite_out h with ⟨h19, h⟩ | ⟨h19, h⟩
            · injection h with h; subst h; exact runLp_sound mixedOrders (live := [2]) (ids := []) (π := [.dec true, .row (c88 x4), .callv (.v (.bool r6)), .dec false, .callv (.v (.bool r9)), .dec false, .row (c63 x12), .row (c63 x14), .dec false, .row (c63 x17), .dec true]) (hx := by kernel_rfl) (hps := pc (h3) <| pc (ob88 h5) <| pc (k_palingref15_Place h7) <| pc (h8) <| pc (k_palingref15_Place h10) <| pc (h11) <| pc (ob63 h13) <| pc (ob63 h15) <| pc (h16) <| pc (ob63 h18) <| pc (h19) <| pn)
            · obtain ⟨x20, h21, h⟩ := bind_out h
              rcases ite_out h with ⟨h22, h⟩ | ⟨h22, h⟩
              · injection h with h; subst h; exact runLp_sound mixedOrders (live := [2]) (ids := []) (π := [.dec true, .row (c88 x4), .callv (.v (.bool r6)), .dec false, .callv (.v (.bool r9)), .dec false, .row (c63 x12), .row (c63 x14), .dec false, .row (c63 x17), .dec false, .row (c63 x20), .dec true]) (hx := by kernel_rfl) (hps := pc (h3) <| pc (ob88 h5) <| pc (k_palingref15_Place h7) <| pc (h8) <| pc (k_palingref15_Place h10) <| pc (h11) <| pc (ob63 h13) <| pc (ob63 h15) <| pc (h16) <| pc (ob63 h18) <| pc (h19) <| pc (ob63 h21) <| pc (h22) <| pn)
              · injection h with h; subst h; exact runLp_sound mixedOrders (live := [1, 2, 3]) (ids := [0]) (π := [.dec true, .row (c88 x4), .callv (.v (.bool r6)), .dec false, .callv (.v (.bool r9)), .dec false, .row (c63 x12), .row (c63 x14), .dec false, .row (c63 x17), .dec false, .row (c63 x20), .dec false]) (hx := by kernel_rfl) (hps := pc (h3) <| pc (ob88 h5) <| pc (k_palingref15_Place h7) <| pc (h8) <| pc (k_palingref15_Place h10) <| pc (h11) <| pc (ob63 h13) <| pc (ob63 h15) <| pc (h16) <| pc (ob63 h18) <| pc (h19) <| pc (ob63 h21) <| pc (h22) <| pn)
    · injection h with h; subst h; exact runLp_sound mixedOrders (live := [2]) (ids := []) (π := [.dec false]) (hx := by kernel_rfl) (hps := pc (h3) <| pn)
  · rcases r with _ | _ <;> exact Ex.noConfusion

theorem k_palingref15_links {a1 : Api_Net} {r : Bool} (h : palingref15_links a1 = some r) :
    CallsOK Try.prog UU 101 [.agg (c31 a1)] [] (.v (.bool r)) [] := by
  unfold palingref15_links at h
  obtain ⟨r24, h23, h⟩ := bind_out h
  rcases r24 with _ | _
  · injection h with h; subst h; exact runFn_sound mixedOrders Try.func101 rfl (keep := none) (π := [.sum [1, 2, 3] [0] .ret [(2, .v (.bool false))] []]) (hrun := by kernel_rfl) (hps := pc (k_palingref15_links_L1 _ _ h23) <| pn)
  · injection h with h; subst h; exact runFn_sound mixedOrders Try.func101 rfl (keep := none) (π := [.sum [1, 2, 3] [0] (.exit 0) [(2, .v (.bool false))] []]) (hrun := by kernel_rfl) (hps := pc (k_palingref15_links_L1 _ _ h23) <| pn)

theorem k_palingref15_Member {a1 : Api_Port} {a2 : Int} {r : Bool} (h : palingref15_Member a1 a2 = some r) :
    CallsOK Try.prog UU 103 [.agg (c63 a1), .v (.int .i64 a2)] [] (.v (.bool r)) [] := by
  unfold palingref15_Member at h
  rcases ite_out h with ⟨h3, h⟩ | ⟨h3, h⟩
  · rcases ite_out h with ⟨h4, h⟩ | ⟨h4, h⟩
    · injection h with h; subst h; exact runFn_sound mixedOrders Try.func103 rfl (keep := none) (π := [.dec true, .dec true]) (hrun := by kernel_rfl) (hps := pc (h3) <| pc (h4) <| pn)
    · obtain ⟨r5, h6, h⟩ := bind_out h
      injection h with h; subst h; exact runFn_sound mixedOrders Try.func103 rfl (keep := none) (π := [.dec true, .dec false, .callv (.v (.bool r5))]) (hrun := by kernel_rfl) (hps := pc (h3) <| pc (h4) <| pc (k_palingref15_In h6) <| pn)
  · injection h with h; subst h; exact runFn_sound mixedOrders Try.func103 rfl (keep := none) (π := [.dec false]) (hrun := by kernel_rfl) (hps := pc (h3) <| pn)

theorem k_palingref15_rest_L1 {a1 : Api_Net} : LoopOK Try.prog UU 0 192 (subC (codeOf Try.f102) [1, 0, 1, 0, 0]) (ρ := Unit ⊕ Unit) (palingref15_rest_L1 a1)
    (fun v2 : Int => ([(1, .op 0 1 0 0), (2, .v (.bool false)), (3, .v (.int .i64 v2))] : Fr DD)) (fun v2 : Int => ([.box 31 (c31 a1) false] : Heap DD)) (fun r => match r with | Sum.inl _ => .ret | Sum.inr _ => .exit 0) (fun r => match r with | Sum.inl _ => [(2, .v (.bool false))] | Sum.inr _ => [(1, .op 0 1 0 0), (2, .v (.bool false))]) (fun r => match r with | Sum.inl _ => [] | Sum.inr _ => [.box 31 (c31 a1) false]) := by
  refine loop_sound3 (fun s q h => ?_) (fun r => ?_)
  · replace h : palingref15_rest_L1 a1 s = some q := h; revert h; revert s; intro v2 h
    unfold palingref15_rest_L1 at h
    rcases ite_out h with ⟨h3, h⟩ | ⟨h3, h⟩
    · obtain ⟨x4, h5, h⟩ := bind_out h
      obtain ⟨r6, h7, h⟩ := bind_out h
      rcases ite_out h with ⟨h8, h⟩ | ⟨h8, h⟩
      · injection h with h; subst h; exact runLp_sound mixedOrders (live := [2]) (ids := []) (π := [.dec true, .row (c127 x4), .callv (.v (.bool r6)), .dec true]) (hx := by kernel_rfl) (hps := pc (h3) <| pc (ob127 h5) <| pc (k_palingref15_Place h7) <| pc (h8) <| pn)
      · obtain ⟨r9, h10, h⟩ := bind_out h
        rcases ite_out h with ⟨h11, h⟩ | ⟨h11, h⟩
        · injection h with h; subst h; exact runLp_sound mixedOrders (live := [2]) (ids := []) (π := [.dec true, .row (c127 x4), .callv (.v (.bool r6)), .dec false, .callv (.v (.bool r9)), .dec true]) (hx := by kernel_rfl) (hps := pc (h3) <| pc (ob127 h5) <| pc (k_palingref15_Place h7) <| pc (h8) <| pc (k_palingref15_Place h10) <| pc (h11) <| pn)
        · obtain ⟨x12, h13, h⟩ := bind_out h
          obtain ⟨x14, h15, h⟩ := bind_out h
          rcases ite_out h with ⟨h16, h⟩ | ⟨h16, h⟩
          · injection h with h; subst h; exact runLp_sound mixedOrders (live := [2]) (ids := []) (π := [.dec true, .row (c127 x4), .callv (.v (.bool r6)), .dec false, .callv (.v (.bool r9)), .dec false, .row (c65 x12), .row (c63 x14), .dec true]) (hx := by kernel_rfl) (hps := pc (h3) <| pc (ob127 h5) <| pc (k_palingref15_Place h7) <| pc (h8) <| pc (k_palingref15_Place h10) <| pc (h11) <| pc (ob65 h13) <| pc (ob63 h15) <| pc (h16) <| pn)
          · obtain ⟨x17, h18, h⟩ := bind_out h
            obtain ⟨r19, h20, h⟩ := bind_out h
            rcases ite_out h with ⟨h21, h⟩ | ⟨h21, h⟩
            · injection h with h; subst h; exact runLp_sound mixedOrders (live := [2]) (ids := []) (π := [.dec true, .row (c127 x4), .callv (.v (.bool r6)), .dec false, .callv (.v (.bool r9)), .dec false, .row (c65 x12), .row (c63 x14), .dec false, .row (c63 x17), .callv (.v (.bool r19)), .dec true]) (hx := by kernel_rfl) (hps := pc (h3) <| pc (ob127 h5) <| pc (k_palingref15_Place h7) <| pc (h8) <| pc (k_palingref15_Place h10) <| pc (h11) <| pc (ob65 h13) <| pc (ob63 h15) <| pc (h16) <| pc (ob63 h18) <| pc (k_palingref15_Member h20) <| pc (h21) <| pn)
            · injection h with h; subst h; exact runLp_sound mixedOrders (live := [1, 2, 3]) (ids := [0]) (π := [.dec true, .row (c127 x4), .callv (.v (.bool r6)), .dec false, .callv (.v (.bool r9)), .dec false, .row (c65 x12), .row (c63 x14), .dec false, .row (c63 x17), .callv (.v (.bool r19)), .dec false]) (hx := by kernel_rfl) (hps := pc (h3) <| pc (ob127 h5) <| pc (k_palingref15_Place h7) <| pc (h8) <| pc (k_palingref15_Place h10) <| pc (h11) <| pc (ob65 h13) <| pc (ob63 h15) <| pc (h16) <| pc (ob63 h18) <| pc (k_palingref15_Member h20) <| pc (h21) <| pn)
    · injection h with h; subst h; exact runLp_sound mixedOrders (live := [1, 2]) (ids := [0]) (π := [.dec false]) (hx := by kernel_rfl) (hps := pc (h3) <| pn)
  · rcases r with _ | _ <;> exact Ex.noConfusion

theorem k_palingref15_rest_L2 {a1 : Api_Net} : LoopOK Try.prog UU 0 192 (subC (codeOf Try.f102) [1, 1, 0, 1, 0, 0]) (ρ := Unit ⊕ Unit) (palingref15_rest_L2 a1)
    (fun v24 : Int => ([(1, .op 0 1 0 0), (2, .v (.bool false)), (6, .v (.int .i64 v24))] : Fr DD)) (fun v24 : Int => ([.box 31 (c31 a1) false] : Heap DD)) (fun r => match r with | Sum.inl _ => .ret | Sum.inr _ => .exit 2) (fun r => match r with | Sum.inl _ => [(2, .v (.bool false))] | Sum.inr _ => [(1, .op 0 1 0 0), (2, .v (.bool false))]) (fun r => match r with | Sum.inl _ => [] | Sum.inr _ => [.box 31 (c31 a1) false]) := by
  refine loop_sound3 (fun s q h => ?_) (fun r => ?_)
  · replace h : palingref15_rest_L2 a1 s = some q := h; revert h; revert s; intro v24 h
    unfold palingref15_rest_L2 at h
    rcases ite_out h with ⟨h25, h⟩ | ⟨h25, h⟩
    · obtain ⟨x26, h27, h⟩ := bind_out h
      obtain ⟨r28, h29, h⟩ := bind_out h
      rcases ite_out h with ⟨h30, h⟩ | ⟨h30, h⟩
      · injection h with h; subst h; exact runLp_sound mixedOrders (live := [2]) (ids := []) (π := [.dec true, .row (c82 x26), .callv (.v (.bool r28)), .dec true]) (hx := by kernel_rfl) (hps := pc (h25) <| pc (ob82 h27) <| pc (k_palingref15_Place h29) <| pc (h30) <| pn)
      · obtain ⟨x31, h32, h⟩ := bind_out h
        rcases ite_out h with ⟨h33, h⟩ | ⟨h33, h⟩
        · injection h with h; subst h; exact runLp_sound mixedOrders (live := [2]) (ids := []) (π := [.dec true, .row (c82 x26), .callv (.v (.bool r28)), .dec false, .row (c82 x31), .dec true]) (hx := by kernel_rfl) (hps := pc (h25) <| pc (ob82 h27) <| pc (k_palingref15_Place h29) <| pc (h30) <| pc (ob82 h32) <| pc (h33) <| pn)
        · injection h with h; subst h; exact runLp_sound mixedOrders (live := [1, 2, 6]) (ids := [0]) (π := [.dec true, .row (c82 x26), .callv (.v (.bool r28)), .dec false, .row (c82 x31), .dec false]) (hx := by kernel_rfl) (hps := pc (h25) <| pc (ob82 h27) <| pc (k_palingref15_Place h29) <| pc (h30) <| pc (ob82 h32) <| pc (h33) <| pn)
    · injection h with h; subst h; exact runLp_sound mixedOrders (live := [1, 2]) (ids := [0]) (π := [.dec false]) (hx := by kernel_rfl) (hps := pc (h25) <| pn)
  · rcases r with _ | _ <;> exact Ex.noConfusion

theorem k_palingref15_rest_L3 {a1 : Api_Net} : LoopOK Try.prog UU 0 192 (subC (codeOf Try.f102) [1, 1, 1, 0, 1, 0, 0]) (ρ := Unit ⊕ Unit) (palingref15_rest_L3 a1)
    (fun v36 : Int => ([(1, .op 0 1 0 0), (2, .v (.bool false)), (7, .v (.int .i64 v36))] : Fr DD)) (fun v36 : Int => ([.box 31 (c31 a1) false] : Heap DD)) (fun r => match r with | Sum.inl _ => .ret | Sum.inr _ => .exit 4) (fun r => match r with | Sum.inl _ => [(2, .v (.bool false))] | Sum.inr _ => [(1, .op 0 1 0 0), (2, .v (.bool false))]) (fun r => match r with | Sum.inl _ => [] | Sum.inr _ => [.box 31 (c31 a1) false]) := by
  refine loop_sound3 (fun s q h => ?_) (fun r => ?_)
  · replace h : palingref15_rest_L3 a1 s = some q := h; revert h; revert s; intro v36 h
    unfold palingref15_rest_L3 at h
    rcases ite_out h with ⟨h37, h⟩ | ⟨h37, h⟩
    · obtain ⟨x38, h39, h⟩ := bind_out h
      obtain ⟨r40, h41, h⟩ := bind_out h
      rcases ite_out h with ⟨h42, h⟩ | ⟨h42, h⟩
      · injection h with h; subst h; exact runLp_sound mixedOrders (live := [2]) (ids := []) (π := [.dec true, .row (c84 x38), .callv (.v (.bool r40)), .dec true]) (hx := by kernel_rfl) (hps := pc (h37) <| pc (ob84 h39) <| pc (k_palingref15_Place h41) <| pc (h42) <| pn)
      · obtain ⟨r43, h44, h⟩ := bind_out h
        rcases ite_out h with ⟨h45, h⟩ | ⟨h45, h⟩
        · injection h with h; subst h; exact runLp_sound mixedOrders (live := [2]) (ids := []) (π := [.dec true, .row (c84 x38), .callv (.v (.bool r40)), .dec false, .callv (.v (.bool r43)), .dec true]) (hx := by kernel_rfl) (hps := pc (h37) <| pc (ob84 h39) <| pc (k_palingref15_Place h41) <| pc (h42) <| pc (k_palingref15_rising h44) <| pc (h45) <| pn)
        · obtain ⟨r46, h47, h⟩ := bind_out h
          rcases ite_out h with ⟨h48, h⟩ | ⟨h48, h⟩
          · injection h with h; subst h; exact runLp_sound mixedOrders (live := [2]) (ids := []) (π := [.dec true, .row (c84 x38), .callv (.v (.bool r40)), .dec false, .callv (.v (.bool r43)), .dec false, .callv (.v (.bool r46)), .dec true]) (hx := by kernel_rfl) (hps := pc (h37) <| pc (ob84 h39) <| pc (k_palingref15_Place h41) <| pc (h42) <| pc (k_palingref15_rising h44) <| pc (h45) <| pc (k_palingref15_rising h47) <| pc (h48) <| pn)
          · injection h with h; subst h; exact runLp_sound mixedOrders (live := [1, 2, 7]) (ids := [0]) (π := [.dec true, .row (c84 x38), .callv (.v (.bool r40)), .dec false, .callv (.v (.bool r43)), .dec false, .callv (.v (.bool r46)), .dec false]) (hx := by kernel_rfl) (hps := pc (h37) <| pc (ob84 h39) <| pc (k_palingref15_Place h41) <| pc (h42) <| pc (k_palingref15_rising h44) <| pc (h45) <| pc (k_palingref15_rising h47) <| pc (h48) <| pn)
    · injection h with h; subst h; exact runLp_sound mixedOrders (live := [1, 2]) (ids := [0]) (π := [.dec false]) (hx := by kernel_rfl) (hps := pc (h37) <| pn)
  · rcases r with _ | _ <;> exact Ex.noConfusion

theorem k_palingref15_rest_L4 {a1 : Api_Net} : LoopOK Try.prog UU 0 192 (subC (codeOf Try.f102) [1, 1, 1, 1, 0, 1, 0, 0]) (ρ := Unit ⊕ Unit) (palingref15_rest_L4 a1)
    (fun v51 : Int => ([(1, .op 0 1 0 0), (2, .v (.bool false)), (9, .v (.int .i64 v51))] : Fr DD)) (fun v51 : Int => ([.box 31 (c31 a1) false] : Heap DD)) (fun r => match r with | Sum.inl _ => .ret | Sum.inr _ => .exit 6) (fun r => match r with | Sum.inl _ => [(2, .v (.bool false))] | Sum.inr _ => [(2, .v (.bool false))]) (fun r => match r with | Sum.inl _ => [] | Sum.inr _ => []) := by
  refine loop_sound3 (fun s q h => ?_) (fun r => ?_)
  · replace h : palingref15_rest_L4 a1 s = some q := h; revert h; revert s; intro v51 h
    unfold palingref15_rest_L4 at h
    rcases ite_out h with ⟨h52, h⟩ | ⟨h52, h⟩
    · obtain ⟨x53, h54, h⟩ := bind_out h
      obtain ⟨r55, h56, h⟩ := bind_out h
      rcases ite_out h with ⟨h57, h⟩ | ⟨h57, h⟩
      · injection h with h; subst h; exact runLp_sound mixedOrders (live := [2]) (ids := []) (π := [.dec true, .row (c115 x53), .callv (.v (.bool r55)), .dec true]) (hx := by kernel_rfl) (hps := pc (h52) <| pc (ob115 h54) <| pc (k_palingref15_Place h56) <| pc (h57) <| pn)
      · obtain ⟨r58, h59, h⟩ := bind_out h
        rcases ite_out h with ⟨h60, h⟩ | ⟨h60, h⟩
        · injection h with h; subst h; exact runLp_sound mixedOrders (live := [2]) (ids := []) (π := [.dec true, .row (c115 x53), .callv (.v (.bool r55)), .dec false, .callv (.v (.bool r58)), .dec true]) (hx := by kernel_rfl) (hps := pc (h52) <| pc (ob115 h54) <| pc (k_palingref15_Place h56) <| pc (h57) <| pc (k_palingref15_Place h59) <| pc (h60) <| pn)
        · rcases ite_out h with ⟨h61, h⟩ | ⟨h61, h⟩
          · injection h with h; subst h; exact runLp_sound mixedOrders (live := [2]) (ids := []) (π := [.dec true, .row (c115 x53), .callv (.v (.bool r55)), .dec false, .callv (.v (.bool r58)), .dec false, .dec true]) (hx := by kernel_rfl) (hps := pc (h52) <| pc (ob115 h54) <| pc (k_palingref15_Place h56) <| pc (h57) <| pc (k_palingref15_Place h59) <| pc (h60) <| pc (h61) <| pn)
          · rcases ite_out h with ⟨h62, h⟩ | ⟨h62, h⟩
            · injection h with h; subst h; exact runLp_sound mixedOrders (live := [2]) (ids := []) (π := [.dec true, .row (c115 x53), .callv (.v (.bool r55)), .dec false, .callv (.v (.bool r58)), .dec false, .dec false, .dec true]) (hx := by kernel_rfl) (hps := pc (h52) <| pc (ob115 h54) <| pc (k_palingref15_Place h56) <| pc (h57) <| pc (k_palingref15_Place h59) <| pc (h60) <| pc (h61) <| pc (h62) <| pn)
            · obtain ⟨x63, h64, h⟩ := bind_out h
              obtain ⟨x65, h66, h⟩ := bind_out h
              rcases ite_out h with ⟨h67, h⟩ | ⟨h67, h⟩
              · injection h with h; subst h; exact runLp_sound mixedOrders (live := [2]) (ids := []) (π := [.dec true, .row (c115 x53), .callv (.v (.bool r55)), .dec false, .callv (.v (.bool r58)), .dec false, .dec false, .dec false, .row (c65 x63), .row (c84 x65), .dec true]) (hx := by kernel_rfl) (hps := pc (h52) <| pc (ob115 h54) <| pc (k_palingref15_Place h56) <| pc (h57) <| pc (k_palingref15_Place h59) <| pc (h60) <| pc (h61) <| pc (h62) <| pc (ob65 h64) <| pc (ob84 h66) <| pc (h67) <| pn)
              · obtain ⟨x68, h69, h⟩ := bind_out h
                rcases ite_out h with ⟨h70, h⟩ | ⟨h70, h⟩
                · injection h with h; subst h; exact runLp_sound mixedOrders (live := [2]) (ids := []) (π := [.dec true, .row (c115 x53), .callv (.v (.bool r55)), .dec false, .callv (.v (.bool r58)), .dec false, .dec false, .dec false, .row (c65 x63), .row (c84 x65), .dec false, .row (c65 x68), .dec true]) (hx := by kernel_rfl) (hps := pc (h52) <| pc (ob115 h54) <| pc (k_palingref15_Place h56) <| pc (h57) <| pc (k_palingref15_Place h59) <| pc (h60) <| pc (h61) <| pc (h62) <| pc (ob65 h64) <| pc (ob84 h66) <| pc (h67) <| pc (ob65 h69) <| pc (h70) <| pn)
                · injection h with h; subst h; exact runLp_sound mixedOrders (live := [1, 2, 9]) (ids := [0]) (π := [.dec true, .row (c115 x53), .callv (.v (.bool r55)), .dec false, .callv (.v (.bool r58)), .dec false, .dec false, .dec false, .row (c65 x63), .row (c84 x65), .dec false, .row (c65 x68), .dec false]) (hx := by kernel_rfl) (hps := pc (h52) <| pc (ob115 h54) <| pc (k_palingref15_Place h56) <| pc (h57) <| pc (k_palingref15_Place h59) <| pc (h60) <| pc (h61) <| pc (h62) <| pc (ob65 h64) <| pc (ob84 h66) <| pc (h67) <| pc (ob65 h69) <| pc (h70) <| pn)
    · injection h with h; subst h; exact runLp_sound mixedOrders (live := [2]) (ids := []) (π := [.dec false]) (hx := by kernel_rfl) (hps := pc (h52) <| pn)
  · rcases r with _ | _ <;> exact Ex.noConfusion

theorem k_palingref15_rest {a1 : Api_Net} {r : Bool} (h : palingref15_rest a1 = some r) :
    CallsOK Try.prog UU 102 [.agg (c31 a1)] [] (.v (.bool r)) [] := by
  unfold palingref15_rest at h
  obtain ⟨r23, h22, h⟩ := bind_out h
  rcases r23 with _ | _
  · injection h with h; subst h; exact runFn_sound mixedOrders Try.func102 rfl (keep := none) (π := [.sum [1, 2, 3] [0] .ret [(2, .v (.bool false))] []]) (hrun := by kernel_rfl) (hps := pc (k_palingref15_rest_L1 _ _ h22) <| pn)
  · obtain ⟨r35, h34, h⟩ := bind_out h
    rcases r35 with _ | _
    · injection h with h; subst h; exact runFn_sound mixedOrders Try.func102 rfl (keep := none) (π := [.sum [1, 2, 3] [0] (.exit 0) [(1, .op 0 1 0 0), (2, .v (.bool false))] [.box 31 (c31 a1) false], .sum [1, 2, 6] [0] .ret [(2, .v (.bool false))] []]) (hrun := by kernel_rfl) (hps := pc (k_palingref15_rest_L1 _ _ h22) <| pc (k_palingref15_rest_L2 _ _ h34) <| pn)
    · obtain ⟨r50, h49, h⟩ := bind_out h
      rcases r50 with _ | _
      · injection h with h; subst h; exact runFn_sound mixedOrders Try.func102 rfl (keep := none) (π := [.sum [1, 2, 3] [0] (.exit 0) [(1, .op 0 1 0 0), (2, .v (.bool false))] [.box 31 (c31 a1) false], .sum [1, 2, 6] [0] (.exit 2) [(1, .op 0 1 0 0), (2, .v (.bool false))] [.box 31 (c31 a1) false], .sum [1, 2, 7] [0] .ret [(2, .v (.bool false))] []]) (hrun := by kernel_rfl) (hps := pc (k_palingref15_rest_L1 _ _ h22) <| pc (k_palingref15_rest_L2 _ _ h34) <| pc (k_palingref15_rest_L3 _ _ h49) <| pn)
      · obtain ⟨r72, h71, h⟩ := bind_out h
        rcases r72 with _ | _
        · injection h with h; subst h; exact runFn_sound mixedOrders Try.func102 rfl (keep := none) (π := [.sum [1, 2, 3] [0] (.exit 0) [(1, .op 0 1 0 0), (2, .v (.bool false))] [.box 31 (c31 a1) false], .sum [1, 2, 6] [0] (.exit 2) [(1, .op 0 1 0 0), (2, .v (.bool false))] [.box 31 (c31 a1) false], .sum [1, 2, 7] [0] (.exit 4) [(1, .op 0 1 0 0), (2, .v (.bool false))] [.box 31 (c31 a1) false], .sum [1, 2, 9] [0] .ret [(2, .v (.bool false))] []]) (hrun := by kernel_rfl) (hps := pc (k_palingref15_rest_L1 _ _ h22) <| pc (k_palingref15_rest_L2 _ _ h34) <| pc (k_palingref15_rest_L3 _ _ h49) <| pc (k_palingref15_rest_L4 _ _ h71) <| pn)
        · injection h with h; subst h; exact runFn_sound mixedOrders Try.func102 rfl (keep := none) (π := [.sum [1, 2, 3] [0] (.exit 0) [(1, .op 0 1 0 0), (2, .v (.bool false))] [.box 31 (c31 a1) false], .sum [1, 2, 6] [0] (.exit 2) [(1, .op 0 1 0 0), (2, .v (.bool false))] [.box 31 (c31 a1) false], .sum [1, 2, 7] [0] (.exit 4) [(1, .op 0 1 0 0), (2, .v (.bool false))] [.box 31 (c31 a1) false], .sum [1, 2, 9] [0] (.exit 6) [(2, .v (.bool false))] []]) (hrun := by kernel_rfl) (hps := pc (k_palingref15_rest_L1 _ _ h22) <| pc (k_palingref15_rest_L2 _ _ h34) <| pc (k_palingref15_rest_L3 _ _ h49) <| pc (k_palingref15_rest_L4 _ _ h71) <| pn)

theorem k_palingref15_Right {a1 : Api_Net} {r : Bool} (h : palingref15_Right a1 = some r) :
    CallsOK Try.prog UU 38 [.agg (c31 a1)] [] (.v (.bool r)) [] := by
  unfold palingref15_Right at h
  rcases ite_out h with ⟨h2, h⟩ | ⟨h2, h⟩
  · injection h with h; subst h; exact runFn_sound mixedOrders Try.func38 rfl (keep := none) (π := [.dec true]) (hrun := by kernel_rfl) (hps := pc (h2) <| pn)
  · rcases ite_out h with ⟨h3, h⟩ | ⟨h3, h⟩
    · injection h with h; subst h; exact runFn_sound mixedOrders Try.func38 rfl (keep := none) (π := [.dec false, .dec true]) (hrun := by kernel_rfl) (hps := pc (h2) <| pc (h3) <| pn)
    · rcases ite_out h with ⟨h4, h⟩ | ⟨h4, h⟩
      · injection h with h; subst h; exact runFn_sound mixedOrders Try.func38 rfl (keep := none) (π := [.dec false, .dec false, .dec true]) (hrun := by kernel_rfl) (hps := pc (h2) <| pc (h3) <| pc (h4) <| pn)
      · rcases ite_out h with ⟨h5, h⟩ | ⟨h5, h⟩
        · injection h with h; subst h; exact runFn_sound mixedOrders Try.func38 rfl (keep := none) (π := [.dec false, .dec false, .dec false, .dec true]) (hrun := by kernel_rfl) (hps := pc (h2) <| pc (h3) <| pc (h4) <| pc (h5) <| pn)
        · rcases ite_out h with ⟨h6, h⟩ | ⟨h6, h⟩
          · injection h with h; subst h; exact runFn_sound mixedOrders Try.func38 rfl (keep := none) (π := [.dec false, .dec false, .dec false, .dec false, .dec true]) (hrun := by kernel_rfl) (hps := pc (h2) <| pc (h3) <| pc (h4) <| pc (h5) <| pc (h6) <| pn)
          · rcases ite_out h with ⟨h7, h⟩ | ⟨h7, h⟩
            · injection h with h; subst h; exact runFn_sound mixedOrders Try.func38 rfl (keep := none) (π := [.dec false, .dec false, .dec false, .dec false, .dec false, .dec true]) (hrun := by kernel_rfl) (hps := pc (h2) <| pc (h3) <| pc (h4) <| pc (h5) <| pc (h6) <| pc (h7) <| pn)
            · rcases ite_out h with ⟨h8, h⟩ | ⟨h8, h⟩
              · injection h with h; subst h; exact runFn_sound mixedOrders Try.func38 rfl (keep := none) (π := [.dec false, .dec false, .dec false, .dec false, .dec false, .dec false, .dec true]) (hrun := by kernel_rfl) (hps := pc (h2) <| pc (h3) <| pc (h4) <| pc (h5) <| pc (h6) <| pc (h7) <| pc (h8) <| pn)
              · rcases ite_out h with ⟨h9, h⟩ | ⟨h9, h⟩
                · injection h with h; subst h; exact runFn_sound mixedOrders Try.func38 rfl (keep := none) (π := [.dec false, .dec false, .dec false, .dec false, .dec false, .dec false, .dec false, .dec true]) (hrun := by kernel_rfl) (hps := pc (h2) <| pc (h3) <| pc (h4) <| pc (h5) <| pc (h6) <| pc (h7) <| pc (h8) <| pc (h9) <| pn)
                · obtain ⟨r10, h11, h⟩ := bind_out h
                  rcases ite_out h with ⟨h12, h⟩ | ⟨h12, h⟩
                  · obtain ⟨r13, h14, h⟩ := bind_out h
                    rcases ite_out h with ⟨h15, h⟩ | ⟨h15, h⟩
                    · obtain ⟨r16, h17, h⟩ := bind_out h
                      rcases ite_out h with ⟨h18, h⟩ | ⟨h18, h⟩
                      · obtain ⟨r19, h20, h⟩ := bind_out h
                        injection h with h; subst h; exact runFn_sound mixedOrders Try.func38 rfl (keep := none) (π := [.dec false, .dec false, .dec false, .dec false, .dec false, .dec false, .dec false, .dec false, .callv (.v (.bool r10)), .dec true, .callv (.v (.bool r13)), .dec true, .callv (.v (.bool r16)), .dec true, .callv (.v (.bool r19))]) (hrun := by kernel_rfl) (hps := pc (h2) <| pc (h3) <| pc (h4) <| pc (h5) <| pc (h6) <| pc (h7) <| pc (h8) <| pc (h9) <| pc (k_palingref15_domains h11) <| pc (h12) <| pc (k_palingref15_ports h14) <| pc (h15) <| pc (k_palingref15_links h17) <| pc (h18) <| pc (k_palingref15_rest h20) <| pn)
                      · injection h with h; subst h; exact runFn_sound mixedOrders Try.func38 rfl (keep := none) (π := [.dec false, .dec false, .dec false, .dec false, .dec false, .dec false, .dec false, .dec false, .callv (.v (.bool r10)), .dec true, .callv (.v (.bool r13)), .dec true, .callv (.v (.bool r16)), .dec false]) (hrun := by kernel_rfl) (hps := pc (h2) <| pc (h3) <| pc (h4) <| pc (h5) <| pc (h6) <| pc (h7) <| pc (h8) <| pc (h9) <| pc (k_palingref15_domains h11) <| pc (h12) <| pc (k_palingref15_ports h14) <| pc (h15) <| pc (k_palingref15_links h17) <| pc (h18) <| pn)
                    · injection h with h; subst h; exact runFn_sound mixedOrders Try.func38 rfl (keep := none) (π := [.dec false, .dec false, .dec false, .dec false, .dec false, .dec false, .dec false, .dec false, .callv (.v (.bool r10)), .dec true, .callv (.v (.bool r13)), .dec false]) (hrun := by kernel_rfl) (hps := pc (h2) <| pc (h3) <| pc (h4) <| pc (h5) <| pc (h6) <| pc (h7) <| pc (h8) <| pc (h9) <| pc (k_palingref15_domains h11) <| pc (h12) <| pc (k_palingref15_ports h14) <| pc (h15) <| pn)
                  · injection h with h; subst h; exact runFn_sound mixedOrders Try.func38 rfl (keep := none) (π := [.dec false, .dec false, .dec false, .dec false, .dec false, .dec false, .dec false, .dec false, .callv (.v (.bool r10)), .dec false]) (hrun := by kernel_rfl) (hps := pc (h2) <| pc (h3) <| pc (h4) <| pc (h5) <| pc (h6) <| pc (h7) <| pc (h8) <| pc (h9) <| pc (k_palingref15_domains h11) <| pc (h12) <| pn)

theorem k_palingref35_Fits {a1 : Api_Net} {a2 : Int} {r : Bool} (h : palingref35_Fits a1 a2 = some r) :
    CallsOK Try.prog UU 13 [.agg (c31 a1), .v (.int .i64 a2)] [] (.v (.bool r)) [] := by
  unfold palingref35_Fits at h
  obtain ⟨r3, h4, h⟩ := bind_out h
  rcases ite_out h with ⟨h5, h⟩ | ⟨h5, h⟩
  · obtain ⟨r6, h7, h⟩ := bind_out h
    injection h with h; subst h; exact runFn_sound mixedOrders Try.func13 rfl (keep := none) (π := [.callv (.v (.bool r3)), .dec true, .callv (.v (.bool r6))]) (hrun := by kernel_rfl) (hps := pc (k_palingref15_Right h4) <| pc (h5) <| pc (k_palingref15_Place h7) <| pn)
  · injection h with h; subst h; exact runFn_sound mixedOrders Try.func13 rfl (keep := none) (π := [.callv (.v (.bool r3)), .dec false]) (hrun := by kernel_rfl) (hps := pc (k_palingref15_Right h4) <| pc (h5) <| pn)

theorem k_palingref15_Members_L1 {a1 : Api_Net} {x6 : Api_Domain} : LoopOK Try.prog UU 0 50 (subC (codeOf Try.f40) [1, 1, 1, 1, 0, 1, 0, 0]) (fun s : (List Int) × Int => match s with | (l8, v9) => palingref15_Members_L1 a1 x6 l8 v9)
    (fun s : (List Int) × Int => (match s with | (l8, v9) => [(2, .op 0 1 0 0), (4, .os 1 0), (5, .os 2 (List.length l8)), (6, .op 3 1 0 0), (7, .v (.int .i64 v9))] : Fr DD)) (fun s : (List Int) × Int => (match s with | (l8, v9) => [.box 31 (c31 a1) false, .n 3, .arr 3 l8 (List.length l8) false, .box 65 (c65 x6) false] : Heap DD)) (fun r => match r with | l22 => .exit 0) (fun r => match r with | l22 => [(4, .os 0 0), (5, .os 1 (List.length l22))]) (fun r => match r with | l22 => [.n 3, .arr 3 l22 (List.length l22) false]) := by
  refine loop_sound3 (fun s q h => ?_) (fun r => ?_)
  · obtain ⟨l8, v9⟩ := s; replace h : palingref15_Members_L1 a1 x6 l8 v9 = some q := h
    unfold palingref15_Members_L1 at h
    rcases ite_out h with ⟨h10, h⟩ | ⟨h10, h⟩
    · obtain ⟨x11, h12, h⟩ := bind_out h
      rcases ite_out h with ⟨h13, h⟩ | ⟨h13, h⟩
      · obtain ⟨x14, h15, h⟩ := bind_out h
        obtain ⟨r16, h17, h⟩ := bind_out h
        rcases ite_out h with ⟨h18, h⟩ | ⟨h18, h⟩
        · rcases ite_out h with ⟨h19, h⟩ | ⟨h19, h⟩
          · injection h with h; subst h; exact runLp_sound mixedOrders (live := [2, 4, 5, 6, 7]) (ids := [0, 1, 2, 3]) (π := [.dec true, .row (c63 x11), .dec true, .row (c63 x14), .callv (.v (.bool r16)), .dec true, .obj [] (.arr 3 [v9] (List.length [v9]) false), .obj [] (.arr 3 (l8 ++ [v9]) (List.length (l8 ++ [v9])) false)]) (hx := by kernel_rfl) (hps := pc (h10) <| pc (ob63 h12) <| pc (h13) <| pc (ob63 h15) <| pc (k_palingref15_Member h17) <| pc (h18) <| pc (bs_ob 3 [v9]) <| pc (app_ob 3 (n := (List.length l8)) (l := l8) (xs := [v9]) h19) <| pc ((rfl : ((List.length [v9]) : Nat) = (List.length [v9]))) <| pn)
          · cases h
        · injection h with h; subst h; exact runLp_sound mixedOrders (live := [2, 4, 5, 6, 7]) (ids := [0, 1, 2, 3]) (π := [.dec true, .row (c63 x11), .dec true, .row (c63 x14), .callv (.v (.bool r16)), .dec false]) (hx := by kernel_rfl) (hps := pc (h10) <| pc (ob63 h12) <| pc (h13) <| pc (ob63 h15) <| pc (k_palingref15_Member h17) <| pc (h18) <| pn)
      · injection h with h; subst h; exact runLp_sound mixedOrders (live := [2, 4, 5, 6, 7]) (ids := [0, 1, 2, 3]) (π := [.dec true, .row (c63 x11), .dec false]) (hx := by kernel_rfl) (hps := pc (h10) <| pc (ob63 h12) <| pc (h13) <| pn)
    · injection h with h; subst h; exact runLp_sound mixedOrders (live := [4, 5]) (ids := [1, 2]) (π := [.dec false]) (hx := by kernel_rfl) (hps := pc (h10) <| pn)
  · exact Ex.noConfusion

theorem k_palingref15_Members {a1 : Api_Net} {a2 : Int} {r : ((List Int))} (h : palingref15_Members a1 a2 = some r) :
    CallsOK Try.prog UU 40 [.agg (c31 a1), .v (.int .i64 a2)] [] ((fun r => match r with | l25 => .os 0 (List.length l25)) r) ((fun r => match r with | l25 => [.arr 3 l25 (List.length l25) false]) r) := by
  unfold palingref15_Members at h
  obtain ⟨r3, h4, h⟩ := bind_out h
  rcases ite_out h with ⟨h5, h⟩ | ⟨h5, h⟩
  · injection h with h; subst h; exact runFn_sound mixedOrders Try.func40 rfl (keep := some [3]) (π := [.callv (.v (.bool r3)), .dec true]) (hrun := by kernel_rfl) (hps := pc (k_palingref15_Place h4) <| pc (h5) <| pn)
  · obtain ⟨x6, h7, h⟩ := bind_out h
    obtain ⟨l22, h23, h⟩ := bind_out h
    injection h with h; subst h; exact runFn_sound mixedOrders Try.func40 rfl (keep := some [1]) (π := [.callv (.v (.bool r3)), .dec false, .row (c65 x6), .sum [2, 4, 5, 6, 7] [0, 1, 2, 4] (.exit 0) [(4, .os 0 0), (5, .os 1 (List.length l22))] [.n 3, .arr 3 l22 (List.length l22) false]]) (hrun := by kernel_rfl) (hps := pc (k_palingref15_Place h4) <| pc (h5) <| pc (ob65 h7) <| pc (k_palingref15_Members_L1 _ _ h23) <| pn)

theorem k_palingref17_Other_L1 {a1 : Api_Net} {a2 : Int} : LoopOK Try.prog UU 0 41 (subC (codeOf Try.f147) [1, 0, 1, 0, 0]) (ρ := Int ⊕ Unit) (palingref17_Other_L1 a1 a2)
    (fun v3 : Int => ([(1, .v (.int .i64 a2)), (2, .op 0 1 0 0), (4, .z), (5, .v (.int .i64 v3))] : Fr DD)) (fun v3 : Int => ([.box 31 (c31 a1) false] : Heap DD)) (fun r => match r with | Sum.inl v16 => .ret | Sum.inr _ => .exit 0) (fun r => match r with | Sum.inl v16 => [(4, .v (.int .i64 v16))] | Sum.inr _ => [(4, .z)]) (fun r => match r with | Sum.inl v16 => [] | Sum.inr _ => []) := by
  refine loop_sound3 (fun s q h => ?_) (fun r => ?_)
  · replace h : palingref17_Other_L1 a1 a2 s = some q := h; revert h; revert s; intro v3 h
    unfold palingref17_Other_L1 at h
    rcases ite_out h with ⟨h4, h⟩ | ⟨h4, h⟩
    · obtain ⟨x5, h6, h⟩ := bind_out h
      rcases ite_out h with ⟨h7, h⟩ | ⟨h7, h⟩
      · obtain ⟨x8, h9, h⟩ := bind_out h
        injection h with h; subst h; exact runLp_sound mixedOrders (live := [4]) (ids := []) (π := [.dec true, .row (c88 x5), .dec true, .row (c88 x8)]) (hx := by kernel_rfl) (hps := pc (h4) <| pc (ob88 h6) <| pc (h7) <| pc (ob88 h9) <| pn)
      · obtain ⟨x10, h11, h⟩ := bind_out h
        rcases ite_out h with ⟨h12, h⟩ | ⟨h12, h⟩
        · obtain ⟨x13, h14, h⟩ := bind_out h
          injection h with h; subst h; exact runLp_sound mixedOrders (live := [4]) (ids := []) (π := [.dec true, .row (c88 x5), .dec false, .row (c88 x10), .dec true, .row (c88 x13)]) (hx := by kernel_rfl) (hps := pc (h4) <| pc (ob88 h6) <| pc (h7) <| pc (ob88 h11) <| pc (h12) <| pc (ob88 h14) <| pn)
        · injection h with h; subst h; exact runLp_sound mixedOrders (live := [1, 2, 4, 5]) (ids := [0]) (π := [.dec true, .row (c88 x5), .dec false, .row (c88 x10), .dec false]) (hx := by kernel_rfl) (hps := pc (h4) <| pc (ob88 h6) <| pc (h7) <| pc (ob88 h11) <| pc (h12) <| pn)
    · injection h with h; subst h; exact runLp_sound mixedOrders (live := [4]) (ids := []) (π := [.dec false]) (hx := by kernel_rfl) (hps := pc (h4) <| pn)
  · rcases r with _ | _ <;> exact Ex.noConfusion

theorem k_palingref17_Other {a1 : Api_Net} {a2 : Int} {r : Int} (h : palingref17_Other a1 a2 = some r) :
    CallsOK Try.prog UU 147 [.agg (c31 a1), .v (.int .i64 a2)] [] (.v (.int .i64 r)) [] := by
  unfold palingref17_Other at h
  obtain ⟨r18, h17, h⟩ := bind_out h
  rcases r18 with v16 | _
  · injection h with h; subst h; exact runFn_sound mixedOrders Try.func147 rfl (keep := none) (π := [.sum [1, 2, 4, 5] [0] .ret [(4, .v (.int .i64 v16))] []]) (hrun := by kernel_rfl) (hps := pc (k_palingref17_Other_L1 _ _ h17) <| pn)
  · injection h with h; subst h; exact runFn_sound mixedOrders Try.func147 rfl (keep := none) (π := [.sum [1, 2, 4, 5] [0] (.exit 0) [(4, .z)] []]) (hrun := by kernel_rfl) (hps := pc (k_palingref17_Other_L1 _ _ h17) <| pn)

theorem k_palingref17_Cross_J1 {a3 : Int} {r4 : Int} {x8 : Api_Port} {x10 : Api_Port} {r : Unit ⊕ Unit} (h : palingref17_Cross_J1 a3 r4 x8 x10 = some r) :
    ExecOK Try.prog UU 0 55 (subC (codeOf Try.f104) [1, 1, 1, 1, 0]) [(2, .v (.int .i64 a3)), (6, .z), (7, .z), (8, .v (.bool false)), (9, .v (.int .i64 r4)), (10, .op 0 1 0 0), (11, .op 1 1 0 0)] [.box 63 (c63 x8) false, .box 63 (c63 x10) false] ((fun r => match r with | Sum.inl _ => .ret | Sum.inr _ => .nor) r) ((fun r => match r with | Sum.inl _ => [(6, .v (.int .i64 r4)), (7, .v (.int .i64 x10.native)), (8, .v (.bool true))] | Sum.inr _ => [(2, .v (.int .i64 a3)), (6, .z), (7, .z), (8, .v (.bool false)), (9, .v (.int .i64 r4)), (10, .op 0 1 0 0), (11, .op 1 1 0 0)]) r) ((fun r => match r with | Sum.inl _ => [] | Sum.inr _ => [.box 63 (c63 x8) false, .box 63 (c63 x10) false]) r) := by
  unfold palingref17_Cross_J1 at h
  rcases ite_out h with ⟨h12, h⟩ | ⟨h12, h⟩
  · rcases ite_out h with ⟨h13, h⟩ | ⟨h13, h⟩
    · injection h with h; subst h; exact runLp_sound mixedOrders (live := [6, 7, 8]) (ids := []) (π := [.dec true, .dec true]) (hx := by kernel_rfl) (hps := pc (h12) <| pc (h13) <| pn)
    · injection h with h; subst h; exact runLp_sound mixedOrders (live := [2, 6, 7, 8, 9, 10, 11]) (ids := [0, 1]) (π := [.dec true, .dec false]) (hx := by kernel_rfl) (hps := pc (h12) <| pc (h13) <| pn)
  · injection h with h; subst h; exact runLp_sound mixedOrders (live := [2, 6, 7, 8, 9, 10, 11]) (ids := [0, 1]) (π := [.dec false]) (hx := by kernel_rfl) (hps := pc (h12) <| pn)

theorem k_palingref17_Cross {a1 : Api_Net} {a2 : Int} {a3 : Int} {r : Int × Int × Bool} (h : palingref17_Cross a1 a2 a3 = some r) :
    CallsOK Try.prog UU 104 [.agg (c31 a1), .v (.int .i64 a2), .v (.int .i64 a3)] [] (.tup [.v (.int .i64 r.1), .v (.int .i64 r.2.1), .v (.bool r.2.2)]) [] := by
  unfold palingref17_Cross at h
  obtain ⟨r4, h5, h⟩ := bind_out h
  rcases ite_out h with ⟨h6, h⟩ | ⟨h6, h⟩
  · injection h with h; subst h; exact runFn_sound mixedOrders Try.func104 rfl (keep := none) (π := [.callv (.v (.int .i64 r4)), .dec true]) (hrun := by kernel_rfl) (hps := pc (k_palingref17_Other h5) <| pc (h6) <| pn)
  · rcases ite_out h with ⟨h7, h⟩ | ⟨h7, h⟩
    · injection h with h; subst h; exact runFn_sound mixedOrders Try.func104 rfl (keep := none) (π := [.callv (.v (.int .i64 r4)), .dec false, .dec true]) (hrun := by kernel_rfl) (hps := pc (k_palingref17_Other h5) <| pc (h6) <| pc (h7) <| pn)
    · obtain ⟨x8, h9, h⟩ := bind_out h
      obtain ⟨x10, h11, h⟩ := bind_out h
      obtain ⟨r15, h14, h⟩ := bind_out h
      rcases r15 with _ | _
      · injection h with h; subst h; exact runFn_sound mixedOrders Try.func104 rfl (keep := none) (π := [.callv (.v (.int .i64 r4)), .dec false, .dec false, .row (c63 x8), .row (c63 x10), .cut [2, 6, 7, 8, 9, 10, 11] [1, 3] .ret [(6, .v (.int .i64 r4)), (7, .v (.int .i64 x10.native)), (8, .v (.bool true))] []]) (hrun := by kernel_rfl) (hps := pc (k_palingref17_Other h5) <| pc (h6) <| pc (h7) <| pc (ob63 h9) <| pc (ob63 h11) <| pc (k_palingref17_Cross_J1 h14) <| pn)
      · obtain ⟨r16, h17, h⟩ := bind_out h
        rcases ite_out h with ⟨h18, h⟩ | ⟨h18, h⟩
        · obtain ⟨r19, h20, h⟩ := bind_out h
          rcases ite_out h with ⟨h21, h⟩ | ⟨h21, h⟩
          · injection h with h; subst h; exact runFn_sound mixedOrders Try.func104 rfl (keep := none) (π := [.callv (.v (.int .i64 r4)), .dec false, .dec false, .row (c63 x8), .row (c63 x10), .cut [2, 6, 7, 8, 9, 10, 11] [1, 3] .nor [(2, .v (.int .i64 a3)), (6, .z), (7, .z), (8, .v (.bool false)), (9, .v (.int .i64 r4)), (10, .op 0 1 0 0), (11, .op 1 1 0 0)] [.box 63 (c63 x8) false, .box 63 (c63 x10) false], .callv (.v (.bool r16)), .dec true, .callv (.v (.bool r19)), .dec true]) (hrun := by kernel_rfl) (hps := pc (k_palingref17_Other h5) <| pc (h6) <| pc (h7) <| pc (ob63 h9) <| pc (ob63 h11) <| pc (k_palingref17_Cross_J1 h14) <| pc (k_palingref15_In h17) <| pc (h18) <| pc (k_palingref15_In h20) <| pc (h21) <| pn)
          · injection h with h; subst h; exact runFn_sound mixedOrders Try.func104 rfl (keep := none) (π := [.callv (.v (.int .i64 r4)), .dec false, .dec false, .row (c63 x8), .row (c63 x10), .cut [2, 6, 7, 8, 9, 10, 11] [1, 3] .nor [(2, .v (.int .i64 a3)), (6, .z), (7, .z), (8, .v (.bool false)), (9, .v (.int .i64 r4)), (10, .op 0 1 0 0), (11, .op 1 1 0 0)] [.box 63 (c63 x8) false, .box 63 (c63 x10) false], .callv (.v (.bool r16)), .dec true, .callv (.v (.bool r19)), .dec false]) (hrun := by kernel_rfl) (hps := pc (k_palingref17_Other h5) <| pc (h6) <| pc (h7) <| pc (ob63 h9) <| pc (ob63 h11) <| pc (k_palingref17_Cross_J1 h14) <| pc (k_palingref15_In h17) <| pc (h18) <| pc (k_palingref15_In h20) <| pc (h21) <| pn)
        · injection h with h; subst h; exact runFn_sound mixedOrders Try.func104 rfl (keep := none) (π := [.callv (.v (.int .i64 r4)), .dec false, .dec false, .row (c63 x8), .row (c63 x10), .cut [2, 6, 7, 8, 9, 10, 11] [1, 3] .nor [(2, .v (.int .i64 a3)), (6, .z), (7, .z), (8, .v (.bool false)), (9, .v (.int .i64 r4)), (10, .op 0 1 0 0), (11, .op 1 1 0 0)] [.box 63 (c63 x8) false, .box 63 (c63 x10) false], .callv (.v (.bool r16)), .dec false]) (hrun := by kernel_rfl) (hps := pc (k_palingref17_Other h5) <| pc (h6) <| pc (h7) <| pc (ob63 h9) <| pc (ob63 h11) <| pc (k_palingref17_Cross_J1 h14) <| pc (k_palingref15_In h17) <| pc (h18) <| pn)

theorem k_palingref17_Domain {a1 : Api_Net} {a2 : Int} {a3 : Int} {r : Int × Bool} (h : palingref17_Domain a1 a2 a3 = some r) :
    CallsOK Try.prog UU 41 [.agg (c31 a1), .v (.int .i64 a2), .v (.int .i64 a3)] [] (.tup [.v (.int .i64 r.1), .v (.bool r.2)]) [] := by
  unfold palingref17_Domain at h
  obtain ⟨r4, h5, h⟩ := bind_out h
  rcases ite_out h with ⟨h6, h⟩ | ⟨h6, h⟩
  · injection h with h; subst h; exact runFn_sound mixedOrders Try.func41 rfl (keep := none) (π := [.callv (.tup [.v (.int .i64 r4.1), .v (.int .i64 r4.2.1), .v (.bool r4.2.2)]), .dec true]) (hrun := by kernel_rfl) (hps := pc (k_palingref17_Cross h5) <| pc (h6) <| pn)
  · obtain ⟨x7, h8, h⟩ := bind_out h
    obtain ⟨r9, h10, h⟩ := bind_out h
    injection h with h; subst h; exact runFn_sound mixedOrders Try.func41 rfl (keep := none) (π := [.callv (.tup [.v (.int .i64 r4.1), .v (.int .i64 r4.2.1), .v (.bool r4.2.2)]), .dec false, .row (c63 x7), .callv (.v (.int .i64 r9))]) (hrun := by kernel_rfl) (hps := pc (k_palingref17_Cross h5) <| pc (h6) <| pc (ob63 h8) <| pc (k_palingref15_At h10) <| pn)

theorem k_palingref35_Hops_L1 {a1 : Api_Net} {a2 : Int} {l5 : List Int} : LoopOK Try.prog UU 0 70 (subC (codeOf Try.f16) [1, 1, 1, 0, 1, 0, 0]) (fun s : (List Palingref35_Hop) × Int => match s with | (l6, v7) => palingref35_Hops_L1 a1 a2 l5 l6 v7)
    (fun s : (List Palingref35_Hop) × Int => (match s with | (l6, v7) => [(1, .v (.int .i64 a2)), (2, .op 0 1 0 0), (4, .os 1 0), (5, .os 2 (List.length l6)), (6, .os 3 (List.length l5)), (7, .v (.int .i64 v7))] : Fr DD)) (fun s : (List Palingref35_Hop) × Int => (match s with | (l6, v7) => [.box 31 (c31 a1) false, .n 96, .arr 96 l6 (List.length l6) false, .arr 3 l5 (List.length l5) false] : Heap DD)) (fun r => match r with | l24 => .exit 0) (fun r => match r with | l24 => [(1, .v (.int .i64 a2)), (2, .op 0 1 0 0), (4, .os 1 0), (5, .os 2 (List.length l24))]) (fun r => match r with | l24 => [.box 31 (c31 a1) false, .n 96, .arr 96 l24 (List.length l24) false]) := by
  refine loop_sound3 (fun s q h => ?_) (fun r => ?_)
  · obtain ⟨l6, v7⟩ := s; replace h : palingref35_Hops_L1 a1 a2 l5 l6 v7 = some q := h
    unfold palingref35_Hops_L1 at h
    rcases ite_out h with ⟨h8, h⟩ | ⟨h8, h⟩
    · rcases ite_out h with ⟨h9, h⟩ | ⟨h9, h⟩
      · obtain ⟨x10, h11, h⟩ := bind_out h
        obtain ⟨x12, h13, h⟩ := bind_out h
        obtain ⟨r14, h15, h⟩ := bind_out h
        rcases ite_out h with ⟨h16, h⟩ | ⟨h16, h⟩
        · obtain ⟨x17, h18, h⟩ := bind_out h
          rcases ite_out h with ⟨h19, h⟩ | ⟨h19, h⟩
          · injection h with h; subst h; exact runLp_sound mixedOrders (live := [1, 2, 4, 5, 6, 7]) (ids := [0, 1, 2, 3]) (π := [.dec true, .row (c3 x10), .row (c65 x12), .callv (.tup [.v (.int .i64 r14.1), .v (.bool r14.2)]), .dec true, .row (c3 x17), .obj [] (.arr 96 [(⟨1, x17, r14.1, 0⟩ : Palingref35_Hop)] (List.length [(⟨1, x17, r14.1, 0⟩ : Palingref35_Hop)]) false), .obj [] (.arr 96 (l6 ++ [(⟨1, x17, r14.1, 0⟩ : Palingref35_Hop)]) (List.length (l6 ++ [(⟨1, x17, r14.1, 0⟩ : Palingref35_Hop)])) false)]) (hx := by kernel_rfl) (hps := pc ((rfl : ((List.length l5) : Nat) = (List.length l5))) <| pc (h8) <| pc (And.intro (rfl : ((List.length l5) : Nat) = (List.length l5)) (lin_ob h9)) <| pc (And.intro (rfl : ((List.length l5) : Nat) = (List.length l5)) (obn3 h11)) <| pc (ob65 h13) <| pc (k_palingref17_Domain h15) <| pc (h16) <| pc (And.intro (rfl : ((List.length l5) : Nat) = (List.length l5)) (lin_ob h9)) <| pc (And.intro (rfl : ((List.length l5) : Nat) = (List.length l5)) (obn3 h18)) <| pc (bs_ob 96 [(⟨1, x17, r14.1, 0⟩ : Palingref35_Hop)]) <| pc (app_ob 96 (n := (List.length l6)) (l := l6) (xs := [(⟨1, x17, r14.1, 0⟩ : Palingref35_Hop)]) h19) <| pc ((rfl : ((List.length [(⟨1, x17, r14.1, 0⟩ : Palingref35_Hop)]) : Nat) = (List.length [(⟨1, x17, r14.1, 0⟩ : Palingref35_Hop)]))) <| pn)
          · cases h
        · injection h with h; subst h; exact runLp_sound mixedOrders (live := [1, 2, 4, 5, 6, 7]) (ids := [0, 1, 2, 3]) (π := [.dec true, .row (c3 x10), .row (c65 x12), .callv (.tup [.v (.int .i64 r14.1), .v (.bool r14.2)]), .dec false]) (hx := by kernel_rfl) (hps := pc ((rfl : ((List.length l5) : Nat) = (List.length l5))) <| pc (h8) <| pc (And.intro (rfl : ((List.length l5) : Nat) = (List.length l5)) (lin_ob h9)) <| pc (And.intro (rfl : ((List.length l5) : Nat) = (List.length l5)) (obn3 h11)) <| pc (ob65 h13) <| pc (k_palingref17_Domain h15) <| pc (h16) <| pn)
      · cases h
    · injection h with h; subst h; exact runLp_sound mixedOrders (live := [1, 2, 4, 5]) (ids := [0, 1, 2]) (π := [.dec false]) (hx := by kernel_rfl) (hps := pc ((rfl : ((List.length l5) : Nat) = (List.length l5))) <| pc (h8) <| pn)
  · exact Ex.noConfusion

theorem k_palingref35_Hops_L2 {a1 : Api_Net} {a2 : Int} : LoopOK Try.prog UU 0 70 (subC (codeOf Try.f16) [1, 1, 1, 1, 0, 1, 0, 0]) (fun s : (List Palingref35_Hop) × Int => match s with | (l27, v28) => palingref35_Hops_L2 a1 a2 l27 v28)
    (fun s : (List Palingref35_Hop) × Int => (match s with | (l27, v28) => [(1, .v (.int .i64 a2)), (2, .op 0 1 0 0), (4, .os 1 0), (5, .os 2 (List.length l27)), (10, .v (.int .i64 v28))] : Fr DD)) (fun s : (List Palingref35_Hop) × Int => (match s with | (l27, v28) => [.box 31 (c31 a1) false, .n 96, .arr 96 l27 (List.length l27) false] : Heap DD)) (fun r => match r with | l39 => .exit 2) (fun r => match r with | l39 => [(4, .os 0 0), (5, .os 1 (List.length l39))]) (fun r => match r with | l39 => [.n 96, .arr 96 l39 (List.length l39) false]) := by
  refine loop_sound3 (fun s q h => ?_) (fun r => ?_)
  · obtain ⟨l27, v28⟩ := s; replace h : palingref35_Hops_L2 a1 a2 l27 v28 = some q := h
    unfold palingref35_Hops_L2 at h
    obtain ⟨x29, h30, h⟩ := bind_out h
    rcases ite_out h with ⟨h31, h⟩ | ⟨h31, h⟩
    · obtain ⟨x32, h33, h⟩ := bind_out h
      obtain ⟨x34, h35, h⟩ := bind_out h
      rcases ite_out h with ⟨h36, h⟩ | ⟨h36, h⟩
      · injection h with h; subst h; exact runLp_sound mixedOrders (live := [1, 2, 4, 5, 10]) (ids := [0, 1, 2]) (π := [.row (c65 x29), .dec true, .row (c65 x32), .row (c3 x34), .obj [] (.arr 96 [(⟨2, 0, x34, 0⟩ : Palingref35_Hop)] (List.length [(⟨2, 0, x34, 0⟩ : Palingref35_Hop)]) false), .obj [] (.arr 96 (l27 ++ [(⟨2, 0, x34, 0⟩ : Palingref35_Hop)]) (List.length (l27 ++ [(⟨2, 0, x34, 0⟩ : Palingref35_Hop)])) false)]) (hx := by kernel_rfl) (hps := pc (ob65 h30) <| pc (h31) <| pc (ob65 h33) <| pc (ob3 h35) <| pc (bs_ob 96 [(⟨2, 0, x34, 0⟩ : Palingref35_Hop)]) <| pc (app_ob 96 (n := (List.length l27)) (l := l27) (xs := [(⟨2, 0, x34, 0⟩ : Palingref35_Hop)]) h36) <| pc ((rfl : ((List.length [(⟨2, 0, x34, 0⟩ : Palingref35_Hop)]) : Nat) = (List.length [(⟨2, 0, x34, 0⟩ : Palingref35_Hop)]))) <| pn)
      · cases h
    · injection h with h; subst h; exact runLp_sound mixedOrders (live := [4, 5]) (ids := [1, 2]) (π := [.row (c65 x29), .dec false]) (hx := by kernel_rfl) (hps := pc (ob65 h30) <| pc (h31) <| pn)
  · exact Ex.noConfusion

theorem k_palingref35_Hops {a1 : Api_Net} {a2 : Int} {r : ((List Palingref35_Hop))} (h : palingref35_Hops a1 a2 = some r) :
    CallsOK Try.prog UU 16 [.agg (c31 a1), .v (.int .i64 a2)] [] ((fun r => match r with | l42 => .os 0 (List.length l42)) r) ((fun r => match r with | l42 => [.arr 96 l42 (List.length l42) false]) r) := by
  unfold palingref35_Hops at h
  obtain ⟨l5, h4, h⟩ := bind_out h
  obtain ⟨l24, h25, h⟩ := bind_out h
  obtain ⟨l39, h40, h⟩ := bind_out h
  injection h with h; subst h; exact runFn_sound mixedOrders Try.func16 rfl (keep := some [1]) (π := [.callo (.os 0 (List.length l5)) [.arr 3 l5 (List.length l5) false], .sum [1, 2, 4, 5, 6, 7] [0, 1, 2, 3] (.exit 0) [(1, .v (.int .i64 a2)), (2, .op 0 1 0 0), (4, .os 1 0), (5, .os 2 (List.length l24))] [.box 31 (c31 a1) false, .n 96, .arr 96 l24 (List.length l24) false], .sum [1, 2, 4, 5, 10] [0, 1, 2] (.exit 2) [(4, .os 0 0), (5, .os 1 (List.length l39))] [.n 96, .arr 96 l39 (List.length l39) false]]) (hrun := by kernel_rfl) (hps := pc (k_palingref15_Members h4) <| pc (im3 l5) <| pc (k_palingref35_Hops_L1 _ _ h25) <| pc (k_palingref35_Hops_L2 _ _ h40) <| pn)

theorem k_palingref35_Path_L2 {a1 : Api_Net} {a3 : Int} {v7 : Int} {l14 : List Palingref35_Hop} : LoopOK Try.prog UU 0 86 (subC (codeOf Try.f20) [1, 1, 1, 1, 0, 1, 0, 0, 1, 0, 0, 1, 1, 0, 0]) (fun s : (List (List Palingref35_Hop)) × (List Int) × Int => match s with | (l15, l16, v17) => palingref35_Path_L2 a1 a3 v7 l14 l15 l16 v17)
    (fun s : (List (List Palingref35_Hop)) × (List Int) × Int => (match s with | (l15, l16, v17) => [(2, .v (.int .i64 a3)), (3, .op 0 1 0 0), (6, .os 1 0), (7, .v (.bool false)), (8, .os 2 (List.length l15)), (9, .os 3 (List.length l16)), (10, .v (.int .i64 v7)), (11, .os 4 (List.length l14)), (12, .v (.int .i64 v17))] : Fr DD)) (fun s : (List (List Palingref35_Hop)) × (List Int) × Int => (match s with | (l15, l16, v17) => [.box 31 (c31 a1) false, .n 96, .arr 40 l15 (List.length l15) false, .arr 3 l16 (List.length l16) false, .arr 96 l14 (List.length l14) false] : Heap DD)) (fun r => match r with | (l50, l51) => .exit 2) (fun r => match r with | (l50, l51) => [(2, .v (.int .i64 a3)), (3, .op 0 1 0 0), (6, .os 1 0), (7, .v (.bool false)), (8, .os 2 (List.length l50)), (9, .os 3 (List.length l51)), (10, .v (.int .i64 v7))]) (fun r => match r with | (l50, l51) => [.box 31 (c31 a1) false, .n 96, .arr 40 l50 (List.length l50) false, .arr 3 l51 (List.length l51) false]) := by
  refine loop_sound3 (fun s q h => ?_) (fun r => ?_)
  · obtain ⟨l15, l16, v17⟩ := s; replace h : palingref35_Path_L2 a1 a3 v7 l14 l15 l16 v17 = some q := h
    unfold palingref35_Path_L2 at h
    rcases ite_out h with ⟨h18, h⟩ | ⟨h18, h⟩
    · rcases ite_out h with ⟨h19, h⟩ | ⟨h19, h⟩
      · obtain ⟨x20, h21, h⟩ := bind_out h
        obtain ⟨r22, h23, h⟩ := bind_out h
        rcases ite_out h with ⟨h24, h⟩ | ⟨h24, h⟩
        · injection h with h; subst h; exact runLp_sound mixedOrders (live := [2, 3, 6, 7, 8, 9, 10, 11, 12]) (ids := [0, 1, 2, 3, 4]) (π := [.dec true, .row (c96 x20), .callv (.v (.bool r22)), .dec true]) (hx := by kernel_rfl) (hps := pc ((rfl : ((List.length l14) : Nat) = (List.length l14))) <| pc (h18) <| pc (And.intro (rfl : ((List.length l14) : Nat) = (List.length l14)) (lin_ob h19)) <| pc ((rfl : ((List.length l14) : Nat) = (List.length l14))) <| pc (And.intro (rfl : ((List.length l14) : Nat) = (List.length l14)) (obn96 h21)) <| pc (k_palingref15_In h23) <| pc ((rfl : ((List.length l16) : Nat) = (List.length l16))) <| pc (h24) <| pn)
        · obtain ⟨x25, h26, h⟩ := bind_out h
          rcases ite_out h with ⟨h27, h⟩ | ⟨h27, h⟩
          · rcases ite_out h with ⟨h28, h⟩ | ⟨h28, h⟩
            · obtain ⟨x29, h30, h⟩ := bind_out h
              rcases ite_out h with ⟨h31, h⟩ | ⟨h31, h⟩
              · obtain ⟨x32, h33, h⟩ := bind_out h
                rcases ite_out h with ⟨h34, h⟩ | ⟨h34, h⟩
                · rcases ite_out h with ⟨h35, h⟩ | ⟨h35, h⟩
                  · injection h with h; subst h; exact runLp_sound mixedOrders (live := [2, 3, 6, 7, 8, 9, 10, 11, 12]) (ids := [0, 1, 2, 3, 4]) (π := [.dec true, .row (c96 x20), .callv (.v (.bool r22)), .dec false, .row (c96 x25), .obj [] (.arr 3 [x25.domain] (List.length [x25.domain]) false), .obj [] (.arr 3 (l16 ++ [x25.domain]) (List.length (l16 ++ [x25.domain])) false), .sum [1] [] .nor [] [.box 31 (c31 a1) false, .n 96, .arr 40 l15 (List.length l15) false, .arr 3 (l16 ++ [x25.domain]) (List.length (l16 ++ [x25.domain])) false, .arr 96 l14 (List.length l14) false, .arr 3 [x25.domain] (List.length [x25.domain]) false, .n 96], .sum [6] [] .nor [] [.box 31 (c31 a1) false, .n 96, .arr 40 l15 (List.length l15) false, .arr 3 (l16 ++ [x25.domain]) (List.length (l16 ++ [x25.domain])) false, .arr 96 l14 (List.length l14) false, .arr 3 [x25.domain] (List.length [x25.domain]) false, .arr 96 x29 (List.length x29) false], .sum [12] [] .nor [] [.box 31 (c31 a1) false, .n 96, .arr 40 l15 (List.length l15) false, .arr 3 (l16 ++ [x25.domain]) (List.length (l16 ++ [x25.domain])) false, .arr 96 l14 (List.length l14) false, .arr 3 [x25.domain] (List.length [x25.domain]) false, .arr 96 (x29 ++ [x32]) (List.length (x29 ++ [x32])) false], .sum [13] [] .nor [] [.box 31 (c31 a1) false, .n 96, .arr 40 l15 (List.length l15) false, .arr 3 (l16 ++ [x25.domain]) (List.length (l16 ++ [x25.domain])) false, .arr 96 l14 (List.length l14) false, .arr 3 [x25.domain] (List.length [x25.domain]) false, .arr 96 (x29 ++ [x32]) (List.length (x29 ++ [x32])) true, .arr 40 [x29 ++ [x32]] (List.length [x29 ++ [x32]]) false], .obj [] (.n 96), .row (c40 x29), .obj [] (.arr 96 (x29) (List.length x29) false), .row (c96 x32), .obj [] (.arr 96 [x32] (List.length [x32]) false), .obj [] (.arr 96 (x29 ++ [x32]) (List.length (x29 ++ [x32])) false), .obj [6] (.arr 40 [x29 ++ [x32]] (List.length [x29 ++ [x32]]) false), .obj [] (.arr 40 (l15 ++ [x29 ++ [x32]]) (List.length (l15 ++ [x29 ++ [x32]])) false)]) (hx := by kernel_rfl) (hps := pc ((rfl : ((List.length l14) : Nat) = (List.length l14))) <| pc (h18) <| pc (And.intro (rfl : ((List.length l14) : Nat) = (List.length l14)) (lin_ob h19)) <| pc ((rfl : ((List.length l14) : Nat) = (List.length l14))) <| pc (And.intro (rfl : ((List.length l14) : Nat) = (List.length l14)) (obn96 h21)) <| pc (k_palingref15_In h23) <| pc ((rfl : ((List.length l16) : Nat) = (List.length l16))) <| pc (h24) <| pc (And.intro (rfl : ((List.length l14) : Nat) = (List.length l14)) (lin_ob h19)) <| pc ((rfl : ((List.length l14) : Nat) = (List.length l14))) <| pc (And.intro (rfl : ((List.length l14) : Nat) = (List.length l14)) (obn96 h26)) <| pc (bs_ob 3 [x25.domain]) <| pc (app_ob 3 (n := (List.length l16)) (l := l16) (xs := [x25.domain]) h27) <| pc ((rfl : ((List.length [x25.domain]) : Nat) = (List.length [x25.domain]))) <| pc ((rfl : (.os 2 (List.length l15) : AV DD) = .os 2 (List.length l15))) <| pc ((rfl : (.os 2 (List.length l15) : AV DD) = .os 2 (List.length l15))) <| pc ((rfl : (.os 2 (List.length l15) : AV DD) = .os 2 (List.length l15))) <| pc ((rfl : (.os 2 (List.length l15) : AV DD) = .os 2 (List.length l15))) <| pc ((rfl : ([.box 31 (c31 a1) false, .n 96, .arr 40 l15 (List.length l15) false, .arr 3 (l16 ++ [x25.domain]) (List.length (l16 ++ [x25.domain])) false, .arr 96 l14 (List.length l14) false, .arr 3 [x25.domain] (List.length [x25.domain]) false, .n 96] : Heap DD) = [.box 31 (c31 a1) false, .n 96, .arr 40 l15 (List.length l15) false, .arr 3 (l16 ++ [x25.domain]) (List.length (l16 ++ [x25.domain])) false, .arr 96 l14 (List.length l14) false, .arr 3 [x25.domain] (List.length [x25.domain]) false, .n 96])) <| pc (bs_ob 96 []) <| pc ((rfl : (.os 2 (List.length l15) : AV DD) = .os 2 (List.length l15))) <| pc ((rfl : (.v (.int .i64 v7) : AV DD) = .v (.int .i64 v7))) <| pc (And.intro (rfl : ((List.length l15) : Nat) = (List.length l15)) (lin_ob h28)) <| pc (And.intro (rfl : ((List.length l15) : Nat) = (List.length l15)) (lin_ob h28)) <| pc ((rfl : (.op 2 (List.length l15) (Int.toNat v7) 0 : AV DD) = .op 2 (List.length l15) (Int.toNat v7) 0)) <| pc (And.intro (rfl : ((List.length l15) : Nat) = (List.length l15)) (obn40 h30)) <| pc (And.intro (rfl : ((List.length l15) : Nat) = (List.length l15)) (obn40 h30)) <| pc ((rfl : (.sl 96 x29 : AV DD) = .sl 96 x29)) <| pc ((rfl : ([.box 31 (c31 a1) false, .n 96, .arr 40 l15 (List.length l15) false, .arr 3 (l16 ++ [x25.domain]) (List.length (l16 ++ [x25.domain])) false, .arr 96 l14 (List.length l14) false, .arr 3 [x25.domain] (List.length [x25.domain]) false, .arr 96 x29 (List.length x29) false] : Heap DD) = [.box 31 (c31 a1) false, .n 96, .arr 40 l15 (List.length l15) false, .arr 3 (l16 ++ [x25.domain]) (List.length (l16 ++ [x25.domain])) false, .arr 96 l14 (List.length l14) false, .arr 3 [x25.domain] (List.length [x25.domain]) false, .arr 96 x29 (List.length x29) false])) <| pc (app_ob 96 (n := 0) (l := []) (xs := x29) h31) <| pc ((rfl : (.os 4 (List.length l14) : AV DD) = .os 4 (List.length l14))) <| pc ((rfl : (.os 4 (List.length l14) : AV DD) = .os 4 (List.length l14))) <| pc ((rfl : (.v (.int .i64 v17) : AV DD) = .v (.int .i64 v17))) <| pc ((rfl : (.v (.int .i64 v17) : AV DD) = .v (.int .i64 v17))) <| pc (And.intro (rfl : ((List.length l14) : Nat) = (List.length l14)) (lin_ob h19)) <| pc (And.intro (rfl : ((List.length l14) : Nat) = (List.length l14)) (lin_ob h19)) <| pc ((rfl : (.op 4 (List.length l14) (Int.toNat v17) 0 : AV DD) = .op 4 (List.length l14) (Int.toNat v17) 0)) <| pc (And.intro (rfl : ((List.length l14) : Nat) = (List.length l14)) (lin_ob h19)) <| pc ((rfl : (.op 4 (List.length l14) (Int.toNat v17) 0 : AV DD) = .op 4 (List.length l14) (Int.toNat v17) 0)) <| pc (And.intro (rfl : ((List.length l14) : Nat) = (List.length l14)) (obn96 h33)) <| pc (And.intro (rfl : ((List.length l14) : Nat) = (List.length l14)) (obn96 h33)) <| pc ((rfl : (.agg (c96 x32) : AV DD) = .agg (c96 x32))) <| pc (And.intro (rfl : ((List.length l14) : Nat) = (List.length l14)) (obn96 h33)) <| pc ((rfl : (.agg (c96 x32) : AV DD) = .agg (c96 x32))) <| pc (bs_ob 96 [x32]) <| pc (bs_ob 96 [x32]) <| pc ((rfl : (.sl 96 [x32] : AV DD) = .sl 96 [x32])) <| pc (bs_ob 96 [x32]) <| pc ((rfl : (.sl 96 [x32] : AV DD) = .sl 96 [x32])) <| pc ((rfl : ([.box 31 (c31 a1) false, .n 96, .arr 40 l15 (List.length l15) false, .arr 3 (l16 ++ [x25.domain]) (List.length (l16 ++ [x25.domain])) false, .arr 96 l14 (List.length l14) false, .arr 3 [x25.domain] (List.length [x25.domain]) false, .arr 96 (x29 ++ [x32]) (List.length (x29 ++ [x32])) false] : Heap DD) = [.box 31 (c31 a1) false, .n 96, .arr 40 l15 (List.length l15) false, .arr 3 (l16 ++ [x25.domain]) (List.length (l16 ++ [x25.domain])) false, .arr 96 l14 (List.length l14) false, .arr 3 [x25.domain] (List.length [x25.domain]) false, .arr 96 (x29 ++ [x32]) (List.length (x29 ++ [x32])) false])) <| pc (app_ob 96 (n := (List.length x29)) (l := x29) (xs := [x32]) h34) <| pc ((rfl : ([.box 31 (c31 a1) false, .n 96, .arr 40 l15 (List.length l15) false, .arr 3 (l16 ++ [x25.domain]) (List.length (l16 ++ [x25.domain])) false, .arr 96 l14 (List.length l14) false, .arr 3 [x25.domain] (List.length [x25.domain]) false, .arr 96 (x29 ++ [x32]) (List.length (x29 ++ [x32])) true, .arr 40 [x29 ++ [x32]] (List.length [x29 ++ [x32]]) false] : Heap DD) = [.box 31 (c31 a1) false, .n 96, .arr 40 l15 (List.length l15) false, .arr 3 (l16 ++ [x25.domain]) (List.length (l16 ++ [x25.domain])) false, .arr 96 l14 (List.length l14) false, .arr 3 [x25.domain] (List.length [x25.domain]) false, .arr 96 (x29 ++ [x32]) (List.length (x29 ++ [x32])) true, .arr 40 [x29 ++ [x32]] (List.length [x29 ++ [x32]]) false])) <| pc (bs_ob 40 [x29 ++ [x32]]) <| pc ((rfl : ((List.length (x29 ++ [x32])) : Nat) = (List.length (x29 ++ [x32])))) <| pc (app_ob 40 (n := (List.length l15)) (l := l15) (xs := [x29 ++ [x32]]) h35) <| pc ((rfl : ((List.length [x29 ++ [x32]]) : Nat) = (List.length [x29 ++ [x32]]))) <| pn)
                  · cases h
                · cases h
              · cases h
            · cases h
          · cases h
      · cases h
    · injection h with h; subst h; exact runLp_sound mixedOrders (live := [2, 3, 6, 7, 8, 9, 10]) (ids := [0, 1, 2, 3]) (π := [.dec false]) (hx := by kernel_rfl) (hps := pc ((rfl : ((List.length l14) : Nat) = (List.length l14))) <| pc (h18) <| pn)
  · exact Ex.noConfusion

theorem k_palingref35_Path_L1 {a1 : Api_Net} {a3 : Int} : LoopOK Try.prog UU 0 86 (subC (codeOf Try.f20) [1, 1, 1, 1, 0, 1, 0, 0]) (fun s : (List (List Palingref35_Hop)) × (List Int) × Int => match s with | (l5, l6, v7) => palingref35_Path_L1 a1 a3 l5 l6 v7)
    (fun s : (List (List Palingref35_Hop)) × (List Int) × Int => (match s with | (l5, l6, v7) => [(2, .v (.int .i64 a3)), (3, .op 0 1 0 0), (6, .os 1 0), (7, .v (.bool false)), (8, .os 2 (List.length l5)), (9, .os 3 (List.length l6)), (10, .v (.int .i64 v7))] : Fr DD)) (fun s : (List (List Palingref35_Hop)) × (List Int) × Int => (match s with | (l5, l6, v7) => [.box 31 (c31 a1) false, .n 96, .arr 40 l5 (List.length l5) false, .arr 3 l6 (List.length l6) false] : Heap DD)) (fun r => match r with | (l64, l65) => .exit 0) (fun r => match r with | (l64, l65) => [(2, .v (.int .i64 a3)), (6, .os 0 0), (7, .v (.bool false)), (8, .os 1 (List.length l64)), (9, .os 2 (List.length l65))]) (fun r => match r with | (l64, l65) => [.n 96, .arr 40 l64 (List.length l64) false, .arr 3 l65 (List.length l65) false]) := by
  refine loop_sound3 (fun s q h => ?_) (fun r => ?_)
  · obtain ⟨l5, l6, v7⟩ := s; replace h : palingref35_Path_L1 a1 a3 l5 l6 v7 = some q := h
    unfold palingref35_Path_L1 at h
    rcases ite_out h with ⟨h8, h⟩ | ⟨h8, h⟩
    · rcases ite_out h with ⟨h9, h⟩ | ⟨h9, h⟩
      · obtain ⟨x10, h11, h⟩ := bind_out h
        obtain ⟨l14, h13, h⟩ := bind_out h
        obtain ⟨r53, h52, h⟩ := bind_out h
        obtain ⟨l50, l51⟩ := r53
        injection h with h; subst h; exact runLp_sound mixedOrders (live := [2, 3, 6, 7, 8, 9, 10]) (ids := [0, 1, 2, 3]) (π := [.dec true, .row (c3 x10), .callo (.os 0 (List.length l14)) [.arr 96 l14 (List.length l14) false], .sum [2, 3, 6, 7, 8, 9, 10, 11, 12] [0, 1, 2, 3, 4] (.exit 2) [(2, .v (.int .i64 a3)), (3, .op 0 1 0 0), (6, .os 1 0), (7, .v (.bool false)), (8, .os 2 (List.length l50)), (9, .os 3 (List.length l51)), (10, .v (.int .i64 v7))] [.box 31 (c31 a1) false, .n 96, .arr 40 l50 (List.length l50) false, .arr 3 l51 (List.length l51) false]]) (hx := by kernel_rfl) (hps := pc ((rfl : ((List.length l6) : Nat) = (List.length l6))) <| pc (h8) <| pc (And.intro (rfl : ((List.length l6) : Nat) = (List.length l6)) (lin_ob h9)) <| pc (And.intro (rfl : ((List.length l6) : Nat) = (List.length l6)) (obn3 h11)) <| pc (k_palingref35_Hops h13) <| pc (im96 l14) <| pc (k_palingref35_Path_L2 _ _ h52) <| pn)
      · cases h
    · injection h with h; subst h; exact runLp_sound mixedOrders (live := [2, 6, 7, 8, 9]) (ids := [1, 2, 3]) (π := [.dec false]) (hx := by kernel_rfl) (hps := pc ((rfl : ((List.length l6) : Nat) = (List.length l6))) <| pc (h8) <| pn)
  · exact Ex.noConfusion

theorem k_palingref35_Path_L3 {a3 : Int} {l64 : List (List Palingref35_Hop)} {l65 : List Int} : LoopOK Try.prog UU 0 86 (subC (codeOf Try.f20) [1, 1, 1, 1, 1, 0, 1, 0, 0]) (ρ := (List Palingref35_Hop) ⊕ Unit) (palingref35_Path_L3 a3 l64 l65)
    (fun v68 : Int => ([(2, .v (.int .i64 a3)), (6, .os 0 0), (7, .v (.bool false)), (8, .os 1 (List.length l64)), (9, .os 2 (List.length l65)), (13, .v (.int .i64 v68))] : Fr DD)) (fun v68 : Int => ([.n 96, .arr 40 l64 (List.length l64) false, .arr 3 l65 (List.length l65) false] : Heap DD)) (fun r => match r with | Sum.inl l78 => .ret | Sum.inr _ => .exit 4) (fun r => match r with | Sum.inl l78 => [(6, .sl 96 l78), (7, .v (.bool true))] | Sum.inr _ => [(6, .os 0 0), (7, .v (.bool false))]) (fun r => match r with | Sum.inl l78 => [] | Sum.inr _ => [.n 96]) := by
  refine loop_sound3 (fun s q h => ?_) (fun r => ?_)
  · replace h : palingref35_Path_L3 a3 l64 l65 s = some q := h; revert h; revert s; intro v68 h
    unfold palingref35_Path_L3 at h
    rcases ite_out h with ⟨h69, h⟩ | ⟨h69, h⟩
    · rcases ite_out h with ⟨h70, h⟩ | ⟨h70, h⟩
      · obtain ⟨x71, h72, h⟩ := bind_out h
        rcases ite_out h with ⟨h73, h⟩ | ⟨h73, h⟩
        · rcases ite_out h with ⟨h74, h⟩ | ⟨h74, h⟩
          · obtain ⟨x75, h76, h⟩ := bind_out h
            injection h with h; subst h; exact runLp_sound mixedOrders (live := [6, 7]) (ids := []) (π := [.dec true, .row (c3 x71), .dec true, .row (c40 x75)]) (hx := by kernel_rfl) (hps := pc ((rfl : ((List.length l65) : Nat) = (List.length l65))) <| pc (h69) <| pc (And.intro (rfl : ((List.length l65) : Nat) = (List.length l65)) (lin_ob h70)) <| pc (And.intro (rfl : ((List.length l65) : Nat) = (List.length l65)) (obn3 h72)) <| pc (h73) <| pc (And.intro (rfl : ((List.length l64) : Nat) = (List.length l64)) (lin_ob h74)) <| pc (And.intro (rfl : ((List.length l64) : Nat) = (List.length l64)) (obn40 h76)) <| pn)
          · cases h
        · injection h with h; subst h; exact runLp_sound mixedOrders (live := [2, 6, 7, 8, 9, 13]) (ids := [0, 1, 2]) (π := [.dec true, .row (c3 x71), .dec false]) (hx := by kernel_rfl) (hps := pc ((rfl : ((List.length l65) : Nat) = (List.length l65))) <| pc (h69) <| pc (And.intro (rfl : ((List.length l65) : Nat) = (List.length l65)) (lin_ob h70)) <| pc (And.intro (rfl : ((List.length l65) : Nat) = (List.length l65)) (obn3 h72)) <| pc (h73) <| pn)
      · cases h
    · injection h with h; subst h; exact runLp_sound mixedOrders (live := [6, 7]) (ids := [0]) (π := [.dec false]) (hx := by kernel_rfl) (hps := pc ((rfl : ((List.length l65) : Nat) = (List.length l65))) <| pc (h69) <| pn)
  · rcases r with _ | _ <;> exact Ex.noConfusion

theorem k_palingref35_Path {a1 : Api_Net} {a2 : Int} {a3 : Int} {r : ((List Palingref35_Hop) × Bool)} (h : palingref35_Path a1 a2 a3 = some r) :
    CallsOK Try.prog UU 20 [.agg (c31 a1), .v (.int .i64 a2), .v (.int .i64 a3)] [] ((fun r => match r with | (r81, r82) => .tup [.sl 96 r81, .v (.bool r82)]) r) ((fun r => match r with | (r81, r82) => []) r) := by
  unfold palingref35_Path at h
  rcases ite_out h with ⟨h4, h⟩ | ⟨h4, h⟩
  · obtain ⟨r67, h66, h⟩ := bind_out h
    obtain ⟨l64, l65⟩ := r67
    obtain ⟨r80, h79, h⟩ := bind_out h
    rcases r80 with l78 | _
    · injection h with h; subst h; exact runFz_sound mixedOrders Try.func20 rfl (ids := []) (fz := []) (π := [.obj [] (.arr 96 [(⟨0, 0, a2, 0⟩ : Palingref35_Hop)] (List.length [(⟨0, 0, a2, 0⟩ : Palingref35_Hop)]) false), .obj [2] (.arr 40 [[(⟨0, 0, a2, 0⟩ : Palingref35_Hop)]] (List.length [[(⟨0, 0, a2, 0⟩ : Palingref35_Hop)]]) false), .obj [] (.arr 3 [a2] (List.length [a2]) false), .obj [] (.arr 3 ([a2]) (List.length [a2]) false), .sum [2, 3, 6, 7, 8, 9, 10] [0, 1, 3, 4] (.exit 0) [(2, .v (.int .i64 a3)), (6, .os 0 0), (7, .v (.bool false)), (8, .os 1 (List.length l64)), (9, .os 2 (List.length l65))] [.n 96, .arr 40 l64 (List.length l64) false, .arr 3 l65 (List.length l65) false], .sum [2, 6, 7, 8, 9, 13] [0, 1, 2] .ret [(6, .sl 96 l78), (7, .v (.bool true))] []]) (hrun := by kernel_rfl) (hps := pc (bs_ob 96 [(⟨0, 0, a2, 0⟩ : Palingref35_Hop)]) <| pc (bs_ob 40 [[(⟨0, 0, a2, 0⟩ : Palingref35_Hop)]]) <| pc ((rfl : ((List.length [(⟨0, 0, a2, 0⟩ : Palingref35_Hop)]) : Nat) = (List.length [(⟨0, 0, a2, 0⟩ : Palingref35_Hop)]))) <| pc (bs_ob 3 [a2]) <| pc (app_ob 3 (n := 0) (l := []) (xs := [a2]) h4) <| pc ((rfl : ((List.length [a2]) : Nat) = (List.length [a2]))) <| pc (k_palingref35_Path_L1 _ _ h66) <| pc (k_palingref35_Path_L3 _ _ h79) <| pn)
    · injection h with h; subst h; exact runFz_sound mixedOrders Try.func20 rfl (ids := []) (fz := [1]) (π := [.obj [] (.arr 96 [(⟨0, 0, a2, 0⟩ : Palingref35_Hop)] (List.length [(⟨0, 0, a2, 0⟩ : Palingref35_Hop)]) false), .obj [2] (.arr 40 [[(⟨0, 0, a2, 0⟩ : Palingref35_Hop)]] (List.length [[(⟨0, 0, a2, 0⟩ : Palingref35_Hop)]]) false), .obj [] (.arr 3 [a2] (List.length [a2]) false), .obj [] (.arr 3 ([a2]) (List.length [a2]) false), .sum [2, 3, 6, 7, 8, 9, 10] [0, 1, 3, 4] (.exit 0) [(2, .v (.int .i64 a3)), (6, .os 0 0), (7, .v (.bool false)), (8, .os 1 (List.length l64)), (9, .os 2 (List.length l65))] [.n 96, .arr 40 l64 (List.length l64) false, .arr 3 l65 (List.length l65) false], .sum [2, 6, 7, 8, 9, 13] [0, 1, 2] (.exit 4) [(6, .os 0 0), (7, .v (.bool false))] [.n 96]]) (hrun := by kernel_rfl) (hps := pc (bs_ob 96 [(⟨0, 0, a2, 0⟩ : Palingref35_Hop)]) <| pc (bs_ob 40 [[(⟨0, 0, a2, 0⟩ : Palingref35_Hop)]]) <| pc ((rfl : ((List.length [(⟨0, 0, a2, 0⟩ : Palingref35_Hop)]) : Nat) = (List.length [(⟨0, 0, a2, 0⟩ : Palingref35_Hop)]))) <| pc (bs_ob 3 [a2]) <| pc (app_ob 3 (n := 0) (l := []) (xs := [a2]) h4) <| pc ((rfl : ((List.length [a2]) : Nat) = (List.length [a2]))) <| pc (k_palingref35_Path_L1 _ _ h66) <| pc (k_palingref35_Path_L3 _ _ h79) <| pc ((rfl : (0 : Nat) = 0)) <| pn)
  · cases h

theorem k_palinglaw35_Told_L1 {a1 : List Reach_Hop} : LoopOK Try.prog UU 0 18 (subC (codeOf Try.f15) [1, 1, 0, 1, 0, 0]) (fun s : (List Palingref35_Hop) × Int => match s with | (l2, v3) => palinglaw35_Told_L1 a1 l2 v3)
    (fun s : (List Palingref35_Hop) × Int => (match s with | (l2, v3) => [(2, .os 0 0), (3, .os 1 (List.length l2)), (6, .sl 51 a1), (7, .v (.int .i64 (a1.length : Int))), (8, .v (.int .i64 v3))] : Fr DD)) (fun s : (List Palingref35_Hop) × Int => (match s with | (l2, v3) => [.n 96, .arr 96 l2 (List.length l2) false] : Heap DD)) (fun r => match r with | l10 => .exit 0) (fun r => match r with | l10 => [(2, .os 0 0), (3, .os 1 (List.length l10))]) (fun r => match r with | l10 => [.n 96, .arr 96 l10 (List.length l10) false]) := by
  refine loop_sound3 (fun s q h => ?_) (fun r => ?_)
  · obtain ⟨l2, v3⟩ := s; replace h : palinglaw35_Told_L1 a1 l2 v3 = some q := h
    unfold palinglaw35_Told_L1 at h
    rcases ite_out h with ⟨h4, h⟩ | ⟨h4, h⟩
    · obtain ⟨x5, h6, h⟩ := bind_out h
      rcases ite_out h with ⟨h7, h⟩ | ⟨h7, h⟩
      · injection h with h; subst h; exact runLp_sound mixedOrders (live := [2, 3, 6, 7, 8]) (ids := [0, 1]) (π := [.dec true, .row (c51 x5), .obj [] (.arr 96 [(⟨x5.kind, x5.port, x5.domain, x5.addr⟩ : Palingref35_Hop)] (List.length [(⟨x5.kind, x5.port, x5.domain, x5.addr⟩ : Palingref35_Hop)]) false), .obj [] (.arr 96 (l2 ++ [(⟨x5.kind, x5.port, x5.domain, x5.addr⟩ : Palingref35_Hop)]) (List.length (l2 ++ [(⟨x5.kind, x5.port, x5.domain, x5.addr⟩ : Palingref35_Hop)])) false)]) (hx := by kernel_rfl) (hps := pc (h4) <| pc (ob51 h6) <| pc (bs_ob 96 [(⟨x5.kind, x5.port, x5.domain, x5.addr⟩ : Palingref35_Hop)]) <| pc (app_ob 96 (n := (List.length l2)) (l := l2) (xs := [(⟨x5.kind, x5.port, x5.domain, x5.addr⟩ : Palingref35_Hop)]) h7) <| pc ((rfl : ((List.length [(⟨x5.kind, x5.port, x5.domain, x5.addr⟩ : Palingref35_Hop)]) : Nat) = (List.length [(⟨x5.kind, x5.port, x5.domain, x5.addr⟩ : Palingref35_Hop)]))) <| pn)
      · cases h
    · injection h with h; subst h; exact runLp_sound mixedOrders (live := [2, 3]) (ids := [0, 1]) (π := [.dec false]) (hx := by kernel_rfl) (hps := pc (h4) <| pn)
  · exact Ex.noConfusion

theorem k_palinglaw35_Told {a1 : List Reach_Hop} {r : ((List Palingref35_Hop))} (h : palinglaw35_Told a1 = some r) :
    CallsOK Try.prog UU 15 [.sl 51 a1] [] ((fun r => match r with | l13 => .os 0 (List.length l13)) r) ((fun r => match r with | l13 => [.arr 96 l13 (List.length l13) false]) r) := by
  unfold palinglaw35_Told at h
  obtain ⟨l10, h11, h⟩ := bind_out h
  injection h with h; subst h; exact runFn_sound mixedOrders Try.func15 rfl (keep := some [1]) (π := [.sum [2, 3, 6, 7, 8] [0, 1] (.exit 0) [(2, .os 0 0), (3, .os 1 (List.length l10))] [.n 96, .arr 96 l10 (List.length l10) false]]) (hrun := by kernel_rfl) (hps := pc (k_palinglaw35_Told_L1 _ _ h11) <| pn)

theorem k_palingref35_Same_L1 {a1 : List Palingref35_Hop} {a2 : List Palingref35_Hop} : LoopOK Try.prog UU 0 26 (subC (codeOf Try.f14) [1, 1, 0, 1, 0, 0]) (ρ := Unit ⊕ Unit) (palingref35_Same_L1 a1 a2)
    (fun v4 : Int => ([(0, .sl 96 a1), (1, .sl 96 a2), (4, .v (.bool false)), (5, .v (.int .i64 v4))] : Fr DD)) (fun v4 : Int => ([] : Heap DD)) (fun r => match r with | Sum.inl _ => .ret | Sum.inr _ => .exit 0) (fun r => match r with | Sum.inl _ => [(4, .v (.bool false))] | Sum.inr _ => [(4, .v (.bool false))]) (fun r => match r with | Sum.inl _ => [] | Sum.inr _ => []) := by
  refine loop_sound3 (fun s q h => ?_) (fun r => ?_)
  · replace h : palingref35_Same_L1 a1 a2 s = some q := h; revert h; revert s; intro v4 h
    unfold palingref35_Same_L1 at h
    rcases ite_out h with ⟨h5, h⟩ | ⟨h5, h⟩
    · obtain ⟨x6, h7, h⟩ := bind_out h
      obtain ⟨x8, h9, h⟩ := bind_out h
      rcases ite_out h with ⟨h10, h⟩ | ⟨h10, h⟩
      · injection h with h; subst h; exact runLp_sound mixedOrders (live := [4]) (ids := []) (π := [.dec true, .row (c96 x6), .row (c96 x8), .dec true]) (hx := by kernel_rfl) (hps := pc (h5) <| pc (ob96 h7) <| pc (ob96 h9) <| pc (h10) <| pn)
      · injection h with h; subst h; exact runLp_sound mixedOrders (live := [0, 1, 4, 5]) (ids := []) (π := [.dec true, .row (c96 x6), .row (c96 x8), .dec false]) (hx := by kernel_rfl) (hps := pc (h5) <| pc (ob96 h7) <| pc (ob96 h9) <| pc (h10) <| pn)
    · injection h with h; subst h; exact runLp_sound mixedOrders (live := [4]) (ids := []) (π := [.dec false]) (hx := by kernel_rfl) (hps := pc (h5) <| pn)
  · rcases r with _ | _ <;> exact Ex.noConfusion

theorem k_palingref35_Same {a1 : List Palingref35_Hop} {a2 : List Palingref35_Hop} {r : Bool} (h : palingref35_Same a1 a2 = some r) :
    CallsOK Try.prog UU 14 [.sl 96 a1, .sl 96 a2] [] (.v (.bool r)) [] := by
  unfold palingref35_Same at h
  rcases ite_out h with ⟨h3, h⟩ | ⟨h3, h⟩
  · injection h with h; subst h; exact runFn_sound mixedOrders Try.func14 rfl (keep := none) (π := [.dec true]) (hrun := by kernel_rfl) (hps := pc (h3) <| pn)
  · obtain ⟨r12, h11, h⟩ := bind_out h
    rcases r12 with _ | _
    · injection h with h; subst h; exact runFn_sound mixedOrders Try.func14 rfl (keep := none) (π := [.dec false, .sum [0, 1, 4, 5] [] .ret [(4, .v (.bool false))] []]) (hrun := by kernel_rfl) (hps := pc (h3) <| pc (k_palingref35_Same_L1 _ _ h11) <| pn)
    · injection h with h; subst h; exact runFn_sound mixedOrders Try.func14 rfl (keep := none) (π := [.dec false, .sum [0, 1, 4, 5] [] (.exit 0) [(4, .v (.bool false))] []]) (hrun := by kernel_rfl) (hps := pc (h3) <| pc (k_palingref35_Same_L1 _ _ h11) <| pn)

theorem k_palinglaw35_ReachPaths {a1 : Api_Net} {a2 : Int} {a3 : Int} {r : Bool} (h : palinglaw35_ReachPaths a1 a2 a3 = some r) :
    CallsOK Try.prog UU 4 [.agg (c31 a1), .v (.int .i64 a2), .v (.int .i64 a3)] [] (.v (.bool r)) [] := by
  unfold palinglaw35_ReachPaths at h
  obtain ⟨r4, h5, h⟩ := bind_out h
  rcases ite_out h with ⟨h6, h⟩ | ⟨h6, h⟩
  · obtain ⟨r7, h8, h⟩ := bind_out h
    injection h with h; subst h; exact runFn_sound mixedOrders Try.func4 rfl (keep := none) (π := [.callv (.v (.bool r4)), .dec true, .callv (.v (.bool r7))]) (hrun := by kernel_rfl) (hps := pc (k_palinglaw15_Great h5) <| pc (h6) <| pc (k_palinglaw35_works h8) <| pn)
  · obtain ⟨r9, h10, h⟩ := bind_out h
    obtain ⟨l11, n12, v13⟩ := r9
    obtain ⟨r14, h15, h⟩ := bind_out h
    rcases ite_out h with ⟨h16, h⟩ | ⟨h16, h⟩
    · rcases ite_out h with ⟨h17, h⟩ | ⟨h17, h⟩
      · rcases ite_out h with ⟨h18, h⟩ | ⟨h18, h⟩
        · obtain ⟨r19, h20, h⟩ := bind_out h
          injection h with h; subst h; exact runFn_sound mixedOrders Try.func4 rfl (keep := none) (π := [.callv (.v (.bool r4)), .dec false, .callo (.tup [.os 0 n12, .v (.bool v13)]) [.arr 51 l11 n12 false], .callv (.v (.bool r14)), .dec true, .dec true, .dec true, .callv (.v (.bool r19))]) (hrun := by kernel_rfl) (hps := pc (k_palinglaw15_Great h5) <| pc (h6) <| pc (k_reach_Path h10) <| pc (im51 l11) <| pc (k_palingref35_Fits h15) <| pc (h16) <| pc ((rfl : (n12 : Nat) = n12)) <| pc (h17) <| pc (h18) <| pc (k_palinglaw35_works h20) <| pn)
        · injection h with h; subst h; exact runFn_sound mixedOrders Try.func4 rfl (keep := none) (π := [.callv (.v (.bool r4)), .dec false, .callo (.tup [.os 0 n12, .v (.bool v13)]) [.arr 51 l11 n12 false], .callv (.v (.bool r14)), .dec true, .dec true, .dec false]) (hrun := by kernel_rfl) (hps := pc (k_palinglaw15_Great h5) <| pc (h6) <| pc (k_reach_Path h10) <| pc (im51 l11) <| pc (k_palingref35_Fits h15) <| pc (h16) <| pc ((rfl : (n12 : Nat) = n12)) <| pc (h17) <| pc (h18) <| pn)
      · injection h with h; subst h; exact runFn_sound mixedOrders Try.func4 rfl (keep := none) (π := [.callv (.v (.bool r4)), .dec false, .callo (.tup [.os 0 n12, .v (.bool v13)]) [.arr 51 l11 n12 false], .callv (.v (.bool r14)), .dec true, .dec false]) (hrun := by kernel_rfl) (hps := pc (k_palinglaw15_Great h5) <| pc (h6) <| pc (k_reach_Path h10) <| pc (im51 l11) <| pc (k_palingref35_Fits h15) <| pc (h16) <| pc ((rfl : (n12 : Nat) = n12)) <| pc (h17) <| pn)
    · obtain ⟨r21, h22, h⟩ := bind_out h
      rcases ite_out h with ⟨h23, h⟩ | ⟨h23, h⟩
      · rcases ite_out h with ⟨h24, h⟩ | ⟨h24, h⟩
        · rcases ite_out h with ⟨h25, h⟩ | ⟨h25, h⟩
          · obtain ⟨r26, h27, h⟩ := bind_out h
            injection h with h; subst h; exact runFn_sound mixedOrders Try.func4 rfl (keep := none) (π := [.callv (.v (.bool r4)), .dec false, .callo (.tup [.os 0 n12, .v (.bool v13)]) [.arr 51 l11 n12 false], .callv (.v (.bool r14)), .dec false, .callv (.v (.bool r21)), .dec true, .dec true, .dec true, .callv (.v (.bool r26))]) (hrun := by kernel_rfl) (hps := pc (k_palinglaw15_Great h5) <| pc (h6) <| pc (k_reach_Path h10) <| pc (im51 l11) <| pc (k_palingref35_Fits h15) <| pc (h16) <| pc (k_palingref35_Fits h22) <| pc (h23) <| pc ((rfl : (n12 : Nat) = n12)) <| pc (h24) <| pc (h25) <| pc (k_palinglaw35_works h27) <| pn)
          · injection h with h; subst h; exact runFn_sound mixedOrders Try.func4 rfl (keep := none) (π := [.callv (.v (.bool r4)), .dec false, .callo (.tup [.os 0 n12, .v (.bool v13)]) [.arr 51 l11 n12 false], .callv (.v (.bool r14)), .dec false, .callv (.v (.bool r21)), .dec true, .dec true, .dec false]) (hrun := by kernel_rfl) (hps := pc (k_palinglaw15_Great h5) <| pc (h6) <| pc (k_reach_Path h10) <| pc (im51 l11) <| pc (k_palingref35_Fits h15) <| pc (h16) <| pc (k_palingref35_Fits h22) <| pc (h23) <| pc ((rfl : (n12 : Nat) = n12)) <| pc (h24) <| pc (h25) <| pn)
        · injection h with h; subst h; exact runFn_sound mixedOrders Try.func4 rfl (keep := none) (π := [.callv (.v (.bool r4)), .dec false, .callo (.tup [.os 0 n12, .v (.bool v13)]) [.arr 51 l11 n12 false], .callv (.v (.bool r14)), .dec false, .callv (.v (.bool r21)), .dec true, .dec false]) (hrun := by kernel_rfl) (hps := pc (k_palinglaw15_Great h5) <| pc (h6) <| pc (k_reach_Path h10) <| pc (im51 l11) <| pc (k_palingref35_Fits h15) <| pc (h16) <| pc (k_palingref35_Fits h22) <| pc (h23) <| pc ((rfl : (n12 : Nat) = n12)) <| pc (h24) <| pn)
      · obtain ⟨r28, h29, h⟩ := bind_out h
        obtain ⟨r30, r31⟩ := r28
        obtain ⟨l34, h33, h⟩ := bind_out h
        obtain ⟨r35, h36, h⟩ := bind_out h
        rcases ite_out h with ⟨h37, h⟩ | ⟨h37, h⟩
        · rcases ite_out h with ⟨h38, h⟩ | ⟨h38, h⟩
          · obtain ⟨r39, h40, h⟩ := bind_out h
            injection h with h; subst h; exact runFn_sound mixedOrders Try.func4 rfl (keep := none) (π := [.callv (.v (.bool r4)), .dec false, .callo (.tup [.os 0 n12, .v (.bool v13)]) [.arr 51 l11 n12 false], .callv (.v (.bool r14)), .dec false, .callv (.v (.bool r21)), .dec false, .callm [] (.tup [.sl 96 r30, .v (.bool r31)]) [], .callo (.os 0 (List.length l34)) [.arr 96 l34 (List.length l34) false], .callv (.v (.bool r35)), .dec true, .dec true, .callv (.v (.bool r39))]) (hrun := by kernel_rfl) (hps := pc (k_palinglaw15_Great h5) <| pc (h6) <| pc (k_reach_Path h10) <| pc (im51 l11) <| pc (k_palingref35_Fits h15) <| pc (h16) <| pc (k_palingref35_Fits h22) <| pc (h23) <| pc (k_palingref35_Path h29) <| pc (k_palinglaw35_Told h33) <| pc (im96 l34) <| pc ((rfl : (n12 : Nat) = n12)) <| pc (k_palingref35_Same h36) <| pc ((rfl : ((List.length l34) : Nat) = (List.length l34))) <| pc (h37) <| pc (h38) <| pc (k_palinglaw35_works h40) <| pn)
          · injection h with h; subst h; exact runFn_sound mixedOrders Try.func4 rfl (keep := none) (π := [.callv (.v (.bool r4)), .dec false, .callo (.tup [.os 0 n12, .v (.bool v13)]) [.arr 51 l11 n12 false], .callv (.v (.bool r14)), .dec false, .callv (.v (.bool r21)), .dec false, .callm [] (.tup [.sl 96 r30, .v (.bool r31)]) [], .callo (.os 0 (List.length l34)) [.arr 96 l34 (List.length l34) false], .callv (.v (.bool r35)), .dec true, .dec false]) (hrun := by kernel_rfl) (hps := pc (k_palinglaw15_Great h5) <| pc (h6) <| pc (k_reach_Path h10) <| pc (im51 l11) <| pc (k_palingref35_Fits h15) <| pc (h16) <| pc (k_palingref35_Fits h22) <| pc (h23) <| pc (k_palingref35_Path h29) <| pc (k_palinglaw35_Told h33) <| pc (im96 l34) <| pc ((rfl : (n12 : Nat) = n12)) <| pc (k_palingref35_Same h36) <| pc ((rfl : ((List.length l34) : Nat) = (List.length l34))) <| pc (h37) <| pc (h38) <| pn)
        · injection h with h; subst h; exact runFn_sound mixedOrders Try.func4 rfl (keep := none) (π := [.callv (.v (.bool r4)), .dec false, .callo (.tup [.os 0 n12, .v (.bool v13)]) [.arr 51 l11 n12 false], .callv (.v (.bool r14)), .dec false, .callv (.v (.bool r21)), .dec false, .callm [] (.tup [.sl 96 r30, .v (.bool r31)]) [], .callo (.os 0 (List.length l34)) [.arr 96 l34 (List.length l34) false], .callv (.v (.bool r35)), .dec false]) (hrun := by kernel_rfl) (hps := pc (k_palinglaw15_Great h5) <| pc (h6) <| pc (k_reach_Path h10) <| pc (im51 l11) <| pc (k_palingref35_Fits h15) <| pc (h16) <| pc (k_palingref35_Fits h22) <| pc (h23) <| pc (k_palingref35_Path h29) <| pc (k_palinglaw35_Told h33) <| pc (im96 l34) <| pc ((rfl : (n12 : Nat) = n12)) <| pc (k_palingref35_Same h36) <| pc ((rfl : ((List.length l34) : Nat) = (List.length l34))) <| pc (h37) <| pn)

end Go.Eng
