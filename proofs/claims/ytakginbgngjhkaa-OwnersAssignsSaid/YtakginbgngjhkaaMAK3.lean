/- Part of the proof of OwnersAssigns: printed mirrors of the functions, or their contracts. No conditions. -/
import Derived.Test.YtakginbgngjhkaaMAK2
set_option linter.unusedVariables false
set_option maxRecDepth 100000
namespace Go.Eng
open Go Go.Proofs
theorem k_palingref15_ports_J2 {a1 : Api_Net} {v2 : Int} {x4 : Api_Port} {r : Unit ⊕ Unit} (h : palingref15_ports_J2 a1 v2 x4 = some r) :
    ExecOK Try.prog UU 0 120 (subC (codeOf Try.f64) [1, 0, 1, 0, 0, 1, 0, 0, 1, 1, 0]) [(1, .op 0 1 0 0), (2, .v (.bool false)), (3, .v (.int .i64 v2)), (4, .op 1 1 0 0)] [.box 31 (c31 a1) false, .box 60 (c60 x4) false] ((fun r => match r with | Sum.inl _ => .ret | Sum.inr _ => .nor) r) ((fun r => match r with | Sum.inl _ => [(2, .v (.bool false))] | Sum.inr _ => [(1, .op 0 1 0 0), (2, .v (.bool false)), (3, .v (.int .i64 v2)), (4, .op 1 1 0 0)]) r) ((fun r => match r with | Sum.inl _ => [] | Sum.inr _ => [.box 31 (c31 a1) false, .box 60 (c60 x4) false]) r) := by
  unfold palingref15_ports_J2 at h
  rcases ite_out h with ⟨h17, h⟩ | ⟨h17, h⟩
  · rcases ite_out h with ⟨h18, h⟩ | ⟨h18, h⟩
    · injection h with h; subst h; exact runLp_sound mixedOrders (live := [2]) (ids := []) (π := [.dec true, .dec true]) (hx := by kernel_rfl) (hps := pc (h17) <| pc (h18) <| pn)
    · rcases ite_out h with ⟨h19, h⟩ | ⟨h19, h⟩
      · obtain ⟨r20, h21, h⟩ := bind_out h
        rcases ite_out h with ⟨h22, h⟩ | ⟨h22, h⟩
        · injection h with h; subst h; exact runLp_sound mixedOrders (live := [2]) (ids := []) (π := [.dec true, .dec false, .dec true, .callv (.v (.int .i64 r20)), .dec true]) (hx := by kernel_rfl) (hps := pc (h17) <| pc (h18) <| pc (h19) <| pc (k_palingref15_At h21) <| pc (h22) <| pn)
        · injection h with h; subst h; exact runLp_sound mixedOrders (live := [1, 2, 3, 4]) (ids := [0, 1]) (π := [.dec true, .dec false, .dec true, .callv (.v (.int .i64 r20)), .dec false]) (hx := by kernel_rfl) (hps := pc (h17) <| pc (h18) <| pc (h19) <| pc (k_palingref15_At h21) <| pc (h22) <| pn)
      · injection h with h; subst h; exact runLp_sound mixedOrders (live := [1, 2, 3, 4]) (ids := [0, 1]) (π := [.dec true, .dec false, .dec false]) (hx := by kernel_rfl) (hps := pc (h17) <| pc (h18) <| pc (h19) <| pn)
  · rcases ite_out h with ⟨h23, h⟩ | ⟨h23, h⟩
    · obtain ⟨r24, h25, h⟩ := bind_out h
      rcases ite_out h with ⟨h26, h⟩ | ⟨h26, h⟩
      · injection h with h; subst h; exact runLp_sound mixedOrders (live := [2]) (ids := []) (π := [.dec false, .dec true, .callv (.v (.int .i64 r24)), .dec true]) (hx := by kernel_rfl) (hps := pc (h17) <| pc (h23) <| pc (k_palingref15_At h25) <| pc (h26) <| pn)
      · injection h with h; subst h; exact runLp_sound mixedOrders (live := [1, 2, 3, 4]) (ids := [0, 1]) (π := [.dec false, .dec true, .callv (.v (.int .i64 r24)), .dec false]) (hx := by kernel_rfl) (hps := pc (h17) <| pc (h23) <| pc (k_palingref15_At h25) <| pc (h26) <| pn)
    · injection h with h; subst h; exact runLp_sound mixedOrders (live := [1, 2, 3, 4]) (ids := [0, 1]) (π := [.dec false, .dec false]) (hx := by kernel_rfl) (hps := pc (h17) <| pc (h23) <| pn)

theorem k_palingref15_ports_L3 {a1 : Api_Net} {v2 : Int} {x4 : Api_Port} : LoopOK Try.prog UU 0 120 (subC (codeOf Try.f64) [1, 0, 1, 0, 0, 1, 0, 0, 1, 1, 1, 0, 1, 0, 0]) (ρ := Unit ⊕ Unit) (palingref15_ports_L3 a1 v2 x4)
    (fun v29 : Int => ([(1, .op 0 1 0 0), (2, .v (.bool false)), (3, .v (.int .i64 v2)), (4, .op 1 1 0 0), (5, .v (.int .i64 v29))] : Fr DD)) (fun v29 : Int => ([.box 31 (c31 a1) false, .box 60 (c60 x4) false] : Heap DD)) (fun r => match r with | Sum.inl _ => .ret | Sum.inr _ => .exit 2) (fun r => match r with | Sum.inl _ => [(2, .v (.bool false))] | Sum.inr _ => [(1, .op 0 1 0 0), (2, .v (.bool false)), (3, .v (.int .i64 v2)), (4, .op 1 1 0 0)]) (fun r => match r with | Sum.inl _ => [] | Sum.inr _ => [.box 31 (c31 a1) false, .box 60 (c60 x4) false]) := by
  refine loop_sound3 (fun s q h => ?_) (fun r => ?_)
  · replace h : palingref15_ports_L3 a1 v2 x4 s = some q := h; revert h; revert s; intro v29 h
    unfold palingref15_ports_L3 at h
    rcases ite_out h with ⟨h30, h⟩ | ⟨h30, h⟩
    · obtain ⟨x31, h32, h⟩ := bind_out h
      obtain ⟨r33, h34, h⟩ := bind_out h
      rcases ite_out h with ⟨h35, h⟩ | ⟨h35, h⟩
      · injection h with h; subst h; exact runLp_sound mixedOrders (live := [2]) (ids := []) (π := [.dec true, .row (c3 x31), .callv (.v (.int .i64 r33)), .dec true]) (hx := by kernel_rfl) (hps := pc (h30) <| pc (ob3 h32) <| pc (k_palingref15_At h34) <| pc (h35) <| pn)
      · injection h with h; subst h; exact runLp_sound mixedOrders (live := [1, 2, 3, 4, 5]) (ids := [0, 1]) (π := [.dec true, .row (c3 x31), .callv (.v (.int .i64 r33)), .dec false]) (hx := by kernel_rfl) (hps := pc (h30) <| pc (ob3 h32) <| pc (k_palingref15_At h34) <| pc (h35) <| pn)
    · injection h with h; subst h; exact runLp_sound mixedOrders (live := [1, 2, 3, 4]) (ids := [0, 1]) (π := [.dec false]) (hx := by kernel_rfl) (hps := pc (h30) <| pn)
  · rcases r with _ | _ <;> exact Ex.noConfusion

theorem k_palingref15_ports_L1 {a1 : Api_Net} : LoopOK Try.prog UU 0 120 (subC (codeOf Try.f64) [1, 0, 1, 0, 0]) (ρ := Unit ⊕ Unit) (palingref15_ports_L1 a1)
    (fun v2 : Int => ([(1, .op 0 1 0 0), (2, .v (.bool false)), (3, .v (.int .i64 v2))] : Fr DD)) (fun v2 : Int => ([.box 31 (c31 a1) false] : Heap DD)) (fun r => match r with | Sum.inl _ => .ret | Sum.inr _ => .exit 0) (fun r => match r with | Sum.inl _ => [(2, .v (.bool false))] | Sum.inr _ => [(2, .v (.bool false))]) (fun r => match r with | Sum.inl _ => [] | Sum.inr _ => []) := by
  refine loop_sound3 (fun s q h => ?_) (fun r => ?_)
  · replace h : palingref15_ports_L1 a1 s = some q := h; revert h; revert s; intro v2 h
    unfold palingref15_ports_L1 at h
    rcases ite_out h with ⟨h3, h⟩ | ⟨h3, h⟩
    · obtain ⟨x4, h5, h⟩ := bind_out h
      obtain ⟨r6, h7, h⟩ := bind_out h
      rcases ite_out h with ⟨h8, h⟩ | ⟨h8, h⟩
      · injection h with h; subst h; exact runLp_sound mixedOrders (live := [2]) (ids := []) (π := [.dec true, .row (c60 x4), .callv (.v (.bool r6)), .dec true]) (hx := by kernel_rfl) (hps := pc (h3) <| pc (ob60 h5) <| pc (k_palingref15_Place h7) <| pc (h8) <| pn)
      · rcases ite_out h with ⟨h9, h⟩ | ⟨h9, h⟩
        · injection h with h; subst h; exact runLp_sound mixedOrders (live := [2]) (ids := []) (π := [.dec true, .row (c60 x4), .callv (.v (.bool r6)), .dec false, .dec true]) (hx := by kernel_rfl) (hps := pc (h3) <| pc (ob60 h5) <| pc (k_palingref15_Place h7) <| pc (h8) <| pc (h9) <| pn)
        · rcases ite_out h with ⟨h10, h⟩ | ⟨h10, h⟩
          · injection h with h; subst h; exact runLp_sound mixedOrders (live := [2]) (ids := []) (π := [.dec true, .row (c60 x4), .callv (.v (.bool r6)), .dec false, .dec false, .dec true]) (hx := by kernel_rfl) (hps := pc (h3) <| pc (ob60 h5) <| pc (k_palingref15_Place h7) <| pc (h8) <| pc (h9) <| pc (h10) <| pn)
          · obtain ⟨r11, h12, h⟩ := bind_out h
            rcases ite_out h with ⟨h13, h⟩ | ⟨h13, h⟩
            · injection h with h; subst h; exact runLp_sound mixedOrders (live := [2]) (ids := []) (π := [.dec true, .row (c60 x4), .callv (.v (.bool r6)), .dec false, .dec false, .dec false, .callv (.v (.bool r11)), .dec true]) (hx := by kernel_rfl) (hps := pc (h3) <| pc (ob60 h5) <| pc (k_palingref15_Place h7) <| pc (h8) <| pc (h9) <| pc (h10) <| pc (k_palingref15_rising h12) <| pc (h13) <| pn)
            · obtain ⟨r14, h15, h⟩ := bind_out h
              rcases ite_out h with ⟨h16, h⟩ | ⟨h16, h⟩
              · injection h with h; subst h; exact runLp_sound mixedOrders (live := [2]) (ids := []) (π := [.dec true, .row (c60 x4), .callv (.v (.bool r6)), .dec false, .dec false, .dec false, .callv (.v (.bool r11)), .dec false, .callv (.v (.bool r14)), .dec true]) (hx := by kernel_rfl) (hps := pc (h3) <| pc (ob60 h5) <| pc (k_palingref15_Place h7) <| pc (h8) <| pc (h9) <| pc (h10) <| pc (k_palingref15_rising h12) <| pc (h13) <| pc (k_palingref15_In h15) <| pc (h16) <| pn)
              · obtain ⟨r28, h27, h⟩ := bind_out h
                rcases r28 with _ | _
                · injection h with h; subst h; exact runLp_sound mixedOrders (live := [2]) (ids := []) (π := [.dec true, .row (c60 x4), .callv (.v (.bool r6)), .dec false, .dec false, .dec false, .callv (.v (.bool r11)), .dec false, .callv (.v (.bool r14)), .dec false, .cut [1, 2, 3, 4] [0, 2] .ret [(2, .v (.bool false))] []]) (hx := by kernel_rfl) (hps := pc (h3) <| pc (ob60 h5) <| pc (k_palingref15_Place h7) <| pc (h8) <| pc (h9) <| pc (h10) <| pc (k_palingref15_rising h12) <| pc (h13) <| pc (k_palingref15_In h15) <| pc (h16) <| pc (k_palingref15_ports_J2 h27) <| pn)
                · obtain ⟨r37, h36, h⟩ := bind_out h
                  rcases r37 with _ | _
                  · injection h with h; subst h; exact runLp_sound mixedOrders (live := [2]) (ids := []) (π := [.dec true, .row (c60 x4), .callv (.v (.bool r6)), .dec false, .dec false, .dec false, .callv (.v (.bool r11)), .dec false, .callv (.v (.bool r14)), .dec false, .cut [1, 2, 3, 4] [0, 2] .nor [(1, .op 0 1 0 0), (2, .v (.bool false)), (3, .v (.int .i64 v2)), (4, .op 1 1 0 0)] [.box 31 (c31 a1) false, .box 60 (c60 x4) false], .sum [1, 2, 3, 4, 5] [0, 1] .ret [(2, .v (.bool false))] []]) (hx := by kernel_rfl) (hps := pc (h3) <| pc (ob60 h5) <| pc (k_palingref15_Place h7) <| pc (h8) <| pc (h9) <| pc (h10) <| pc (k_palingref15_rising h12) <| pc (h13) <| pc (k_palingref15_In h15) <| pc (h16) <| pc (k_palingref15_ports_J2 h27) <| pc (k_palingref15_ports_L3 _ _ h36) <| pn)
                  · rcases ite_out h with ⟨h38, h⟩ | ⟨h38, h⟩
                    · injection h with h; subst h; exact runLp_sound mixedOrders (live := [1, 2, 3]) (ids := [0]) (π := [.dec true, .row (c60 x4), .callv (.v (.bool r6)), .dec false, .dec false, .dec false, .callv (.v (.bool r11)), .dec false, .callv (.v (.bool r14)), .dec false, .cut [1, 2, 3, 4] [0, 2] .nor [(1, .op 0 1 0 0), (2, .v (.bool false)), (3, .v (.int .i64 v2)), (4, .op 1 1 0 0)] [.box 31 (c31 a1) false, .box 60 (c60 x4) false], .sum [1, 2, 3, 4, 5] [0, 1] (.exit 2) [(1, .op 0 1 0 0), (2, .v (.bool false)), (3, .v (.int .i64 v2)), (4, .op 1 1 0 0)] [.box 31 (c31 a1) false, .box 60 (c60 x4) false], .dec true]) (hx := by kernel_rfl) (hps := pc (h3) <| pc (ob60 h5) <| pc (k_palingref15_Place h7) <| pc (h8) <| pc (h9) <| pc (h10) <| pc (k_palingref15_rising h12) <| pc (h13) <| pc (k_palingref15_In h15) <| pc (h16) <| pc (k_palingref15_ports_J2 h27) <| pc (k_palingref15_ports_L3 _ _ h36) <| pc (h38) <| pn)
                    · obtain ⟨r39, h40, h⟩ := bind_out h
                      rcases ite_out h with ⟨h41, h⟩ | ⟨h41, h⟩
                      · injection h with h; subst h; exact runLp_sound mixedOrders (live := [2]) (ids := []) (π := [.dec true, .row (c60 x4), .callv (.v (.bool r6)), .dec false, .dec false, .dec false, .callv (.v (.bool r11)), .dec false, .callv (.v (.bool r14)), .dec false, .cut [1, 2, 3, 4] [0, 2] .nor [(1, .op 0 1 0 0), (2, .v (.bool false)), (3, .v (.int .i64 v2)), (4, .op 1 1 0 0)] [.box 31 (c31 a1) false, .box 60 (c60 x4) false], .sum [1, 2, 3, 4, 5] [0, 1] (.exit 2) [(1, .op 0 1 0 0), (2, .v (.bool false)), (3, .v (.int .i64 v2)), (4, .op 1 1 0 0)] [.box 31 (c31 a1) false, .box 60 (c60 x4) false], .dec false, .callv (.v (.bool r39)), .dec true]) (hx := by kernel_rfl) (hps := pc (h3) <| pc (ob60 h5) <| pc (k_palingref15_Place h7) <| pc (h8) <| pc (h9) <| pc (h10) <| pc (k_palingref15_rising h12) <| pc (h13) <| pc (k_palingref15_In h15) <| pc (h16) <| pc (k_palingref15_ports_J2 h27) <| pc (k_palingref15_ports_L3 _ _ h36) <| pc (h38) <| pc (k_palingref15_Place h40) <| pc (h41) <| pn)
                      · obtain ⟨x42, h43, h⟩ := bind_out h
                        rcases ite_out h with ⟨h44, h⟩ | ⟨h44, h⟩
                        · obtain ⟨x45, h46, h⟩ := bind_out h
                          rcases ite_out h with ⟨h47, h⟩ | ⟨h47, h⟩
                          · injection h with h; subst h; exact runLp_sound mixedOrders (live := [2]) (ids := []) (π := [.dec true, .row (c60 x4), .callv (.v (.bool r6)), .dec false, .dec false, .dec false, .callv (.v (.bool r11)), .dec false, .callv (.v (.bool r14)), .dec false, .cut [1, 2, 3, 4] [0, 2] .nor [(1, .op 0 1 0 0), (2, .v (.bool false)), (3, .v (.int .i64 v2)), (4, .op 1 1 0 0)] [.box 31 (c31 a1) false, .box 60 (c60 x4) false], .sum [1, 2, 3, 4, 5] [0, 1] (.exit 2) [(1, .op 0 1 0 0), (2, .v (.bool false)), (3, .v (.int .i64 v2)), (4, .op 1 1 0 0)] [.box 31 (c31 a1) false, .box 60 (c60 x4) false], .dec false, .callv (.v (.bool r39)), .dec false, .row (c98 x42), .dec true, .row (c98 x45), .dec true]) (hx := by kernel_rfl) (hps := pc (h3) <| pc (ob60 h5) <| pc (k_palingref15_Place h7) <| pc (h8) <| pc (h9) <| pc (h10) <| pc (k_palingref15_rising h12) <| pc (h13) <| pc (k_palingref15_In h15) <| pc (h16) <| pc (k_palingref15_ports_J2 h27) <| pc (k_palingref15_ports_L3 _ _ h36) <| pc (h38) <| pc (k_palingref15_Place h40) <| pc (h41) <| pc (ob98 h43) <| pc (h44) <| pc (ob98 h46) <| pc (h47) <| pn)
                          · injection h with h; subst h; exact runLp_sound mixedOrders (live := [1, 2, 3]) (ids := [0]) (π := [.dec true, .row (c60 x4), .callv (.v (.bool r6)), .dec false, .dec false, .dec false, .callv (.v (.bool r11)), .dec false, .callv (.v (.bool r14)), .dec false, .cut [1, 2, 3, 4] [0, 2] .nor [(1, .op 0 1 0 0), (2, .v (.bool false)), (3, .v (.int .i64 v2)), (4, .op 1 1 0 0)] [.box 31 (c31 a1) false, .box 60 (c60 x4) false], .sum [1, 2, 3, 4, 5] [0, 1] (.exit 2) [(1, .op 0 1 0 0), (2, .v (.bool false)), (3, .v (.int .i64 v2)), (4, .op 1 1 0 0)] [.box 31 (c31 a1) false, .box 60 (c60 x4) false], .dec false, .callv (.v (.bool r39)), .dec false, .row (c98 x42), .dec true, .row (c98 x45), .dec false]) (hx := by kernel_rfl) (hps := pc (h3) <| pc (ob60 h5) <| pc (k_palingref15_Place h7) <| pc (h8) <| pc (h9) <| pc (h10) <| pc (k_palingref15_rising h12) <| pc (h13) <| pc (k_palingref15_In h15) <| pc (h16) <| pc (k_palingref15_ports_J2 h27) <| pc (k_palingref15_ports_L3 _ _ h36) <| pc (h38) <| pc (k_palingref15_Place h40) <| pc (h41) <| pc (ob98 h43) <| pc (h44) <| pc (ob98 h46) <| pc (h47) <| pn)
                        · injection h with h; subst h; exact runLp_sound mixedOrders (live := [1, 2, 3]) (ids := [0]) (π := [.dec true, .row (c60 x4), .callv (.v (.bool r6)), .dec false, .dec false, .dec false, .callv (.v (.bool r11)), .dec false, .callv (.v (.bool r14)), .dec false, .cut [1, 2, 3, 4] [0, 2] .nor [(1, .op 0 1 0 0), (2, .v (.bool false)), (3, .v (.int .i64 v2)), (4, .op 1 1 0 0)] [.box 31 (c31 a1) false, .box 60 (c60 x4) false], .sum [1, 2, 3, 4, 5] [0, 1] (.exit 2) [(1, .op 0 1 0 0), (2, .v (.bool false)), (3, .v (.int .i64 v2)), (4, .op 1 1 0 0)] [.box 31 (c31 a1) false, .box 60 (c60 x4) false], .dec false, .callv (.v (.bool r39)), .dec false, .row (c98 x42), .dec false]) (hx := by kernel_rfl) (hps := pc (h3) <| pc (ob60 h5) <| pc (k_palingref15_Place h7) <| pc (h8) <| pc (h9) <| pc (h10) <| pc (k_palingref15_rising h12) <| pc (h13) <| pc (k_palingref15_In h15) <| pc (h16) <| pc (k_palingref15_ports_J2 h27) <| pc (k_palingref15_ports_L3 _ _ h36) <| pc (h38) <| pc (k_palingref15_Place h40) <| pc (h41) <| pc (ob98 h43) <| pc (h44) <| pn)
    · injection h with h; subst h; exact runLp_sound mixedOrders (live := [2]) (ids := []) (π := [.dec false]) (hx := by kernel_rfl) (hps := pc (h3) <| pn)
  · rcases r with _ | _ <;> exact Ex.noConfusion

theorem k_palingref15_ports {a1 : Api_Net} {r : Bool} (h : palingref15_ports a1 = some r) :
    CallsOK Try.prog UU 64 [.agg (c31 a1)] [] (.v (.bool r)) [] := by
  unfold palingref15_ports at h
  obtain ⟨r49, h48, h⟩ := bind_out h
  rcases r49 with _ | _
  · injection h with h; subst h; exact runFn_sound mixedOrders Try.func64 rfl (keep := none) (π := [.sum [1, 2, 3] [0] .ret [(2, .v (.bool false))] []]) (hrun := by kernel_rfl) (hps := pc (k_palingref15_ports_L1 _ _ h48) <| pn)
  · injection h with h; subst h; exact runFn_sound mixedOrders Try.func64 rfl (keep := none) (π := [.sum [1, 2, 3] [0] (.exit 0) [(2, .v (.bool false))] []]) (hrun := by kernel_rfl) (hps := pc (k_palingref15_ports_L1 _ _ h48) <| pn)

theorem k_palingref15_links_L1 {a1 : Api_Net} : LoopOK Try.prog UU 0 70 (subC (codeOf Try.f65) [1, 0, 1, 0, 0]) (ρ := Unit ⊕ Unit) (palingref15_links_L1 a1)
    (fun v2 : Int => ([(1, .op 0 1 0 0), (2, .v (.bool false)), (3, .v (.int .i64 v2))] : Fr DD)) (fun v2 : Int => ([.box 31 (c31 a1) false] : Heap DD)) (fun r => match r with | Sum.inl _ => .ret | Sum.inr _ => .exit 0) (fun r => match r with | Sum.inl _ => [(2, .v (.bool false))] | Sum.inr _ => [(2, .v (.bool false))]) (fun r => match r with | Sum.inl _ => [] | Sum.inr _ => []) := by
  refine loop_sound3 (fun s q h => ?_) (fun r => ?_)
  · replace h : palingref15_links_L1 a1 s = some q := h; revert h; revert s; intro v2 h
    unfold palingref15_links_L1 at h
    rcases ite_out h with ⟨h3, h⟩ | ⟨h3, h⟩
    · obtain ⟨x4, h5, h⟩ := bind_out h
      obtain ⟨r6, h7, h⟩ := bind_out h
      rcases ite_out h with ⟨h8, h⟩ | ⟨h8, h⟩
      · injection h with h; subst h; exact runLp_sound mixedOrders (live := [2]) (ids := []) (π := [.dec true, .row (c98 x4), .callv (.v (.bool r6)), .dec true]) (hx := by kernel_rfl) (hps := pc (h3) <| pc (ob98 h5) <| pc (k_palingref15_Place h7) <| pc (h8) <| pn)
      · obtain ⟨r9, h10, h⟩ := bind_out h
        rcases ite_out h with ⟨h11, h⟩ | ⟨h11, h⟩
        · injection h with h; subst h; exact runLp_sound mixedOrders (live := [2]) (ids := []) (π := [.dec true, .row (c98 x4), .callv (.v (.bool r6)), .dec false, .callv (.v (.bool r9)), .dec true]) (hx := by kernel_rfl) (hps := pc (h3) <| pc (ob98 h5) <| pc (k_palingref15_Place h7) <| pc (h8) <| pc (k_palingref15_Place h10) <| pc (h11) <| pn)
        · obtain ⟨x12, h13, h⟩ := bind_out h
          obtain ⟨x14, h15, h⟩ := bind_out h
          rcases ite_out h with ⟨h16, h⟩ | ⟨h16, h⟩
          · injection h with h; subst h; exact runLp_sound mixedOrders (live := [2]) (ids := []) (π := [.dec true, .row (c98 x4), .callv (.v (.bool r6)), .dec false, .callv (.v (.bool r9)), .dec false, .row (c60 x12), .row (c60 x14), .dec true]) (hx := by kernel_rfl) (hps := pc (h3) <| pc (ob98 h5) <| pc (k_palingref15_Place h7) <| pc (h8) <| pc (k_palingref15_Place h10) <| pc (h11) <| pc (ob60 h13) <| pc (ob60 h15) <| pc (h16) <| pn)
          · obtain ⟨x17, h18, h⟩ := bind_out h
            rcases ite_out h with ⟨h19, h⟩ | ⟨h19, h⟩
            · injection h with h; subst h; exact runLp_sound mixedOrders (live := [2]) (ids := []) (π := [.dec true, .row (c98 x4), .callv (.v (.bool r6)), .dec false, .callv (.v (.bool r9)), .dec false, .row (c60 x12), .row (c60 x14), .dec false, .row (c60 x17), .dec true]) (hx := by kernel_rfl) (hps := pc (h3) <| pc (ob98 h5) <| pc (k_palingref15_Place h7) <| pc (h8) <| pc (k_palingref15_Place h10) <| pc (h11) <| pc (ob60 h13) <| pc (ob60 h15) <| pc (h16) <| pc (ob60 h18) <| pc (h19) <| pn)
            · obtain ⟨x20, h21, h⟩ := bind_out h
              rcases ite_out h with ⟨h22, h⟩ | ⟨h22, h⟩
              · injection h with h; subst h; exact runLp_sound mixedOrders (live := [2]) (ids := []) (π := [.dec true, .row (c98 x4), .callv (.v (.bool r6)), .dec false, .callv (.v (.bool r9)), .dec false, .row (c60 x12), .row (c60 x14), .dec false, .row (c60 x17), .dec false, .row (c60 x20), .dec true]) (hx := by kernel_rfl) (hps := pc (h3) <| pc (ob98 h5) <| pc (k_palingref15_Place h7) <| pc (h8) <| pc (k_palingref15_Place h10) <| pc (h11) <| pc (ob60 h13) <| pc (ob60 h15) <| pc (h16) <| pc (ob60 h18) <| pc (h19) <| pc (ob60 h21) <| pc (h22) <| pn)
              · injection h with h; subst h; exact runLp_sound mixedOrders (live := [1, 2, 3]) (ids := [0]) (π := [.dec true, .row (c98 x4), .callv (.v (.bool r6)), .dec false, .callv (.v (.bool r9)), .dec false, .row (c60 x12), .row (c60 x14), .dec false, .row (c60 x17), .dec false, .row (c60 x20), .dec false]) (hx := by kernel_rfl) (hps := pc (h3) <| pc (ob98 h5) <| pc (k_palingref15_Place h7) <| pc (h8) <| pc (k_palingref15_Place h10) <| pc (h11) <| pc (ob60 h13) <| pc (ob60 h15) <| pc (h16) <| pc (ob60 h18) <| pc (h19) <| pc (ob60 h21) <| pc (h22) <| pn)
    · injection h with h; subst h; exact runLp_sound mixedOrders (live := [2]) (ids := []) (π := [.dec false]) (hx := by kernel_rfl) (hps := pc (h3) <| pn)
  · rcases r with _ | _ <;> exact Ex.noConfusion

theorem k_palingref15_links {a1 : Api_Net} {r : Bool} (h : palingref15_links a1 = some r) :
    CallsOK Try.prog UU 65 [.agg (c31 a1)] [] (.v (.bool r)) [] := by
  unfold palingref15_links at h
  obtain ⟨r24, h23, h⟩ := bind_out h
  rcases r24 with _ | _
  · injection h with h; subst h; exact runFn_sound mixedOrders Try.func65 rfl (keep := none) (π := [.sum [1, 2, 3] [0] .ret [(2, .v (.bool false))] []]) (hrun := by kernel_rfl) (hps := pc (k_palingref15_links_L1 _ _ h23) <| pn)
  · injection h with h; subst h; exact runFn_sound mixedOrders Try.func65 rfl (keep := none) (π := [.sum [1, 2, 3] [0] (.exit 0) [(2, .v (.bool false))] []]) (hrun := by kernel_rfl) (hps := pc (k_palingref15_links_L1 _ _ h23) <| pn)

theorem k_palingref15_Member {a1 : Api_Port} {a2 : Int} {r : Bool} (h : palingref15_Member a1 a2 = some r) :
    CallsOK Try.prog UU 123 [.agg (c60 a1), .v (.int .i64 a2)] [] (.v (.bool r)) [] := by
  unfold palingref15_Member at h
  rcases ite_out h with ⟨h3, h⟩ | ⟨h3, h⟩
  · rcases ite_out h with ⟨h4, h⟩ | ⟨h4, h⟩
    · injection h with h; subst h; exact runFn_sound mixedOrders Try.func123 rfl (keep := none) (π := [.dec true, .dec true]) (hrun := by kernel_rfl) (hps := pc (h3) <| pc (h4) <| pn)
    · obtain ⟨r5, h6, h⟩ := bind_out h
      injection h with h; subst h; exact runFn_sound mixedOrders Try.func123 rfl (keep := none) (π := [.dec true, .dec false, .callv (.v (.bool r5))]) (hrun := by kernel_rfl) (hps := pc (h3) <| pc (h4) <| pc (k_palingref15_In h6) <| pn)
  · injection h with h; subst h; exact runFn_sound mixedOrders Try.func123 rfl (keep := none) (π := [.dec false]) (hrun := by kernel_rfl) (hps := pc (h3) <| pn)

theorem k_palingref15_rest_L1 {a1 : Api_Net} : LoopOK Try.prog UU 0 192 (subC (codeOf Try.f66) [1, 0, 1, 0, 0]) (ρ := Unit ⊕ Unit) (palingref15_rest_L1 a1)
    (fun v2 : Int => ([(1, .op 0 1 0 0), (2, .v (.bool false)), (3, .v (.int .i64 v2))] : Fr DD)) (fun v2 : Int => ([.box 31 (c31 a1) false] : Heap DD)) (fun r => match r with | Sum.inl _ => .ret | Sum.inr _ => .exit 0) (fun r => match r with | Sum.inl _ => [(2, .v (.bool false))] | Sum.inr _ => [(1, .op 0 1 0 0), (2, .v (.bool false))]) (fun r => match r with | Sum.inl _ => [] | Sum.inr _ => [.box 31 (c31 a1) false]) := by
  refine loop_sound3 (fun s q h => ?_) (fun r => ?_)
  · replace h : palingref15_rest_L1 a1 s = some q := h; revert h; revert s; intro v2 h
    unfold palingref15_rest_L1 at h
    rcases ite_out h with ⟨h3, h⟩ | ⟨h3, h⟩
    · obtain ⟨x4, h5, h⟩ := bind_out h
      obtain ⟨r6, h7, h⟩ := bind_out h
      rcases ite_out h with ⟨h8, h⟩ | ⟨h8, h⟩
      · injection h with h; subst h; exact runLp_sound mixedOrders (live := [2]) (ids := []) (π := [.dec true, .row (c118 x4), .callv (.v (.bool r6)), .dec true]) (hx := by kernel_rfl) (hps := pc (h3) <| pc (ob118 h5) <| pc (k_palingref15_Place h7) <| pc (h8) <| pn)
      · obtain ⟨r9, h10, h⟩ := bind_out h
        rcases ite_out h with ⟨h11, h⟩ | ⟨h11, h⟩
        · injection h with h; subst h; exact runLp_sound mixedOrders (live := [2]) (ids := []) (π := [.dec true, .row (c118 x4), .callv (.v (.bool r6)), .dec false, .callv (.v (.bool r9)), .dec true]) (hx := by kernel_rfl) (hps := pc (h3) <| pc (ob118 h5) <| pc (k_palingref15_Place h7) <| pc (h8) <| pc (k_palingref15_Place h10) <| pc (h11) <| pn)
        · obtain ⟨x12, h13, h⟩ := bind_out h
          obtain ⟨x14, h15, h⟩ := bind_out h
          rcases ite_out h with ⟨h16, h⟩ | ⟨h16, h⟩
          · injection h with h; subst h; exact runLp_sound mixedOrders (live := [2]) (ids := []) (π := [.dec true, .row (c118 x4), .callv (.v (.bool r6)), .dec false, .callv (.v (.bool r9)), .dec false, .row (c40 x12), .row (c60 x14), .dec true]) (hx := by kernel_rfl) (hps := pc (h3) <| pc (ob118 h5) <| pc (k_palingref15_Place h7) <| pc (h8) <| pc (k_palingref15_Place h10) <| pc (h11) <| pc (ob40 h13) <| pc (ob60 h15) <| pc (h16) <| pn)
          · obtain ⟨x17, h18, h⟩ := bind_out h
            obtain ⟨r19, h20, h⟩ := bind_out h
            rcases ite_out h with ⟨h21, h⟩ | ⟨h21, h⟩
            · injection h with h; subst h; exact runLp_sound mixedOrders (live := [2]) (ids := []) (π := [.dec true, .row (c118 x4), .callv (.v (.bool r6)), .dec false, .callv (.v (.bool r9)), .dec false, .row (c40 x12), .row (c60 x14), .dec false, .row (c60 x17), .callv (.v (.bool r19)), .dec true]) (hx := by kernel_rfl) (hps := pc (h3) <| pc (ob118 h5) <| pc (k_palingref15_Place h7) <| pc (h8) <| pc (k_palingref15_Place h10) <| pc (h11) <| pc (ob40 h13) <| pc (ob60 h15) <| pc (h16) <| pc (ob60 h18) <| pc (k_palingref15_Member h20) <| pc (h21) <| pn)
            · injection h with h; subst h; exact runLp_sound mixedOrders (live := [1, 2, 3]) (ids := [0]) (π := [.dec true, .row (c118 x4), .callv (.v (.bool r6)), .dec false, .callv (.v (.bool r9)), .dec false, .row (c40 x12), .row (c60 x14), .dec false, .row (c60 x17), .callv (.v (.bool r19)), .dec false]) (hx := by kernel_rfl) (hps := pc (h3) <| pc (ob118 h5) <| pc (k_palingref15_Place h7) <| pc (h8) <| pc (k_palingref15_Place h10) <| pc (h11) <| pc (ob40 h13) <| pc (ob60 h15) <| pc (h16) <| pc (ob60 h18) <| pc (k_palingref15_Member h20) <| pc (h21) <| pn)
    · injection h with h; subst h; exact runLp_sound mixedOrders (live := [1, 2]) (ids := [0]) (π := [.dec false]) (hx := by kernel_rfl) (hps := pc (h3) <| pn)
  · rcases r with _ | _ <;> exact Ex.noConfusion

theorem k_palingref15_rest_L2 {a1 : Api_Net} : LoopOK Try.prog UU 0 192 (subC (codeOf Try.f66) [1, 1, 0, 1, 0, 0]) (ρ := Unit ⊕ Unit) (palingref15_rest_L2 a1)
    (fun v24 : Int => ([(1, .op 0 1 0 0), (2, .v (.bool false)), (6, .v (.int .i64 v24))] : Fr DD)) (fun v24 : Int => ([.box 31 (c31 a1) false] : Heap DD)) (fun r => match r with | Sum.inl _ => .ret | Sum.inr _ => .exit 2) (fun r => match r with | Sum.inl _ => [(2, .v (.bool false))] | Sum.inr _ => [(1, .op 0 1 0 0), (2, .v (.bool false))]) (fun r => match r with | Sum.inl _ => [] | Sum.inr _ => [.box 31 (c31 a1) false]) := by
  refine loop_sound3 (fun s q h => ?_) (fun r => ?_)
  · replace h : palingref15_rest_L2 a1 s = some q := h; revert h; revert s; intro v24 h
    unfold palingref15_rest_L2 at h
    rcases ite_out h with ⟨h25, h⟩ | ⟨h25, h⟩
    · obtain ⟨x26, h27, h⟩ := bind_out h
      obtain ⟨r28, h29, h⟩ := bind_out h
      rcases ite_out h with ⟨h30, h⟩ | ⟨h30, h⟩
      · injection h with h; subst h; exact runLp_sound mixedOrders (live := [2]) (ids := []) (π := [.dec true, .row (c92 x26), .callv (.v (.bool r28)), .dec true]) (hx := by kernel_rfl) (hps := pc (h25) <| pc (ob92 h27) <| pc (k_palingref15_Place h29) <| pc (h30) <| pn)
      · obtain ⟨x31, h32, h⟩ := bind_out h
        rcases ite_out h with ⟨h33, h⟩ | ⟨h33, h⟩
        · injection h with h; subst h; exact runLp_sound mixedOrders (live := [2]) (ids := []) (π := [.dec true, .row (c92 x26), .callv (.v (.bool r28)), .dec false, .row (c92 x31), .dec true]) (hx := by kernel_rfl) (hps := pc (h25) <| pc (ob92 h27) <| pc (k_palingref15_Place h29) <| pc (h30) <| pc (ob92 h32) <| pc (h33) <| pn)
        · injection h with h; subst h; exact runLp_sound mixedOrders (live := [1, 2, 6]) (ids := [0]) (π := [.dec true, .row (c92 x26), .callv (.v (.bool r28)), .dec false, .row (c92 x31), .dec false]) (hx := by kernel_rfl) (hps := pc (h25) <| pc (ob92 h27) <| pc (k_palingref15_Place h29) <| pc (h30) <| pc (ob92 h32) <| pc (h33) <| pn)
    · injection h with h; subst h; exact runLp_sound mixedOrders (live := [1, 2]) (ids := [0]) (π := [.dec false]) (hx := by kernel_rfl) (hps := pc (h25) <| pn)
  · rcases r with _ | _ <;> exact Ex.noConfusion

theorem k_palingref15_rest_L3 {a1 : Api_Net} : LoopOK Try.prog UU 0 192 (subC (codeOf Try.f66) [1, 1, 1, 0, 1, 0, 0]) (ρ := Unit ⊕ Unit) (palingref15_rest_L3 a1)
    (fun v36 : Int => ([(1, .op 0 1 0 0), (2, .v (.bool false)), (7, .v (.int .i64 v36))] : Fr DD)) (fun v36 : Int => ([.box 31 (c31 a1) false] : Heap DD)) (fun r => match r with | Sum.inl _ => .ret | Sum.inr _ => .exit 4) (fun r => match r with | Sum.inl _ => [(2, .v (.bool false))] | Sum.inr _ => [(1, .op 0 1 0 0), (2, .v (.bool false))]) (fun r => match r with | Sum.inl _ => [] | Sum.inr _ => [.box 31 (c31 a1) false]) := by
  refine loop_sound3 (fun s q h => ?_) (fun r => ?_)
  · replace h : palingref15_rest_L3 a1 s = some q := h; revert h; revert s; intro v36 h
    unfold palingref15_rest_L3 at h
    rcases ite_out h with ⟨h37, h⟩ | ⟨h37, h⟩
    · obtain ⟨x38, h39, h⟩ := bind_out h
      obtain ⟨r40, h41, h⟩ := bind_out h
      rcases ite_out h with ⟨h42, h⟩ | ⟨h42, h⟩
      · injection h with h; subst h; exact runLp_sound mixedOrders (live := [2]) (ids := []) (π := [.dec true, .row (c94 x38), .callv (.v (.bool r40)), .dec true]) (hx := by kernel_rfl) (hps := pc (h37) <| pc (ob94 h39) <| pc (k_palingref15_Place h41) <| pc (h42) <| pn)
      · obtain ⟨r43, h44, h⟩ := bind_out h
        rcases ite_out h with ⟨h45, h⟩ | ⟨h45, h⟩
        · injection h with h; subst h; exact runLp_sound mixedOrders (live := [2]) (ids := []) (π := [.dec true, .row (c94 x38), .callv (.v (.bool r40)), .dec false, .callv (.v (.bool r43)), .dec true]) (hx := by kernel_rfl) (hps := pc (h37) <| pc (ob94 h39) <| pc (k_palingref15_Place h41) <| pc (h42) <| pc (k_palingref15_rising h44) <| pc (h45) <| pn)
        · obtain ⟨r46, h47, h⟩ := bind_out h
          rcases ite_out h with ⟨h48, h⟩ | ⟨h48, h⟩
          · injection h with h; subst h; exact runLp_sound mixedOrders (live := [2]) (ids := []) (π := [.dec true, .row (c94 x38), .callv (.v (.bool r40)), .dec false, .callv (.v (.bool r43)), .dec false, .callv (.v (.bool r46)), .dec true]) (hx := by kernel_rfl) (hps := pc (h37) <| pc (ob94 h39) <| pc (k_palingref15_Place h41) <| pc (h42) <| pc (k_palingref15_rising h44) <| pc (h45) <| pc (k_palingref15_rising h47) <| pc (h48) <| pn)
          · injection h with h; subst h; exact runLp_sound mixedOrders (live := [1, 2, 7]) (ids := [0]) (π := [.dec true, .row (c94 x38), .callv (.v (.bool r40)), .dec false, .callv (.v (.bool r43)), .dec false, .callv (.v (.bool r46)), .dec false]) (hx := by kernel_rfl) (hps := pc (h37) <| pc (ob94 h39) <| pc (k_palingref15_Place h41) <| pc (h42) <| pc (k_palingref15_rising h44) <| pc (h45) <| pc (k_palingref15_rising h47) <| pc (h48) <| pn)
    · injection h with h; subst h; exact runLp_sound mixedOrders (live := [1, 2]) (ids := [0]) (π := [.dec false]) (hx := by kernel_rfl) (hps := pc (h37) <| pn)
  · rcases r with _ | _ <;> exact Ex.noConfusion

theorem k_palingref15_rest_L4 {a1 : Api_Net} : LoopOK Try.prog UU 0 192 (subC (codeOf Try.f66) [1, 1, 1, 1, 0, 1, 0, 0]) (ρ := Unit ⊕ Unit) (palingref15_rest_L4 a1)
    (fun v51 : Int => ([(1, .op 0 1 0 0), (2, .v (.bool false)), (9, .v (.int .i64 v51))] : Fr DD)) (fun v51 : Int => ([.box 31 (c31 a1) false] : Heap DD)) (fun r => match r with | Sum.inl _ => .ret | Sum.inr _ => .exit 6) (fun r => match r with | Sum.inl _ => [(2, .v (.bool false))] | Sum.inr _ => [(2, .v (.bool false))]) (fun r => match r with | Sum.inl _ => [] | Sum.inr _ => []) := by
  refine loop_sound3 (fun s q h => ?_) (fun r => ?_)
  · replace h : palingref15_rest_L4 a1 s = some q := h; revert h; revert s; intro v51 h
    unfold palingref15_rest_L4 at h
    rcases ite_out h with ⟨h52, h⟩ | ⟨h52, h⟩
    · obtain ⟨x53, h54, h⟩ := bind_out h
      obtain ⟨r55, h56, h⟩ := bind_out h
      rcases ite_out h with ⟨h57, h⟩ | ⟨h57, h⟩
      · injection h with h; subst h; exact runLp_sound mixedOrders (live := [2]) (ids := []) (π := [.dec true, .row (c130 x53), .callv (.v (.bool r55)), .dec true]) (hx := by kernel_rfl) (hps := pc (h52) <| pc (ob130 h54) <| pc (k_palingref15_Place h56) <| pc (h57) <| pn)
      · obtain ⟨r58, h59, h⟩ := bind_out h
        rcases ite_out h with ⟨h60, h⟩ | ⟨h60, h⟩
        · injection h with h; subst h; exact runLp_sound mixedOrders (live := [2]) (ids := []) (π := [.dec true, .row (c130 x53), .callv (.v (.bool r55)), .dec false, .callv (.v (.bool r58)), .dec true]) (hx := by kernel_rfl) (hps := pc (h52) <| pc (ob130 h54) <| pc (k_palingref15_Place h56) <| pc (h57) <| pc (k_palingref15_Place h59) <| pc (h60) <| pn)
        · rcases ite_out h with ⟨h61, h⟩ | ⟨h61, h⟩
          · injection h with h; subst h; exact runLp_sound mixedOrders (live := [2]) (ids := []) (π := [.dec true, .row (c130 x53), .callv (.v (.bool r55)), .dec false, .callv (.v (.bool r58)), .dec false, .dec true]) (hx := by kernel_rfl) (hps := pc (h52) <| pc (ob130 h54) <| pc (k_palingref15_Place h56) <| pc (h57) <| pc (k_palingref15_Place h59) <| pc (h60) <| pc (h61) <| pn)
          · rcases ite_out h with ⟨h62, h⟩ | ⟨h62, h⟩
            · injection h with h; subst h; exact runLp_sound mixedOrders (live := [2]) (ids := []) (π := [.dec true, .row (c130 x53), .callv (.v (.bool r55)), .dec false, .callv (.v (.bool r58)), .dec false, .dec false, .dec true]) (hx := by kernel_rfl) (hps := pc (h52) <| pc (ob130 h54) <| pc (k_palingref15_Place h56) <| pc (h57) <| pc (k_palingref15_Place h59) <| pc (h60) <| pc (h61) <| pc (h62) <| pn)
            · obtain ⟨x63, h64, h⟩ := bind_out h
              obtain ⟨x65, h66, h⟩ := bind_out h
              rcases ite_out h with ⟨h67, h⟩ | ⟨h67, h⟩
              · injection h with h; subst h; exact runLp_sound mixedOrders (live := [2]) (ids := []) (π := [.dec true, .row (c130 x53), .callv (.v (.bool r55)), .dec false, .callv (.v (.bool r58)), .dec false, .dec false, .dec false, .row (c40 x63), .row (c94 x65), .dec true]) (hx := by kernel_rfl) (hps := pc (h52) <| pc (ob130 h54) <| pc (k_palingref15_Place h56) <| pc (h57) <| pc (k_palingref15_Place h59) <| pc (h60) <| pc (h61) <| pc (h62) <| pc (ob40 h64) <| pc (ob94 h66) <| pc (h67) <| pn)
              · obtain ⟨x68, h69, h⟩ := bind_out h
                rcases ite_out h with ⟨h70, h⟩ | ⟨h70, h⟩
                · injection h with h; subst h; exact runLp_sound mixedOrders (live := [2]) (ids := []) (π := [.dec true, .row (c130 x53), .callv (.v (.bool r55)), .dec false, .callv (.v (.bool r58)), .dec false, .dec false, .dec false, .row (c40 x63), .row (c94 x65), .dec false, .row (c40 x68), .dec true]) (hx := by kernel_rfl) (hps := pc (h52) <| pc (ob130 h54) <| pc (k_palingref15_Place h56) <| pc (h57) <| pc (k_palingref15_Place h59) <| pc (h60) <| pc (h61) <| pc (h62) <| pc (ob40 h64) <| pc (ob94 h66) <| pc (h67) <| pc (ob40 h69) <| pc (h70) <| pn)
                · injection h with h; subst h; exact runLp_sound mixedOrders (live := [1, 2, 9]) (ids := [0]) (π := [.dec true, .row (c130 x53), .callv (.v (.bool r55)), .dec false, .callv (.v (.bool r58)), .dec false, .dec false, .dec false, .row (c40 x63), .row (c94 x65), .dec false, .row (c40 x68), .dec false]) (hx := by kernel_rfl) (hps := pc (h52) <| pc (ob130 h54) <| pc (k_palingref15_Place h56) <| pc (h57) <| pc (k_palingref15_Place h59) <| pc (h60) <| pc (h61) <| pc (h62) <| pc (ob40 h64) <| pc (ob94 h66) <| pc (h67) <| pc (ob40 h69) <| pc (h70) <| pn)
    · injection h with h; subst h; exact runLp_sound mixedOrders (live := [2]) (ids := []) (π := [.dec false]) (hx := by kernel_rfl) (hps := pc (h52) <| pn)
  · rcases r with _ | _ <;> exact Ex.noConfusion

theorem k_palingref15_rest {a1 : Api_Net} {r : Bool} (h : palingref15_rest a1 = some r) :
    CallsOK Try.prog UU 66 [.agg (c31 a1)] [] (.v (.bool r)) [] := by
  unfold palingref15_rest at h
  obtain ⟨r23, h22, h⟩ := bind_out h
  rcases r23 with _ | _
  · injection h with h; subst h; exact runFn_sound mixedOrders Try.func66 rfl (keep := none) (π := [.sum [1, 2, 3] [0] .ret [(2, .v (.bool false))] []]) (hrun := by kernel_rfl) (hps := pc (k_palingref15_rest_L1 _ _ h22) <| pn)
  · obtain ⟨r35, h34, h⟩ := bind_out h
    rcases r35 with _ | _
    · injection h with h; subst h; exact runFn_sound mixedOrders Try.func66 rfl (keep := none) (π := [.sum [1, 2, 3] [0] (.exit 0) [(1, .op 0 1 0 0), (2, .v (.bool false))] [.box 31 (c31 a1) false], .sum [1, 2, 6] [0] .ret [(2, .v (.bool false))] []]) (hrun := by kernel_rfl) (hps := pc (k_palingref15_rest_L1 _ _ h22) <| pc (k_palingref15_rest_L2 _ _ h34) <| pn)
    · obtain ⟨r50, h49, h⟩ := bind_out h
      rcases r50 with _ | _
      · injection h with h; subst h; exact runFn_sound mixedOrders Try.func66 rfl (keep := none) (π := [.sum [1, 2, 3] [0] (.exit 0) [(1, .op 0 1 0 0), (2, .v (.bool false))] [.box 31 (c31 a1) false], .sum [1, 2, 6] [0] (.exit 2) [(1, .op 0 1 0 0), (2, .v (.bool false))] [.box 31 (c31 a1) false], .sum [1, 2, 7] [0] .ret [(2, .v (.bool false))] []]) (hrun := by kernel_rfl) (hps := pc (k_palingref15_rest_L1 _ _ h22) <| pc (k_palingref15_rest_L2 _ _ h34) <| pc (k_palingref15_rest_L3 _ _ h49) <| pn)
      · obtain ⟨r72, h71, h⟩ := bind_out h
        rcases r72 with _ | _
        · injection h with h; subst h; exact runFn_sound mixedOrders Try.func66 rfl (keep := none) (π := [.sum [1, 2, 3] [0] (.exit 0) [(1, .op 0 1 0 0), (2, .v (.bool false))] [.box 31 (c31 a1) false], .sum [1, 2, 6] [0] (.exit 2) [(1, .op 0 1 0 0), (2, .v (.bool false))] [.box 31 (c31 a1) false], .sum [1, 2, 7] [0] (.exit 4) [(1, .op 0 1 0 0), (2, .v (.bool false))] [.box 31 (c31 a1) false], .sum [1, 2, 9] [0] .ret [(2, .v (.bool false))] []]) (hrun := by kernel_rfl) (hps := pc (k_palingref15_rest_L1 _ _ h22) <| pc (k_palingref15_rest_L2 _ _ h34) <| pc (k_palingref15_rest_L3 _ _ h49) <| pc (k_palingref15_rest_L4 _ _ h71) <| pn)
        · injection h with h; subst h; exact runFn_sound mixedOrders Try.func66 rfl (keep := none) (π := [.sum [1, 2, 3] [0] (.exit 0) [(1, .op 0 1 0 0), (2, .v (.bool false))] [.box 31 (c31 a1) false], .sum [1, 2, 6] [0] (.exit 2) [(1, .op 0 1 0 0), (2, .v (.bool false))] [.box 31 (c31 a1) false], .sum [1, 2, 7] [0] (.exit 4) [(1, .op 0 1 0 0), (2, .v (.bool false))] [.box 31 (c31 a1) false], .sum [1, 2, 9] [0] (.exit 6) [(2, .v (.bool false))] []]) (hrun := by kernel_rfl) (hps := pc (k_palingref15_rest_L1 _ _ h22) <| pc (k_palingref15_rest_L2 _ _ h34) <| pc (k_palingref15_rest_L3 _ _ h49) <| pc (k_palingref15_rest_L4 _ _ h71) <| pn)

theorem k_palingref15_Right {a1 : Api_Net} {r : Bool} (h : palingref15_Right a1 = some r) :
    CallsOK Try.prog UU 19 [.agg (c31 a1)] [] (.v (.bool r)) [] := by
  unfold palingref15_Right at h
  rcases ite_out h with ⟨h2, h⟩ | ⟨h2, h⟩
  · injection h with h; subst h; exact runFn_sound mixedOrders Try.func19 rfl (keep := none) (π := [.dec true]) (hrun := by kernel_rfl) (hps := pc (h2) <| pn)
  · rcases ite_out h with ⟨h3, h⟩ | ⟨h3, h⟩
    · injection h with h; subst h; exact runFn_sound mixedOrders Try.func19 rfl (keep := none) (π := [.dec false, .dec true]) (hrun := by kernel_rfl) (hps := pc (h2) <| pc (h3) <| pn)
    · rcases ite_out h with ⟨h4, h⟩ | ⟨h4, h⟩
      · injection h with h; subst h; exact runFn_sound mixedOrders Try.func19 rfl (keep := none) (π := [.dec false, .dec false, .dec true]) (hrun := by kernel_rfl) (hps := pc (h2) <| pc (h3) <| pc (h4) <| pn)
      · rcases ite_out h with ⟨h5, h⟩ | ⟨h5, h⟩
        · injection h with h; subst h; exact runFn_sound mixedOrders Try.func19 rfl (keep := none) (π := [.dec false, .dec false, .dec false, .dec true]) (hrun := by kernel_rfl) (hps := pc (h2) <| pc (h3) <| pc (h4) <| pc (h5) <| pn)
        · rcases ite_out h with ⟨h6, h⟩ | ⟨h6, h⟩
          · injection h with h; subst h; exact runFn_sound mixedOrders Try.func19 rfl (keep := none) (π := [.dec false, .dec false, .dec false, .dec false, .dec true]) (hrun := by kernel_rfl) (hps := pc (h2) <| pc (h3) <| pc (h4) <| pc (h5) <| pc (h6) <| pn)
          · rcases ite_out h with ⟨h7, h⟩ | ⟨h7, h⟩
            · injection h with h; subst h; exact runFn_sound mixedOrders Try.func19 rfl (keep := none) (π := [.dec false, .dec false, .dec false, .dec false, .dec false, .dec true]) (hrun := by kernel_rfl) (hps := pc (h2) <| pc (h3) <| pc (h4) <| pc (h5) <| pc (h6) <| pc (h7) <| pn)
            · rcases ite_out h with ⟨h8, h⟩ | ⟨h8, h⟩
              · injection h with h; subst h; exact runFn_sound mixedOrders Try.func19 rfl (keep := none) (π := [.dec false, .dec false, .dec false, .dec false, .dec false, .dec false, .dec true]) (hrun := by kernel_rfl) (hps := pc (h2) <| pc (h3) <| pc (h4) <| pc (h5) <| pc (h6) <| pc (h7) <| pc (h8) <| pn)
              · rcases ite_out h with ⟨h9, h⟩ | ⟨h9, h⟩
                · injection h with h; subst h; exact runFn_sound mixedOrders Try.func19 rfl (keep := none) (π := [.dec false, .dec false, .dec false, .dec false, .dec false, .dec false, .dec false, .dec true]) (hrun := by kernel_rfl) (hps := pc (h2) <| pc (h3) <| pc (h4) <| pc (h5) <| pc (h6) <| pc (h7) <| pc (h8) <| pc (h9) <| pn)
                · obtain ⟨r10, h11, h⟩ := bind_out h
                  rcases ite_out h with ⟨h12, h⟩ | ⟨h12, h⟩
                  · obtain ⟨r13, h14, h⟩ := bind_out h
                    rcases ite_out h with ⟨h15, h⟩ | ⟨h15, h⟩
                    · obtain ⟨r16, h17, h⟩ := bind_out h
                      rcases ite_out h with ⟨h18, h⟩ | ⟨h18, h⟩
                      · obtain ⟨r19, h20, h⟩ := bind_out h
                        injection h with h; subst h; exact runFn_sound mixedOrders Try.func19 rfl (keep := none) (π := [.dec false, .dec false, .dec false, .dec false, .dec false, .dec false, .dec false, .dec false, .callv (.v (.bool r10)), .dec true, .callv (.v (.bool r13)), .dec true, .callv (.v (.bool r16)), .dec true, .callv (.v (.bool r19))]) (hrun := by kernel_rfl) (hps := pc (h2) <| pc (h3) <| pc (h4) <| pc (h5) <| pc (h6) <| pc (h7) <| pc (h8) <| pc (h9) <| pc (k_palingref15_domains h11) <| pc (h12) <| pc (k_palingref15_ports h14) <| pc (h15) <| pc (k_palingref15_links h17) <| pc (h18) <| pc (k_palingref15_rest h20) <| pn)
                      · injection h with h; subst h; exact runFn_sound mixedOrders Try.func19 rfl (keep := none) (π := [.dec false, .dec false, .dec false, .dec false, .dec false, .dec false, .dec false, .dec false, .callv (.v (.bool r10)), .dec true, .callv (.v (.bool r13)), .dec true, .callv (.v (.bool r16)), .dec false]) (hrun := by kernel_rfl) (hps := pc (h2) <| pc (h3) <| pc (h4) <| pc (h5) <| pc (h6) <| pc (h7) <| pc (h8) <| pc (h9) <| pc (k_palingref15_domains h11) <| pc (h12) <| pc (k_palingref15_ports h14) <| pc (h15) <| pc (k_palingref15_links h17) <| pc (h18) <| pn)
                    · injection h with h; subst h; exact runFn_sound mixedOrders Try.func19 rfl (keep := none) (π := [.dec false, .dec false, .dec false, .dec false, .dec false, .dec false, .dec false, .dec false, .callv (.v (.bool r10)), .dec true, .callv (.v (.bool r13)), .dec false]) (hrun := by kernel_rfl) (hps := pc (h2) <| pc (h3) <| pc (h4) <| pc (h5) <| pc (h6) <| pc (h7) <| pc (h8) <| pc (h9) <| pc (k_palingref15_domains h11) <| pc (h12) <| pc (k_palingref15_ports h14) <| pc (h15) <| pn)
                  · injection h with h; subst h; exact runFn_sound mixedOrders Try.func19 rfl (keep := none) (π := [.dec false, .dec false, .dec false, .dec false, .dec false, .dec false, .dec false, .dec false, .callv (.v (.bool r10)), .dec false]) (hrun := by kernel_rfl) (hps := pc (h2) <| pc (h3) <| pc (h4) <| pc (h5) <| pc (h6) <| pc (h7) <| pc (h8) <| pc (h9) <| pc (k_palingref15_domains h11) <| pc (h12) <| pn)

theorem k_palingref14_words_L1 {a1 : Api_Tenant} : LoopOK Try.prog UU 0 38 (subC (codeOf Try.f162) [1, 1, 0, 1, 0, 0]) (fun s : (List ByteArray) × Int => match s with | (l2, v3) => palingref14_words_L1 a1 l2 v3)
    (fun s : (List ByteArray) × Int => (match s with | (l2, v3) => [(1, .op 0 1 0 0), (2, .os 1 0), (3, .os 2 (List.length l2)), (4, .v (.int .i64 v3))] : Fr DD)) (fun s : (List ByteArray) × Int => (match s with | (l2, v3) => [.box 56 (c56 a1) false, .n 9, .arr 9 l2 (List.length l2) false] : Heap DD)) (fun r => match r with | l15 => .exit 0) (fun r => match r with | l15 => [(2, .os 0 0), (3, .os 1 (List.length l15))]) (fun r => match r with | l15 => [.n 9, .arr 9 l15 (List.length l15) false]) := by
  refine loop_sound3 (fun s q h => ?_) (fun r => ?_)
  · obtain ⟨l2, v3⟩ := s; replace h : palingref14_words_L1 a1 l2 v3 = some q := h
    unfold palingref14_words_L1 at h
    rcases ite_out h with ⟨h4, h⟩ | ⟨h4, h⟩
    · rcases ite_out h with ⟨h5, h⟩ | ⟨h5, h⟩
      · obtain ⟨x6, h7, h⟩ := bind_out h
        rcases ite_out h with ⟨h8, h⟩ | ⟨h8, h⟩
        · obtain ⟨x9, h10, h⟩ := bind_out h
          rcases ite_out h with ⟨h11, h⟩ | ⟨h11, h⟩
          · rcases ite_out h with ⟨h12, h⟩ | ⟨h12, h⟩
            · injection h with h; subst h; exact runLp_sound mixedOrders (live := [1, 2, 3, 4]) (ids := [0, 1, 2]) (π := [.dec true, .dec true, .row (c9 x6), .row (c9 x9), .obj [] (.arr 9 [(x6 ++ (⟨#[46]⟩ : ByteArray)) ++ x9] (List.length [(x6 ++ (⟨#[46]⟩ : ByteArray)) ++ x9]) false), .obj [] (.arr 9 (l2 ++ [(x6 ++ (⟨#[46]⟩ : ByteArray)) ++ x9]) (List.length (l2 ++ [(x6 ++ (⟨#[46]⟩ : ByteArray)) ++ x9])) false)]) (hx := by kernel_rfl) (hps := pc (h4) <| pc (h5) <| pc (ob9 h7) <| pc (of_decide_eq_true h8) <| pc (ob9 h10) <| pc (of_decide_eq_true h11) <| pc (bs_ob 9 [(x6 ++ (⟨#[46]⟩ : ByteArray)) ++ x9]) <| pc (app_ob 9 (n := (List.length l2)) (l := l2) (xs := [(x6 ++ (⟨#[46]⟩ : ByteArray)) ++ x9]) h12) <| pn)
            · cases h
          · cases h
        · cases h
      · injection h with h; subst h; exact runLp_sound mixedOrders (live := [2, 3]) (ids := [1, 2]) (π := [.dec true, .dec false]) (hx := by kernel_rfl) (hps := pc (h4) <| pc (h5) <| pn)
    · injection h with h; subst h; exact runLp_sound mixedOrders (live := [2, 3]) (ids := [1, 2]) (π := [.dec false]) (hx := by kernel_rfl) (hps := pc (h4) <| pn)
  · exact Ex.noConfusion

theorem k_palingref14_words {a1 : Api_Tenant} {r : ((List ByteArray))} (h : palingref14_words a1 = some r) :
    CallsOK Try.prog UU 162 [.agg (c56 a1)] [] ((fun r => match r with | l18 => .os 0 (List.length l18)) r) ((fun r => match r with | l18 => [.arr 9 l18 (List.length l18) false]) r) := by
  unfold palingref14_words at h
  obtain ⟨l15, h16, h⟩ := bind_out h
  injection h with h; subst h; exact runFn_sound mixedOrders Try.func162 rfl (keep := some [1]) (π := [.obj [] (.arr 9 [(⟨#[116, 101, 110, 97, 110, 116]⟩ : ByteArray), a1.name] (List.length [(⟨#[116, 101, 110, 97, 110, 116]⟩ : ByteArray), a1.name]) false), .sum [1, 2, 3, 4] [0, 1, 2] (.exit 0) [(2, .os 0 0), (3, .os 1 (List.length l15))] [.n 9, .arr 9 l15 (List.length l15) false]]) (hrun := by kernel_rfl) (hps := pc (bs_ob 9 [(⟨#[116, 101, 110, 97, 110, 116]⟩ : ByteArray), a1.name]) <| pc (k_palingref14_words_L1 _ _ h16) <| pn)

theorem k_palingref03_Name_L1 {a1 : ByteArray} : LoopOK Try.prog UU 0 50 (subC (codeOf Try.f167) [1, 1, 0, 1, 0, 0]) (ρ := Unit ⊕ Unit) (palingref03_Name_L1 a1)
    (fun v7 : Int => ([(0, .v (.string a1)), (2, .v (.bool false)), (3, .v (.int .i64 v7))] : Fr DD)) (fun v7 : Int => ([] : Heap DD)) (fun r => match r with | Sum.inl _ => .ret | Sum.inr _ => .exit 0) (fun r => match r with | Sum.inl _ => [(2, .v (.bool false))] | Sum.inr _ => [(2, .v (.bool false))]) (fun r => match r with | Sum.inl _ => [] | Sum.inr _ => []) := by
  refine loop_sound3 (fun s q h => ?_) (fun r => ?_)
  · replace h : palingref03_Name_L1 a1 s = some q := h; revert h; revert s; intro v7 h
    unfold palingref03_Name_L1 at h
    rcases ite_out h with ⟨h8, h⟩ | ⟨h8, h⟩
    · rcases ite_out h with ⟨h9, h⟩ | ⟨h9, h⟩
      · rcases ite_out h with ⟨h10, h⟩ | ⟨h10, h⟩
        · rcases ite_out h with ⟨h11, h⟩ | ⟨h11, h⟩
          · injection h with h; subst h; exact runLp_sound mixedOrders (live := [2]) (ids := []) (π := [.dec true, .dec true, .dec true]) (hx := by kernel_rfl) (hps := pc (h8) <| pc (of_decide_eq_true h9) <| pc (h10) <| pc (of_decide_eq_true h9) <| pc (h11) <| pn)
          · rcases ite_out h with ⟨h12, h⟩ | ⟨h12, h⟩
            · injection h with h; subst h; exact runLp_sound mixedOrders (live := [2]) (ids := []) (π := [.dec true, .dec true, .dec false, .dec true]) (hx := by kernel_rfl) (hps := pc (h8) <| pc (of_decide_eq_true h9) <| pc (h10) <| pc (of_decide_eq_true h9) <| pc (h11) <| pc (of_decide_eq_true h9) <| pc (h12) <| pn)
            · injection h with h; subst h; exact runLp_sound mixedOrders (live := [0, 2, 3]) (ids := []) (π := [.dec true, .dec true, .dec false, .dec false]) (hx := by kernel_rfl) (hps := pc (h8) <| pc (of_decide_eq_true h9) <| pc (h10) <| pc (of_decide_eq_true h9) <| pc (h11) <| pc (of_decide_eq_true h9) <| pc (h12) <| pn)
        · rcases ite_out h with ⟨h13, h⟩ | ⟨h13, h⟩
          · rcases ite_out h with ⟨h14, h⟩ | ⟨h14, h⟩
            · injection h with h; subst h; exact runLp_sound mixedOrders (live := [2]) (ids := []) (π := [.dec true, .dec false, .dec true, .dec true]) (hx := by kernel_rfl) (hps := pc (h8) <| pc (of_decide_eq_true h9) <| pc (h10) <| pc (of_decide_eq_true h9) <| pc (h13) <| pc (of_decide_eq_true h9) <| pc (h14) <| pn)
            · rcases ite_out h with ⟨h15, h⟩ | ⟨h15, h⟩
              · injection h with h; subst h; exact runLp_sound mixedOrders (live := [2]) (ids := []) (π := [.dec true, .dec false, .dec true, .dec false, .dec true]) (hx := by kernel_rfl) (hps := pc (h8) <| pc (of_decide_eq_true h9) <| pc (h10) <| pc (of_decide_eq_true h9) <| pc (h13) <| pc (of_decide_eq_true h9) <| pc (h14) <| pc (of_decide_eq_true h9) <| pc (h15) <| pn)
              · injection h with h; subst h; exact runLp_sound mixedOrders (live := [0, 2, 3]) (ids := []) (π := [.dec true, .dec false, .dec true, .dec false, .dec false]) (hx := by kernel_rfl) (hps := pc (h8) <| pc (of_decide_eq_true h9) <| pc (h10) <| pc (of_decide_eq_true h9) <| pc (h13) <| pc (of_decide_eq_true h9) <| pc (h14) <| pc (of_decide_eq_true h9) <| pc (h15) <| pn)
          · injection h with h; subst h; exact runLp_sound mixedOrders (live := [0, 2, 3]) (ids := []) (π := [.dec true, .dec false, .dec false]) (hx := by kernel_rfl) (hps := pc (h8) <| pc (of_decide_eq_true h9) <| pc (h10) <| pc (of_decide_eq_true h9) <| pc (h13) <| pn)
      · cases h
    · injection h with h; subst h; exact runLp_sound mixedOrders (live := [2]) (ids := []) (π := [.dec false]) (hx := by kernel_rfl) (hps := pc (h8) <| pn)
  · rcases r with _ | _ <;> exact Ex.noConfusion

theorem k_palingref03_Name {a1 : ByteArray} {r : Bool} (h : palingref03_Name a1 = some r) :
    CallsOK Try.prog UU 167 [.v (.string a1)] [] (.v (.bool r)) [] := by
  unfold palingref03_Name at h
  rcases ite_out h with ⟨h2, h⟩ | ⟨h2, h⟩
  · injection h with h; subst h; exact runFn_sound mixedOrders Try.func167 rfl (keep := none) (π := [.dec true]) (hrun := by kernel_rfl) (hps := pc (h2) <| pn)
  · rcases ite_out h with ⟨h3, h⟩ | ⟨h3, h⟩
    · injection h with h; subst h; exact runFn_sound mixedOrders Try.func167 rfl (keep := none) (π := [.dec false, .dec true]) (hrun := by kernel_rfl) (hps := pc (h2) <| pc (h3) <| pn)
    · rcases ite_out h with ⟨h4, h⟩ | ⟨h4, h⟩
      · rcases ite_out h with ⟨h5, h⟩ | ⟨h5, h⟩
        · injection h with h; subst h; exact runFn_sound mixedOrders Try.func167 rfl (keep := none) (π := [.dec false, .dec false, .dec true]) (hrun := by kernel_rfl) (hps := pc (h2) <| pc (h3) <| pc (of_decide_eq_true h4) <| pc (h5) <| pn)
        · rcases ite_out h with ⟨h6, h⟩ | ⟨h6, h⟩
          · injection h with h; subst h; exact runFn_sound mixedOrders Try.func167 rfl (keep := none) (π := [.dec false, .dec false, .dec false, .dec true]) (hrun := by kernel_rfl) (hps := pc (h2) <| pc (h3) <| pc (of_decide_eq_true h4) <| pc (h5) <| pc (of_decide_eq_true h4) <| pc (h6) <| pn)
          · obtain ⟨r17, h16, h⟩ := bind_out h
            rcases r17 with _ | _
            · injection h with h; subst h; exact runFn_sound mixedOrders Try.func167 rfl (keep := none) (π := [.dec false, .dec false, .dec false, .dec false, .sum [0, 2, 3] [] .ret [(2, .v (.bool false))] []]) (hrun := by kernel_rfl) (hps := pc (h2) <| pc (h3) <| pc (of_decide_eq_true h4) <| pc (h5) <| pc (of_decide_eq_true h4) <| pc (h6) <| pc (k_palingref03_Name_L1 _ _ h16) <| pn)
            · injection h with h; subst h; exact runFn_sound mixedOrders Try.func167 rfl (keep := none) (π := [.dec false, .dec false, .dec false, .dec false, .sum [0, 2, 3] [] (.exit 0) [(2, .v (.bool false))] []]) (hrun := by kernel_rfl) (hps := pc (h2) <| pc (h3) <| pc (of_decide_eq_true h4) <| pc (h5) <| pc (of_decide_eq_true h4) <| pc (h6) <| pc (k_palingref03_Name_L1 _ _ h16) <| pn)
      · cases h

theorem k_palingref14_dot_L1 {a1 : ByteArray} : LoopOK Try.prog UU 0 17 (subC (codeOf Try.f168) [1, 0, 1, 0, 0]) (ρ := Int ⊕ Unit) (palingref14_dot_L1 a1)
    (fun v2 : Int => ([(0, .v (.string a1)), (2, .z), (3, .v (.int .i64 v2))] : Fr DD)) (fun v2 : Int => ([] : Heap DD)) (fun r => match r with | Sum.inl v7 => .ret | Sum.inr _ => .exit 0) (fun r => match r with | Sum.inl v7 => [(2, .v (.int .i64 v7))] | Sum.inr _ => [(0, .v (.string a1)), (2, .z)]) (fun r => match r with | Sum.inl v7 => [] | Sum.inr _ => []) := by
  refine loop_sound3 (fun s q h => ?_) (fun r => ?_)
  · replace h : palingref14_dot_L1 a1 s = some q := h; revert h; revert s; intro v2 h
    unfold palingref14_dot_L1 at h
    rcases ite_out h with ⟨h3, h⟩ | ⟨h3, h⟩
    · rcases ite_out h with ⟨h4, h⟩ | ⟨h4, h⟩
      · rcases ite_out h with ⟨h5, h⟩ | ⟨h5, h⟩
        · injection h with h; subst h; exact runLp_sound mixedOrders (live := [2]) (ids := []) (π := [.dec true, .dec true]) (hx := by kernel_rfl) (hps := pc (h3) <| pc (of_decide_eq_true h4) <| pc (h5) <| pn)
        · injection h with h; subst h; exact runLp_sound mixedOrders (live := [0, 2, 3]) (ids := []) (π := [.dec true, .dec false]) (hx := by kernel_rfl) (hps := pc (h3) <| pc (of_decide_eq_true h4) <| pc (h5) <| pn)
      · cases h
    · injection h with h; subst h; exact runLp_sound mixedOrders (live := [0, 2]) (ids := []) (π := [.dec false]) (hx := by kernel_rfl) (hps := pc (h3) <| pn)
  · rcases r with _ | _ <;> exact Ex.noConfusion

theorem k_palingref14_dot {a1 : ByteArray} {r : Int} (h : palingref14_dot a1 = some r) :
    CallsOK Try.prog UU 168 [.v (.string a1)] [] (.v (.int .i64 r)) [] := by
  unfold palingref14_dot at h
  obtain ⟨r9, h8, h⟩ := bind_out h
  rcases r9 with v7 | _
  · injection h with h; subst h; exact runFn_sound mixedOrders Try.func168 rfl (keep := none) (π := [.sum [0, 2, 3] [] .ret [(2, .v (.int .i64 v7))] []]) (hrun := by kernel_rfl) (hps := pc (k_palingref14_dot_L1 _ _ h8) <| pn)
  · injection h with h; subst h; exact runFn_sound mixedOrders Try.func168 rfl (keep := none) (π := [.sum [0, 2, 3] [] (.exit 0) [(0, .v (.string a1)), (2, .z)] []]) (hrun := by kernel_rfl) (hps := pc (k_palingref14_dot_L1 _ _ h8) <| pn)

theorem k_palingref14_Row_L1 {a1 : List ByteArray} {a2 : Int} {x8 : ByteArray} : LoopOK Try.prog UU 0 99 (subC (codeOf Try.f161) [1, 1, 1, 1, 0, 1, 0, 0]) (fun s : (List ByteArray) × (List ByteArray) × Int => match s with | (l15, l16, v17) => palingref14_Row_L1 a1 a2 x8 l15 l16 v17)
    (fun s : (List ByteArray) × (List ByteArray) × Int => (match s with | (l15, l16, v17) => [(0, .sl 9 a1), (4, .op 0 1 0 0), (5, .z), (6, .op 3 1 0 0), (7, .v (.int .i64 v17))] : Fr DD)) (fun s : (List ByteArray) × (List ByteArray) × Int => (match s with | (l15, l16, v17) => [.box 56 [.z, .e, .os 1 0, .os 2 0] false, .n 9, .n 9, .box 56 [.v (.int .i64 a2), .v (.string x8), .os 4 (List.length l15), .os 5 (List.length l16)] false, .arr 9 l15 (List.length l15) false, .arr 9 l16 (List.length l16) false] : Heap DD)) (fun r => match r with | Sum.inl _ => .ret | Sum.inr (l52, l53) => .exit 0) (fun r => match r with | Sum.inl _ => [(4, .op 0 1 0 0), (5, .v (.int .i64 20))] | Sum.inr (l52, l53) => [(4, .op 0 1 0 0), (5, .z), (6, .op 3 1 0 0)]) (fun r => match r with | Sum.inl _ => [.box 56 [.z, .e, .os 1 0, .os 2 0] false, .n 9, .n 9] | Sum.inr (l52, l53) => [.box 56 [.z, .e, .os 1 0, .os 2 0] false, .n 9, .n 9, .box 56 [.v (.int .i64 a2), .v (.string x8), .os 4 (List.length l52), .os 5 (List.length l53)] false, .arr 9 l52 (List.length l52) false, .arr 9 l53 (List.length l53) false]) := by
  refine loop_sound3 (fun s q h => ?_) (fun r => ?_)
  · obtain ⟨l15, l16, v17⟩ := s; replace h : palingref14_Row_L1 a1 a2 x8 l15 l16 v17 = some q := h
    unfold palingref14_Row_L1 at h
    rcases ite_out h with ⟨h18, h⟩ | ⟨h18, h⟩
    · obtain ⟨x19, h20, h⟩ := bind_out h
      obtain ⟨r21, h22, h⟩ := bind_out h
      obtain ⟨x23, h24, h⟩ := bind_out h
      rcases ite_out h with ⟨h25, h⟩ | ⟨h25, h⟩
      · injection h with h; subst h; exact runLp_sound mixedOrders (live := [4, 5]) (ids := [0, 6, 7]) (π := [.dec true, .row (c9 x19), .callv (.v (.int .i64 r21)), .row (c9 x23), .dec true]) (hx := by kernel_rfl) (hps := pc (h18) <| pc (ob9 h20) <| pc (k_palingref14_dot h22) <| pc (ob9 h24) <| pc (h25) <| pn)
      · obtain ⟨x26, h27, h⟩ := bind_out h
        rcases ite_out h with ⟨h28, h⟩ | ⟨h28, h⟩
        · obtain ⟨r29, h30, h⟩ := bind_out h
          rcases ite_out h with ⟨h31, h⟩ | ⟨h31, h⟩
          · injection h with h; subst h; exact runLp_sound mixedOrders (live := [4, 5]) (ids := [0, 6, 7]) (π := [.dec true, .row (c9 x19), .callv (.v (.int .i64 r21)), .row (c9 x23), .dec false, .row (c9 x26), .callv (.v (.bool r29)), .dec true]) (hx := by kernel_rfl) (hps := pc (h18) <| pc (ob9 h20) <| pc (k_palingref14_dot h22) <| pc (ob9 h24) <| pc (h25) <| pc (ob9 h27) <| pc (sl_ob h28) <| pc (k_palingref03_Name h30) <| pc (h31) <| pn)
          · obtain ⟨x32, h33, h⟩ := bind_out h
            rcases ite_out h with ⟨h34, h⟩ | ⟨h34, h⟩
            · obtain ⟨r35, h36, h⟩ := bind_out h
              rcases ite_out h with ⟨h37, h⟩ | ⟨h37, h⟩
              · injection h with h; subst h; exact runLp_sound mixedOrders (live := [4, 5]) (ids := [0, 6, 7]) (π := [.dec true, .row (c9 x19), .callv (.v (.int .i64 r21)), .row (c9 x23), .dec false, .row (c9 x26), .callv (.v (.bool r29)), .dec false, .row (c9 x32), .callv (.v (.bool r35)), .dec true]) (hx := by kernel_rfl) (hps := pc (h18) <| pc (ob9 h20) <| pc (k_palingref14_dot h22) <| pc (ob9 h24) <| pc (h25) <| pc (ob9 h27) <| pc (sl_ob h28) <| pc (k_palingref03_Name h30) <| pc (h31) <| pc (ob9 h33) <| pc (sl_ob h34) <| pc (k_palingref03_Name h36) <| pc (h37) <| pn)
              · obtain ⟨x38, h39, h⟩ := bind_out h
                rcases ite_out h with ⟨h40, h⟩ | ⟨h40, h⟩
                · rcases ite_out h with ⟨h41, h⟩ | ⟨h41, h⟩
                  · obtain ⟨x42, h43, h⟩ := bind_out h
                    rcases ite_out h with ⟨h44, h⟩ | ⟨h44, h⟩
                    · rcases ite_out h with ⟨h45, h⟩ | ⟨h45, h⟩
                      · injection h with h; subst h; exact runLp_sound mixedOrders (live := [0, 4, 5, 6, 7]) (ids := [0, 1, 2, 3, 4, 5]) (π := [.dec true, .row (c9 x19), .callv (.v (.int .i64 r21)), .row (c9 x23), .dec false, .row (c9 x26), .callv (.v (.bool r29)), .dec false, .row (c9 x32), .callv (.v (.bool r35)), .dec false, .row (c9 x38), .obj [] (.arr 9 [(ByteArray.extract x38 (Int.toNat 0) (Int.toNat r21))] (List.length [(ByteArray.extract x38 (Int.toNat 0) (Int.toNat r21))]) false), .obj [] (.arr 9 (l15 ++ [(ByteArray.extract x38 (Int.toNat 0) (Int.toNat r21))]) (List.length (l15 ++ [(ByteArray.extract x38 (Int.toNat 0) (Int.toNat r21))])) false), .row (c9 x42), .obj [] (.arr 9 [(ByteArray.extract x42 (Int.toNat (wr_i64 (r21 + 1))) (Int.toNat (x42.size : Int)))] (List.length [(ByteArray.extract x42 (Int.toNat (wr_i64 (r21 + 1))) (Int.toNat (x42.size : Int)))]) false), .obj [] (.arr 9 (l16 ++ [(ByteArray.extract x42 (Int.toNat (wr_i64 (r21 + 1))) (Int.toNat (x42.size : Int)))]) (List.length (l16 ++ [(ByteArray.extract x42 (Int.toNat (wr_i64 (r21 + 1))) (Int.toNat (x42.size : Int)))])) false)]) (hx := by kernel_rfl) (hps := pc (h18) <| pc (ob9 h20) <| pc (k_palingref14_dot h22) <| pc (ob9 h24) <| pc (h25) <| pc (ob9 h27) <| pc (sl_ob h28) <| pc (k_palingref03_Name h30) <| pc (h31) <| pc (ob9 h33) <| pc (sl_ob h34) <| pc (k_palingref03_Name h36) <| pc (h37) <| pc (ob9 h39) <| pc (sl_ob h40) <| pc (bs_ob 9 [(ByteArray.extract x38 (Int.toNat 0) (Int.toNat r21))]) <| pc (app_ob 9 (n := (List.length l15)) (l := l15) (xs := [(ByteArray.extract x38 (Int.toNat 0) (Int.toNat r21))]) h41) <| pc (ob9 h43) <| pc (sl_ob h44) <| pc (bs_ob 9 [(ByteArray.extract x42 (Int.toNat (wr_i64 (r21 + 1))) (Int.toNat (x42.size : Int)))]) <| pc (app_ob 9 (n := (List.length l16)) (l := l16) (xs := [(ByteArray.extract x42 (Int.toNat (wr_i64 (r21 + 1))) (Int.toNat (x42.size : Int)))]) h45) <| pn)
                      · cases h
                    · cases h
                  · cases h
                · cases h
            · cases h
        · cases h
    · injection h with h; subst h; exact runLp_sound mixedOrders (live := [4, 5, 6]) (ids := [0, 1, 2, 3, 4, 5]) (π := [.dec false]) (hx := by kernel_rfl) (hps := pc (h18) <| pn)
  · rcases r with _ | _ <;> exact Ex.noConfusion

theorem k_palingref14_Row {a1 : List ByteArray} {a2 : Int} {r : ((List ByteArray) × (List ByteArray) × Int × ByteArray × Int)} (h : palingref14_Row a1 a2 = some r) :
    CallsOK Try.prog UU 161 [.sl 9 a1, .v (.int .i64 a2)] [] ((fun r => match r with | (l56, l57, v58, v59, v60) => .tup [.agg [.v (.int .i64 v58), .v (.string v59), .os 0 (List.length l56), .os 1 (List.length l57)], .v (.int .i64 v60)]) r) ((fun r => match r with | (l56, l57, v58, v59, v60) => [.arr 9 l56 (List.length l56) false, .arr 9 l57 (List.length l57) false]) r) := by
  unfold palingref14_Row at h
  obtain ⟨x3, h4, h⟩ := bind_out h
  rcases ite_out h with ⟨h5, h⟩ | ⟨h5, h⟩
  · injection h with h; subst h; exact runFn_sound mixedOrders Try.func161 rfl (keep := some [3, 4]) (π := [.row (c9 x3), .dec true]) (hrun := by kernel_rfl) (hps := pc (ob9 h4) <| pc (h5) <| pn)
  · rcases ite_out h with ⟨h6, h⟩ | ⟨h6, h⟩
    · injection h with h; subst h; exact runFn_sound mixedOrders Try.func161 rfl (keep := some [3, 4]) (π := [.row (c9 x3), .dec false, .dec true]) (hrun := by kernel_rfl) (hps := pc (ob9 h4) <| pc (h5) <| pc (h6) <| pn)
    · rcases ite_out h with ⟨h7, h⟩ | ⟨h7, h⟩
      · injection h with h; subst h; exact runFn_sound mixedOrders Try.func161 rfl (keep := some [3, 4]) (π := [.row (c9 x3), .dec false, .dec false, .dec true]) (hrun := by kernel_rfl) (hps := pc (ob9 h4) <| pc (h5) <| pc (h6) <| pc (h7) <| pn)
      · obtain ⟨x8, h9, h⟩ := bind_out h
        obtain ⟨x10, h11, h⟩ := bind_out h
        obtain ⟨r12, h13, h⟩ := bind_out h
        rcases ite_out h with ⟨h14, h⟩ | ⟨h14, h⟩
        · injection h with h; subst h; exact runFn_sound mixedOrders Try.func161 rfl (keep := some [8, 9]) (π := [.row (c9 x3), .dec false, .dec false, .dec false, .row (c9 x8), .row (c9 x10), .callv (.v (.bool r12)), .dec true]) (hrun := by kernel_rfl) (hps := pc (ob9 h4) <| pc (h5) <| pc (h6) <| pc (h7) <| pc (ob9 h9) <| pc (ob9 h11) <| pc (k_palingref03_Name h13) <| pc (h14) <| pn)
        · obtain ⟨r55, h54, h⟩ := bind_out h
          rcases r55 with _ | ⟨l52, l53⟩
          · injection h with h; subst h; exact runFn_sound mixedOrders Try.func161 rfl (keep := some [1, 2]) (π := [.row (c9 x3), .dec false, .dec false, .dec false, .row (c9 x8), .row (c9 x10), .callv (.v (.bool r12)), .dec false, .sum [0, 4, 5, 6, 7] [2, 0, 1, 5, 6, 7] .ret [(4, .op 0 1 0 0), (5, .v (.int .i64 20))] [.box 56 [.z, .e, .os 1 0, .os 2 0] false, .n 9, .n 9]]) (hrun := by kernel_rfl) (hps := pc (ob9 h4) <| pc (h5) <| pc (h6) <| pc (h7) <| pc (ob9 h9) <| pc (ob9 h11) <| pc (k_palingref03_Name h13) <| pc (h14) <| pc (k_palingref14_Row_L1 _ _ h54) <| pn)
          · injection h with h; subst h; exact runFn_sound mixedOrders Try.func161 rfl (keep := some [4, 5]) (π := [.row (c9 x3), .dec false, .dec false, .dec false, .row (c9 x8), .row (c9 x10), .callv (.v (.bool r12)), .dec false, .sum [0, 4, 5, 6, 7] [2, 0, 1, 5, 6, 7] (.exit 0) [(4, .op 0 1 0 0), (5, .z), (6, .op 3 1 0 0)] [.box 56 [.z, .e, .os 1 0, .os 2 0] false, .n 9, .n 9, .box 56 [.v (.int .i64 a2), .v (.string x8), .os 4 (List.length l52), .os 5 (List.length l53)] false, .arr 9 l52 (List.length l52) false, .arr 9 l53 (List.length l53) false]]) (hrun := by kernel_rfl) (hps := pc (ob9 h4) <| pc (h5) <| pc (h6) <| pc (h7) <| pc (ob9 h9) <| pc (ob9 h11) <| pc (k_palingref03_Name h13) <| pc (h14) <| pc (k_palingref14_Row_L1 _ _ h54) <| pn)

theorem k_palingref10_Texts_L1 {a1 : List ByteArray} {a2 : List ByteArray} : LoopOK Try.prog UU 0 26 (subC (codeOf Try.f170) [1, 1, 0, 1, 0, 0]) (ρ := Unit ⊕ Unit) (palingref10_Texts_L1 a1 a2)
    (fun v4 : Int => ([(0, .sl 9 a1), (1, .sl 9 a2), (4, .v (.bool false)), (5, .v (.int .i64 v4))] : Fr DD)) (fun v4 : Int => ([] : Heap DD)) (fun r => match r with | Sum.inl _ => .ret | Sum.inr _ => .exit 0) (fun r => match r with | Sum.inl _ => [(4, .v (.bool false))] | Sum.inr _ => [(4, .v (.bool false))]) (fun r => match r with | Sum.inl _ => [] | Sum.inr _ => []) := by
  refine loop_sound3 (fun s q h => ?_) (fun r => ?_)
  · replace h : palingref10_Texts_L1 a1 a2 s = some q := h; revert h; revert s; intro v4 h
    unfold palingref10_Texts_L1 at h
    rcases ite_out h with ⟨h5, h⟩ | ⟨h5, h⟩
    · obtain ⟨x6, h7, h⟩ := bind_out h
      obtain ⟨x8, h9, h⟩ := bind_out h
      rcases ite_out h with ⟨h10, h⟩ | ⟨h10, h⟩
      · injection h with h; subst h; exact runLp_sound mixedOrders (live := [4]) (ids := []) (π := [.dec true, .row (c9 x6), .row (c9 x8), .dec true]) (hx := by kernel_rfl) (hps := pc (h5) <| pc (ob9 h7) <| pc (ob9 h9) <| pc (h10) <| pn)
      · injection h with h; subst h; exact runLp_sound mixedOrders (live := [0, 1, 4, 5]) (ids := []) (π := [.dec true, .row (c9 x6), .row (c9 x8), .dec false]) (hx := by kernel_rfl) (hps := pc (h5) <| pc (ob9 h7) <| pc (ob9 h9) <| pc (h10) <| pn)
    · injection h with h; subst h; exact runLp_sound mixedOrders (live := [4]) (ids := []) (π := [.dec false]) (hx := by kernel_rfl) (hps := pc (h5) <| pn)
  · rcases r with _ | _ <;> exact Ex.noConfusion

theorem k_palingref10_Texts {a1 : List ByteArray} {a2 : List ByteArray} {r : Bool} (h : palingref10_Texts a1 a2 = some r) :
    CallsOK Try.prog UU 170 [.sl 9 a1, .sl 9 a2] [] (.v (.bool r)) [] := by
  unfold palingref10_Texts at h
  rcases ite_out h with ⟨h3, h⟩ | ⟨h3, h⟩
  · injection h with h; subst h; exact runFn_sound mixedOrders Try.func170 rfl (keep := none) (π := [.dec true]) (hrun := by kernel_rfl) (hps := pc (h3) <| pn)
  · obtain ⟨r12, h11, h⟩ := bind_out h
    rcases r12 with _ | _
    · injection h with h; subst h; exact runFn_sound mixedOrders Try.func170 rfl (keep := none) (π := [.dec false, .sum [0, 1, 4, 5] [] .ret [(4, .v (.bool false))] []]) (hrun := by kernel_rfl) (hps := pc (h3) <| pc (k_palingref10_Texts_L1 _ _ h11) <| pn)
    · injection h with h; subst h; exact runFn_sound mixedOrders Try.func170 rfl (keep := none) (π := [.dec false, .sum [0, 1, 4, 5] [] (.exit 0) [(4, .v (.bool false))] []]) (hrun := by kernel_rfl) (hps := pc (h3) <| pc (k_palingref10_Texts_L1 _ _ h11) <| pn)

theorem k_palingref14_Same_L1 {a1 : List Api_Tenant} {a2 : List Api_Tenant} : LoopOK Try.prog UU 0 56 (subC (codeOf Try.f169) [1, 1, 0, 1, 0, 0]) (ρ := Unit ⊕ Unit) (palingref14_Same_L1 a1 a2)
    (fun v4 : Int => ([(0, .sl 56 a1), (1, .sl 56 a2), (4, .v (.bool false)), (5, .v (.int .i64 v4))] : Fr DD)) (fun v4 : Int => ([] : Heap DD)) (fun r => match r with | Sum.inl _ => .ret | Sum.inr _ => .exit 0) (fun r => match r with | Sum.inl _ => [(4, .v (.bool false))] | Sum.inr _ => [(4, .v (.bool false))]) (fun r => match r with | Sum.inl _ => [] | Sum.inr _ => []) := by
  refine loop_sound3 (fun s q h => ?_) (fun r => ?_)
  · replace h : palingref14_Same_L1 a1 a2 s = some q := h; revert h; revert s; intro v4 h
    unfold palingref14_Same_L1 at h
    rcases ite_out h with ⟨h5, h⟩ | ⟨h5, h⟩
    · obtain ⟨x6, h7, h⟩ := bind_out h
      obtain ⟨x8, h9, h⟩ := bind_out h
      rcases ite_out h with ⟨h10, h⟩ | ⟨h10, h⟩
      · injection h with h; subst h; exact runLp_sound mixedOrders (live := [4]) (ids := []) (π := [.dec true, .row (c56 x6), .row (c56 x8), .dec true]) (hx := by kernel_rfl) (hps := pc (h5) <| pc (ob56 h7) <| pc (ob56 h9) <| pc (h10) <| pn)
      · obtain ⟨x11, h12, h⟩ := bind_out h
        obtain ⟨x13, h14, h⟩ := bind_out h
        obtain ⟨r15, h16, h⟩ := bind_out h
        rcases ite_out h with ⟨h17, h⟩ | ⟨h17, h⟩
        · injection h with h; subst h; exact runLp_sound mixedOrders (live := [4]) (ids := []) (π := [.dec true, .row (c56 x6), .row (c56 x8), .dec false, .row (c56 x11), .row (c56 x13), .callv (.v (.bool r15)), .dec true]) (hx := by kernel_rfl) (hps := pc (h5) <| pc (ob56 h7) <| pc (ob56 h9) <| pc (h10) <| pc (ob56 h12) <| pc (ob56 h14) <| pc (k_palingref10_Texts h16) <| pc (h17) <| pn)
        · obtain ⟨x18, h19, h⟩ := bind_out h
          obtain ⟨x20, h21, h⟩ := bind_out h
          obtain ⟨r22, h23, h⟩ := bind_out h
          rcases ite_out h with ⟨h24, h⟩ | ⟨h24, h⟩
          · injection h with h; subst h; exact runLp_sound mixedOrders (live := [4]) (ids := []) (π := [.dec true, .row (c56 x6), .row (c56 x8), .dec false, .row (c56 x11), .row (c56 x13), .callv (.v (.bool r15)), .dec false, .row (c56 x18), .row (c56 x20), .callv (.v (.bool r22)), .dec true]) (hx := by kernel_rfl) (hps := pc (h5) <| pc (ob56 h7) <| pc (ob56 h9) <| pc (h10) <| pc (ob56 h12) <| pc (ob56 h14) <| pc (k_palingref10_Texts h16) <| pc (h17) <| pc (ob56 h19) <| pc (ob56 h21) <| pc (k_palingref10_Texts h23) <| pc (h24) <| pn)
          · injection h with h; subst h; exact runLp_sound mixedOrders (live := [0, 1, 4, 5]) (ids := []) (π := [.dec true, .row (c56 x6), .row (c56 x8), .dec false, .row (c56 x11), .row (c56 x13), .callv (.v (.bool r15)), .dec false, .row (c56 x18), .row (c56 x20), .callv (.v (.bool r22)), .dec false]) (hx := by kernel_rfl) (hps := pc (h5) <| pc (ob56 h7) <| pc (ob56 h9) <| pc (h10) <| pc (ob56 h12) <| pc (ob56 h14) <| pc (k_palingref10_Texts h16) <| pc (h17) <| pc (ob56 h19) <| pc (ob56 h21) <| pc (k_palingref10_Texts h23) <| pc (h24) <| pn)
    · injection h with h; subst h; exact runLp_sound mixedOrders (live := [4]) (ids := []) (π := [.dec false]) (hx := by kernel_rfl) (hps := pc (h5) <| pn)
  · rcases r with _ | _ <;> exact Ex.noConfusion

theorem k_palingref14_Same {a1 : List Api_Tenant} {a2 : List Api_Tenant} {r : Bool} (h : palingref14_Same a1 a2 = some r) :
    CallsOK Try.prog UU 169 [.sl 56 a1, .sl 56 a2] [] (.v (.bool r)) [] := by
  unfold palingref14_Same at h
  rcases ite_out h with ⟨h3, h⟩ | ⟨h3, h⟩
  · injection h with h; subst h; exact runFn_sound mixedOrders Try.func169 rfl (keep := none) (π := [.dec true]) (hrun := by kernel_rfl) (hps := pc (h3) <| pn)
  · obtain ⟨r26, h25, h⟩ := bind_out h
    rcases r26 with _ | _
    · injection h with h; subst h; exact runFn_sound mixedOrders Try.func169 rfl (keep := none) (π := [.dec false, .sum [0, 1, 4, 5] [] .ret [(4, .v (.bool false))] []]) (hrun := by kernel_rfl) (hps := pc (h3) <| pc (k_palingref14_Same_L1 _ _ h25) <| pn)
    · injection h with h; subst h; exact runFn_sound mixedOrders Try.func169 rfl (keep := none) (π := [.dec false, .sum [0, 1, 4, 5] [] (.exit 0) [(4, .v (.bool false))] []]) (hrun := by kernel_rfl) (hps := pc (h3) <| pc (k_palingref14_Same_L1 _ _ h25) <| pn)

theorem k_palingref14_Exact_L1 {a1 : List Api_Tenant} {a2 : List Api_Tenant} : LoopOK Try.prog UU 0 32 (subC (codeOf Try.f163) [1, 0, 1, 0, 0]) (ρ := Unit ⊕ Unit) (palingref14_Exact_L1 a1 a2)
    (fun v3 : Int => ([(0, .sl 56 a1), (1, .sl 56 a2), (4, .v (.bool false)), (5, .v (.int .i64 v3))] : Fr DD)) (fun v3 : Int => ([] : Heap DD)) (fun r => match r with | Sum.inl _ => .ret | Sum.inr _ => .exit 0) (fun r => match r with | Sum.inl _ => [(4, .v (.bool false))] | Sum.inr _ => [(0, .sl 56 a1), (1, .sl 56 a2), (4, .v (.bool false))]) (fun r => match r with | Sum.inl _ => [] | Sum.inr _ => []) := by
  refine loop_sound3 (fun s q h => ?_) (fun r => ?_)
  · replace h : palingref14_Exact_L1 a1 a2 s = some q := h; revert h; revert s; intro v3 h
    unfold palingref14_Exact_L1 at h
    rcases ite_out h with ⟨h4, h⟩ | ⟨h4, h⟩
    · rcases ite_out h with ⟨h5, h⟩ | ⟨h5, h⟩
      · obtain ⟨x6, h7, h⟩ := bind_out h
        obtain ⟨x8, h9, h⟩ := bind_out h
        rcases ite_out h with ⟨h10, h⟩ | ⟨h10, h⟩
        · injection h with h; subst h; exact runLp_sound mixedOrders (live := [4]) (ids := []) (π := [.dec true, .dec true, .row (c56 x6), .row (c56 x8), .dec true]) (hx := by kernel_rfl) (hps := pc (h4) <| pc (h5) <| pc (ob56 h7) <| pc (ob56 h9) <| pc (h10) <| pn)
        · injection h with h; subst h; exact runLp_sound mixedOrders (live := [0, 1, 4, 5]) (ids := []) (π := [.dec true, .dec true, .row (c56 x6), .row (c56 x8), .dec false]) (hx := by kernel_rfl) (hps := pc (h4) <| pc (h5) <| pc (ob56 h7) <| pc (ob56 h9) <| pc (h10) <| pn)
      · injection h with h; subst h; exact runLp_sound mixedOrders (live := [0, 1, 4]) (ids := []) (π := [.dec true, .dec false]) (hx := by kernel_rfl) (hps := pc (h4) <| pc (h5) <| pn)
    · injection h with h; subst h; exact runLp_sound mixedOrders (live := [0, 1, 4]) (ids := []) (π := [.dec false]) (hx := by kernel_rfl) (hps := pc (h4) <| pn)
  · rcases r with _ | _ <;> exact Ex.noConfusion

theorem k_palingref14_Exact {a1 : List Api_Tenant} {a2 : List Api_Tenant} {r : Bool} (h : palingref14_Exact a1 a2 = some r) :
    CallsOK Try.prog UU 163 [.sl 56 a1, .sl 56 a2] [] (.v (.bool r)) [] := by
  unfold palingref14_Exact at h
  obtain ⟨r12, h11, h⟩ := bind_out h
  rcases r12 with _ | _
  · injection h with h; subst h; exact runFn_sound mixedOrders Try.func163 rfl (keep := none) (π := [.sum [0, 1, 4, 5] [] .ret [(4, .v (.bool false))] []]) (hrun := by kernel_rfl) (hps := pc (k_palingref14_Exact_L1 _ _ h11) <| pn)
  · obtain ⟨r13, h14, h⟩ := bind_out h
    injection h with h; subst h; exact runFn_sound mixedOrders Try.func163 rfl (keep := none) (π := [.sum [0, 1, 4, 5] [] (.exit 0) [(0, .sl 56 a1), (1, .sl 56 a2), (4, .v (.bool false))] [], .callv (.v (.bool r13))]) (hrun := by kernel_rfl) (hps := pc (k_palingref14_Exact_L1 _ _ h11) <| pc (k_palingref14_Same h14) <| pn)

theorem k_palingref14_Right {a1 : Api_Tenant} {r : Bool} (h : palingref14_Right a1 = some r) :
    CallsOK Try.prog UU 143 [.agg (c56 a1)] [] (.v (.bool r)) [] := by
  unfold palingref14_Right at h
  rcases ite_out h with ⟨h2, h⟩ | ⟨h2, h⟩
  · injection h with h; subst h; exact runFn_sound mixedOrders Try.func143 rfl (keep := none) (π := [.dec true]) (hrun := by kernel_rfl) (hps := pc (h2) <| pn)
  · rcases ite_out h with ⟨h3, h⟩ | ⟨h3, h⟩
    · injection h with h; subst h; exact runFn_sound mixedOrders Try.func143 rfl (keep := none) (π := [.dec false, .dec true]) (hrun := by kernel_rfl) (hps := pc (h2) <| pc (h3) <| pn)
    · obtain ⟨l6, h5, h⟩ := bind_out h
      obtain ⟨r7, h8, h⟩ := bind_out h
      obtain ⟨l9, l10, v11, v12, v13⟩ := r7
      rcases ite_out h with ⟨h14, h⟩ | ⟨h14, h⟩
      · obtain ⟨r15, h16, h⟩ := bind_out h
        injection h with h; subst h; exact runFn_sound mixedOrders Try.func143 rfl (keep := none) (π := [.dec false, .dec false, .sum [1] [] .nor [] [.box 56 (c56 a1) false, .arr 9 l6 (List.length l6) false], .sum [4] [] .nor [] [.box 56 (c56 a1) false, .arr 9 l6 (List.length l6) false, .arr 9 l9 (List.length l9) false, .arr 9 l10 (List.length l10) false], .callo (.os 0 (List.length l6)) [.arr 9 l6 (List.length l6) false], .callo (.tup [.agg [.v (.int .i64 v11), .v (.string v12), .os 0 (List.length l9), .os 1 (List.length l10)], .v (.int .i64 v13)]) [.arr 9 l9 (List.length l9) false, .arr 9 l10 (List.length l10) false], .dec true, .obj [] (.arr 56 [a1] (List.length [a1]) false), .obj [2, 3] (.arr 56 [(⟨v11, v12, l9, l10⟩ : Api_Tenant)] (List.length [(⟨v11, v12, l9, l10⟩ : Api_Tenant)]) false), .callv (.v (.bool r15))]) (hrun := by kernel_rfl) (hps := pc (h2) <| pc (h3) <| pc ((rfl : ([.box 56 (c56 a1) false, .arr 9 l6 (List.length l6) false] : Heap DD) = [.box 56 (c56 a1) false, .arr 9 l6 (List.length l6) false])) <| pc (k_palingref14_words h5) <| pc (im9 l6) <| pc ((rfl : (.op 0 1 0 0 : AV DD) = .op 0 1 0 0)) <| pc ((rfl : (.v (.int .i64 a1.row) : AV DD) = .v (.int .i64 a1.row))) <| pc ((rfl : ([.box 56 (c56 a1) false, .arr 9 l6 (List.length l6) false, .arr 9 l9 (List.length l9) false, .arr 9 l10 (List.length l10) false] : Heap DD) = [.box 56 (c56 a1) false, .arr 9 l6 (List.length l6) false, .arr 9 l9 (List.length l9) false, .arr 9 l10 (List.length l10) false])) <| pc (k_palingref14_Row h8) <| pc (im9 l9) <| pc (im9 l10) <| pc ((rfl : ((List.length l6) : Nat) = (List.length l6))) <| pc (h14) <| pc (bs_ob 56 [a1]) <| pc (bs_ob 56 [(⟨v11, v12, l9, l10⟩ : Api_Tenant)]) <| pc ((rfl : ((List.length l9) : Nat) = (List.length l9))) <| pc ((rfl : ((List.length l10) : Nat) = (List.length l10))) <| pc (k_palingref14_Exact h16) <| pc ((rfl : ((List.length [a1]) : Nat) = (List.length [a1]))) <| pc ((rfl : ((List.length [(⟨v11, v12, l9, l10⟩ : Api_Tenant)]) : Nat) = (List.length [(⟨v11, v12, l9, l10⟩ : Api_Tenant)]))) <| pn)
      · injection h with h; subst h; exact runFn_sound mixedOrders Try.func143 rfl (keep := none) (π := [.dec false, .dec false, .sum [1] [] .nor [] [.box 56 (c56 a1) false, .arr 9 l6 (List.length l6) false], .sum [4] [] .nor [] [.box 56 (c56 a1) false, .arr 9 l6 (List.length l6) false, .arr 9 l9 (List.length l9) false, .arr 9 l10 (List.length l10) false], .callo (.os 0 (List.length l6)) [.arr 9 l6 (List.length l6) false], .callo (.tup [.agg [.v (.int .i64 v11), .v (.string v12), .os 0 (List.length l9), .os 1 (List.length l10)], .v (.int .i64 v13)]) [.arr 9 l9 (List.length l9) false, .arr 9 l10 (List.length l10) false], .dec false]) (hrun := by kernel_rfl) (hps := pc (h2) <| pc (h3) <| pc ((rfl : ([.box 56 (c56 a1) false, .arr 9 l6 (List.length l6) false] : Heap DD) = [.box 56 (c56 a1) false, .arr 9 l6 (List.length l6) false])) <| pc (k_palingref14_words h5) <| pc (im9 l6) <| pc ((rfl : (.op 0 1 0 0 : AV DD) = .op 0 1 0 0)) <| pc ((rfl : (.v (.int .i64 a1.row) : AV DD) = .v (.int .i64 a1.row))) <| pc ((rfl : ([.box 56 (c56 a1) false, .arr 9 l6 (List.length l6) false, .arr 9 l9 (List.length l9) false, .arr 9 l10 (List.length l10) false] : Heap DD) = [.box 56 (c56 a1) false, .arr 9 l6 (List.length l6) false, .arr 9 l9 (List.length l9) false, .arr 9 l10 (List.length l10) false])) <| pc (k_palingref14_Row h8) <| pc (im9 l9) <| pc (im9 l10) <| pc ((rfl : ((List.length l6) : Nat) = (List.length l6))) <| pc (h14) <| pn)

theorem k_palingref15_Device_L1 {a1 : Api_Net} {a2 : ByteArray} : LoopOK Try.prog UU 0 22 (subC (codeOf Try.f144) [1, 0, 1, 0, 0]) (ρ := Int ⊕ Unit) (palingref15_Device_L1 a1 a2)
    (fun v3 : Int => ([(1, .v (.string a2)), (2, .op 0 1 0 0), (4, .z), (5, .v (.int .i64 v3))] : Fr DD)) (fun v3 : Int => ([.box 31 (c31 a1) false] : Heap DD)) (fun r => match r with | Sum.inl v9 => .ret | Sum.inr _ => .exit 0) (fun r => match r with | Sum.inl v9 => [(4, .v (.int .i64 v9))] | Sum.inr _ => [(4, .z)]) (fun r => match r with | Sum.inl v9 => [] | Sum.inr _ => []) := by
  refine loop_sound3 (fun s q h => ?_) (fun r => ?_)
  · replace h : palingref15_Device_L1 a1 a2 s = some q := h; revert h; revert s; intro v3 h
    unfold palingref15_Device_L1 at h
    rcases ite_out h with ⟨h4, h⟩ | ⟨h4, h⟩
    · obtain ⟨x5, h6, h⟩ := bind_out h
      rcases ite_out h with ⟨h7, h⟩ | ⟨h7, h⟩
      · injection h with h; subst h; exact runLp_sound mixedOrders (live := [4]) (ids := []) (π := [.dec true, .row (c96 x5), .dec true]) (hx := by kernel_rfl) (hps := pc (h4) <| pc (ob96 h6) <| pc (h7) <| pn)
      · injection h with h; subst h; exact runLp_sound mixedOrders (live := [1, 2, 4, 5]) (ids := [0]) (π := [.dec true, .row (c96 x5), .dec false]) (hx := by kernel_rfl) (hps := pc (h4) <| pc (ob96 h6) <| pc (h7) <| pn)
    · injection h with h; subst h; exact runLp_sound mixedOrders (live := [4]) (ids := []) (π := [.dec false]) (hx := by kernel_rfl) (hps := pc (h4) <| pn)
  · rcases r with _ | _ <;> exact Ex.noConfusion

theorem k_palingref15_Device {a1 : Api_Net} {a2 : ByteArray} {r : Int} (h : palingref15_Device a1 a2 = some r) :
    CallsOK Try.prog UU 144 [.agg (c31 a1), .v (.string a2)] [] (.v (.int .i64 r)) [] := by
  unfold palingref15_Device at h
  obtain ⟨r11, h10, h⟩ := bind_out h
  rcases r11 with v9 | _
  · injection h with h; subst h; exact runFn_sound mixedOrders Try.func144 rfl (keep := none) (π := [.sum [1, 2, 4, 5] [0] .ret [(4, .v (.int .i64 v9))] []]) (hrun := by kernel_rfl) (hps := pc (k_palingref15_Device_L1 _ _ h10) <| pn)
  · injection h with h; subst h; exact runFn_sound mixedOrders Try.func144 rfl (keep := none) (π := [.sum [1, 2, 4, 5] [0] (.exit 0) [(4, .z)] []]) (hrun := by kernel_rfl) (hps := pc (k_palingref15_Device_L1 _ _ h10) <| pn)

theorem k_palingref15_Port_L1 {a1 : Api_Net} {a2 : Int} {a3 : ByteArray} : LoopOK Try.prog UU 0 34 (subC (codeOf Try.f145) [1, 0, 1, 0, 0]) (ρ := Int ⊕ Unit) (palingref15_Port_L1 a1 a2 a3)
    (fun v4 : Int => ([(1, .v (.int .i64 a2)), (2, .v (.string a3)), (3, .op 0 1 0 0), (6, .z), (7, .v (.int .i64 v4))] : Fr DD)) (fun v4 : Int => ([.box 31 (c31 a1) false] : Heap DD)) (fun r => match r with | Sum.inl v13 => .ret | Sum.inr _ => .exit 0) (fun r => match r with | Sum.inl v13 => [(6, .v (.int .i64 v13))] | Sum.inr _ => [(6, .z)]) (fun r => match r with | Sum.inl v13 => [] | Sum.inr _ => []) := by
  refine loop_sound3 (fun s q h => ?_) (fun r => ?_)
  · replace h : palingref15_Port_L1 a1 a2 a3 s = some q := h; revert h; revert s; intro v4 h
    unfold palingref15_Port_L1 at h
    rcases ite_out h with ⟨h5, h⟩ | ⟨h5, h⟩
    · obtain ⟨x6, h7, h⟩ := bind_out h
      rcases ite_out h with ⟨h8, h⟩ | ⟨h8, h⟩
      · obtain ⟨x9, h10, h⟩ := bind_out h
        rcases ite_out h with ⟨h11, h⟩ | ⟨h11, h⟩
        · injection h with h; subst h; exact runLp_sound mixedOrders (live := [6]) (ids := []) (π := [.dec true, .row (c60 x6), .dec true, .row (c60 x9), .dec true]) (hx := by kernel_rfl) (hps := pc (h5) <| pc (ob60 h7) <| pc (h8) <| pc (ob60 h10) <| pc (h11) <| pn)
        · injection h with h; subst h; exact runLp_sound mixedOrders (live := [1, 2, 3, 6, 7]) (ids := [0]) (π := [.dec true, .row (c60 x6), .dec true, .row (c60 x9), .dec false]) (hx := by kernel_rfl) (hps := pc (h5) <| pc (ob60 h7) <| pc (h8) <| pc (ob60 h10) <| pc (h11) <| pn)
      · injection h with h; subst h; exact runLp_sound mixedOrders (live := [1, 2, 3, 6, 7]) (ids := [0]) (π := [.dec true, .row (c60 x6), .dec false]) (hx := by kernel_rfl) (hps := pc (h5) <| pc (ob60 h7) <| pc (h8) <| pn)
    · injection h with h; subst h; exact runLp_sound mixedOrders (live := [6]) (ids := []) (π := [.dec false]) (hx := by kernel_rfl) (hps := pc (h5) <| pn)
  · rcases r with _ | _ <;> exact Ex.noConfusion

theorem k_palingref15_Port {a1 : Api_Net} {a2 : Int} {a3 : ByteArray} {r : Int} (h : palingref15_Port a1 a2 a3 = some r) :
    CallsOK Try.prog UU 145 [.agg (c31 a1), .v (.int .i64 a2), .v (.string a3)] [] (.v (.int .i64 r)) [] := by
  unfold palingref15_Port at h
  obtain ⟨r15, h14, h⟩ := bind_out h
  rcases r15 with v13 | _
  · injection h with h; subst h; exact runFn_sound mixedOrders Try.func145 rfl (keep := none) (π := [.sum [1, 2, 3, 6, 7] [0] .ret [(6, .v (.int .i64 v13))] []]) (hrun := by kernel_rfl) (hps := pc (k_palingref15_Port_L1 _ _ h14) <| pn)
  · injection h with h; subst h; exact runFn_sound mixedOrders Try.func145 rfl (keep := none) (π := [.sum [1, 2, 3, 6, 7] [0] (.exit 0) [(6, .z)] []]) (hrun := by kernel_rfl) (hps := pc (k_palingref15_Port_L1 _ _ h14) <| pn)

theorem k_palingref23_tenant_own_L1 {a1 : Api_Net} {a2 : List Int} {a3 : List Api_Tenant} {a4 : Int} : LoopOK Try.prog UU 1 104 (subC (codeOf Try.f98) [1, 1, 0, 1, 0, 0]) (ρ := Unit ⊕ Unit) (palingref23_tenant_own_L1 a1 a2 a3 a4)
    (fun v11 : Int => ([(1, .os 0 (List.length a2)), (2, .sl 56 a3), (3, .v (.int .i64 a4)), (4, .op 1 1 0 0), (8, .z), (9, .v (.int .i64 v11))] : Fr DD)) (fun v11 : Int => ([.arr 3 a2 (List.length a2) false, .box 31 (c31 a1) false] : Heap DD)) (fun r => match r with | Sum.inl _ => .ret | Sum.inr _ => .exit 0) (fun r => match r with | Sum.inl _ => [(8, .v (.int .i64 30))] | Sum.inr _ => [(1, .os 0 (List.length a2)), (2, .sl 56 a3), (3, .v (.int .i64 a4)), (4, .op 1 1 0 0), (8, .z)]) (fun r => match r with | Sum.inl _ => [.arr 3 a2 (List.length a2) false] | Sum.inr _ => [.arr 3 a2 (List.length a2) false, .box 31 (c31 a1) false]) := by
  refine loop_sound3 (fun s q h => ?_) (fun r => ?_)
  · replace h : palingref23_tenant_own_L1 a1 a2 a3 a4 s = some q := h; revert h; revert s; intro v11 h
    unfold palingref23_tenant_own_L1 at h
    rcases ite_out h with ⟨h12, h⟩ | ⟨h12, h⟩
    · obtain ⟨x13, h14, h⟩ := bind_out h
      obtain ⟨x15, h16, h⟩ := bind_out h
      rcases ite_out h with ⟨h17, h⟩ | ⟨h17, h⟩
      · injection h with h; subst h; exact runLp_sound mixedOrders (live := [8]) (ids := [0]) (π := [.dec true, .row (c56 x13), .row (c56 x15), .dec true]) (hx := by kernel_rfl) (hps := pc (h12) <| pc (ob56 h14) <| pc (ob56 h16) <| pc (h17) <| pn)
      · injection h with h; subst h; exact runLp_sound mixedOrders (live := [1, 2, 3, 4, 8, 9]) (ids := [0, 1]) (π := [.dec true, .row (c56 x13), .row (c56 x15), .dec false]) (hx := by kernel_rfl) (hps := pc (h12) <| pc (ob56 h14) <| pc (ob56 h16) <| pc (h17) <| pn)
    · injection h with h; subst h; exact runLp_sound mixedOrders (live := [1, 2, 3, 4, 8]) (ids := [0, 1]) (π := [.dec false]) (hx := by kernel_rfl) (hps := pc (h12) <| pn)
  · rcases r with _ | _ <;> exact Ex.noConfusion

theorem k_palingref23_tenant_own_L2 {a1 : Api_Net} {a2 : List Int} {a3 : List Api_Tenant} {a4 : Int} : LoopOK Try.prog UU 1 104 (subC (codeOf Try.f98) [1, 1, 1, 0, 1, 0, 0]) (fun s : (List Int) × Int => match s with | (l20, v21) => palingref23_tenant_own_L2 a1 a2 a3 a4 l20 v21)
    (fun s : (List Int) × Int => (match s with | (l20, v21) => [(1, .os 0 (List.length a2)), (2, .sl 56 a3), (3, .v (.int .i64 a4)), (4, .op 1 1 0 0), (8, .z), (10, .v (.int .i64 v21))] : Fr DD)) (fun s : (List Int) × Int => (match s with | (l20, v21) => [.arr 3 l20 (List.length a2) false, .box 31 (c31 a1) false] : Heap DD)) (fun r => match r with | Sum.inl (l56, v57) => .ret | Sum.inr l59 => .exit 2) (fun r => match r with | Sum.inl (l56, v57) => [(8, .v (.int .i64 v57))] | Sum.inr l59 => [(8, .z)]) (fun r => match r with | Sum.inl (l56, v57) => [.arr 3 l56 (List.length a2) false] | Sum.inr l59 => [.arr 3 l59 (List.length a2) false]) := by
  refine loop_sound3 (fun s q h => ?_) (fun r => ?_)
  · obtain ⟨l20, v21⟩ := s; replace h : palingref23_tenant_own_L2 a1 a2 a3 a4 l20 v21 = some q := h
    unfold palingref23_tenant_own_L2 at h
    obtain ⟨x22, h23, h⟩ := bind_out h
    rcases ite_out h with ⟨h24, h⟩ | ⟨h24, h⟩
    · obtain ⟨x25, h26, h⟩ := bind_out h
      obtain ⟨x27, h28, h⟩ := bind_out h
      obtain ⟨r29, h30, h⟩ := bind_out h
      rcases ite_out h with ⟨h31, h⟩ | ⟨h31, h⟩
      · injection h with h; subst h; exact runLp_sound mixedOrders (live := [8]) (ids := [0]) (π := [.row (c56 x22), .dec true, .row (c56 x25), .row (c9 x27), .callv (.v (.int .i64 r29)), .dec true]) (hx := by kernel_rfl) (hps := pc (ob56 h23) <| pc (h24) <| pc (ob56 h26) <| pc (ob9 h28) <| pc (k_palingref15_Device h30) <| pc (h31) <| pn)
      · obtain ⟨x32, h33, h⟩ := bind_out h
        obtain ⟨x34, h35, h⟩ := bind_out h
        obtain ⟨r36, h37, h⟩ := bind_out h
        rcases ite_out h with ⟨h38, h⟩ | ⟨h38, h⟩
        · injection h with h; subst h; exact runLp_sound mixedOrders (live := [8]) (ids := [0]) (π := [.row (c56 x22), .dec true, .row (c56 x25), .row (c9 x27), .callv (.v (.int .i64 r29)), .dec false, .row (c56 x32), .row (c9 x34), .callv (.v (.int .i64 r36)), .dec true]) (hx := by kernel_rfl) (hps := pc (ob56 h23) <| pc (h24) <| pc (ob56 h26) <| pc (ob9 h28) <| pc (k_palingref15_Device h30) <| pc (h31) <| pc (ob56 h33) <| pc (ob9 h35) <| pc (k_palingref15_Port h37) <| pc (h38) <| pn)
        · obtain ⟨x39, h40, h⟩ := bind_out h
          obtain ⟨x41, h42, h⟩ := bind_out h
          obtain ⟨r43, h44, h⟩ := bind_out h
          obtain ⟨x45, h46, h⟩ := bind_out h
          rcases ite_out h with ⟨h47, h⟩ | ⟨h47, h⟩
          · injection h with h; subst h; exact runLp_sound mixedOrders (live := [8]) (ids := [0]) (π := [.row (c56 x22), .dec true, .row (c56 x25), .row (c9 x27), .callv (.v (.int .i64 r29)), .dec false, .row (c56 x32), .row (c9 x34), .callv (.v (.int .i64 r36)), .dec false, .row (c56 x39), .row (c9 x41), .callv (.v (.int .i64 r43)), .row (c60 x45), .dec true]) (hx := by kernel_rfl) (hps := pc (ob56 h23) <| pc (h24) <| pc (ob56 h26) <| pc (ob9 h28) <| pc (k_palingref15_Device h30) <| pc (h31) <| pc (ob56 h33) <| pc (ob9 h35) <| pc (k_palingref15_Port h37) <| pc (h38) <| pc (ob56 h40) <| pc (ob9 h42) <| pc (k_palingref15_Port h44) <| pc (ob60 h46) <| pc (h47) <| pn)
          · rcases ite_out h with ⟨h48, h⟩ | ⟨h48, h⟩
            · obtain ⟨x49, h50, h⟩ := bind_out h
              rcases ite_out h with ⟨h51, h⟩ | ⟨h51, h⟩
              · injection h with h; subst h; exact runLp_sound mixedOrders (live := [8]) (ids := [0]) (π := [.row (c56 x22), .dec true, .row (c56 x25), .row (c9 x27), .callv (.v (.int .i64 r29)), .dec false, .row (c56 x32), .row (c9 x34), .callv (.v (.int .i64 r36)), .dec false, .row (c56 x39), .row (c9 x41), .callv (.v (.int .i64 r43)), .row (c60 x45), .dec false, .row (c3 x49), .dec true]) (hx := by kernel_rfl) (hps := pc (ob56 h23) <| pc (h24) <| pc (ob56 h26) <| pc (ob9 h28) <| pc (k_palingref15_Device h30) <| pc (h31) <| pc (ob56 h33) <| pc (ob9 h35) <| pc (k_palingref15_Port h37) <| pc (h38) <| pc (ob56 h40) <| pc (ob9 h42) <| pc (k_palingref15_Port h44) <| pc (ob60 h46) <| pc (h47) <| pc (And.intro (rfl : ((List.length a2) : Nat) = (List.length a2)) (lin_ob h48)) <| pc (And.intro (rfl : ((List.length a2) : Nat) = (List.length a2)) (obn3 h50)) <| pc (h51) <| pn)
              · obtain ⟨x52, h53, h⟩ := bind_out h
                injection h with h; subst h; exact runLp_sound mixedOrders (live := [1, 2, 3, 4, 8, 10]) (ids := [0, 1]) (π := [.row (c56 x22), .dec true, .row (c56 x25), .row (c9 x27), .callv (.v (.int .i64 r29)), .dec false, .row (c56 x32), .row (c9 x34), .callv (.v (.int .i64 r36)), .dec false, .row (c56 x39), .row (c9 x41), .callv (.v (.int .i64 r43)), .row (c60 x45), .dec false, .row (c3 x49), .dec false, .row (c3 x52), .obj [] (.arr 3 (List.set l20 (Int.toNat r43) a4) (List.length a2) false)]) (hx := by kernel_rfl) (hps := pc (ob56 h23) <| pc (h24) <| pc (ob56 h26) <| pc (ob9 h28) <| pc (k_palingref15_Device h30) <| pc (h31) <| pc (ob56 h33) <| pc (ob9 h35) <| pc (k_palingref15_Port h37) <| pc (h38) <| pc (ob56 h40) <| pc (ob9 h42) <| pc (k_palingref15_Port h44) <| pc (ob60 h46) <| pc (h47) <| pc (And.intro (rfl : ((List.length a2) : Nat) = (List.length a2)) (lin_ob h48)) <| pc (And.intro (rfl : ((List.length a2) : Nat) = (List.length a2)) (obn3 h50)) <| pc (h51) <| pc (And.intro (rfl : ((List.length a2) : Nat) = (List.length a2)) (lin_ob h48)) <| pc (st_ob (e := 3) (n := (List.length a2)) (l := l20) (i := (Int.toNat r43)) a4 [.v (.int .i64 a4)] (obn3 h53) rfl) <| pn)
            · cases h
    · injection h with h; subst h; exact runLp_sound mixedOrders (live := [8]) (ids := [0]) (π := [.row (c56 x22), .dec false]) (hx := by kernel_rfl) (hps := pc (ob56 h23) <| pc (h24) <| pn)
  · rcases r with _ | _ <;> exact Ex.noConfusion

theorem k_palingref23_tenant_own {a1 : Api_Net} {a2 : List Int} {a3 : List Api_Tenant} {a4 : Int} {r : ((List Int) × Int)} (h : palingref23_tenant_own a1 a2 a3 a4 = some r) :
    CallsOK Try.prog UU 98 [.agg (c31 a1), .os 0 (List.length a2), .sl 56 a3, .v (.int .i64 a4)] [.arr 3 a2 (List.length a2) false] ((fun r => match r with | (l62, v63) => .v (.int .i64 v63)) r) ((fun r => match r with | (l62, v63) => [.arr 3 l62 (List.length a2) false]) r) := by
  unfold palingref23_tenant_own at h
  obtain ⟨x5, h6, h⟩ := bind_out h
  obtain ⟨r7, h8, h⟩ := bind_out h
  rcases ite_out h with ⟨h9, h⟩ | ⟨h9, h⟩
  · injection h with h; subst h; exact runFn_sound mixedOrders Try.func98 rfl (keep := some [0]) (π := [.row (c56 x5), .callv (.v (.bool r7)), .dec true]) (hrun := by kernel_rfl) (hps := pc (ob56 h6) <| pc (k_palingref14_Right h8) <| pc (h9) <| pn)
  · rcases ite_out h with ⟨h10, h⟩ | ⟨h10, h⟩
    · injection h with h; subst h; exact runFn_sound mixedOrders Try.func98 rfl (keep := some [0]) (π := [.row (c56 x5), .callv (.v (.bool r7)), .dec false, .dec true]) (hrun := by kernel_rfl) (hps := pc (ob56 h6) <| pc (k_palingref14_Right h8) <| pc (h9) <| pc (h10) <| pn)
    · obtain ⟨r19, h18, h⟩ := bind_out h
      rcases r19 with _ | _
      · injection h with h; subst h; exact runFn_sound mixedOrders Try.func98 rfl (keep := some [0]) (π := [.row (c56 x5), .callv (.v (.bool r7)), .dec false, .dec false, .sum [1, 2, 3, 4, 8, 9] [0, 1] .ret [(8, .v (.int .i64 30))] [.arr 3 a2 (List.length a2) false]]) (hrun := by kernel_rfl) (hps := pc (ob56 h6) <| pc (k_palingref14_Right h8) <| pc (h9) <| pc (h10) <| pc (k_palingref23_tenant_own_L1 _ _ h18) <| pn)
      · obtain ⟨r61, h60, h⟩ := bind_out h
        rcases r61 with ⟨l56, v57⟩ | l59
        · injection h with h; subst h; exact runFn_sound mixedOrders Try.func98 rfl (keep := some [0]) (π := [.row (c56 x5), .callv (.v (.bool r7)), .dec false, .dec false, .sum [1, 2, 3, 4, 8, 9] [0, 1] (.exit 0) [(1, .os 0 (List.length a2)), (2, .sl 56 a3), (3, .v (.int .i64 a4)), (4, .op 1 1 0 0), (8, .z)] [.arr 3 a2 (List.length a2) false, .box 31 (c31 a1) false], .sum [1, 2, 3, 4, 8, 10] [0, 1] .ret [(8, .v (.int .i64 v57))] [.arr 3 l56 (List.length a2) false]]) (hrun := by kernel_rfl) (hps := pc (ob56 h6) <| pc (k_palingref14_Right h8) <| pc (h9) <| pc (h10) <| pc (k_palingref23_tenant_own_L1 _ _ h18) <| pc (k_palingref23_tenant_own_L2 _ _ h60) <| pn)
        · injection h with h; subst h; exact runFn_sound mixedOrders Try.func98 rfl (keep := some [0]) (π := [.row (c56 x5), .callv (.v (.bool r7)), .dec false, .dec false, .sum [1, 2, 3, 4, 8, 9] [0, 1] (.exit 0) [(1, .os 0 (List.length a2)), (2, .sl 56 a3), (3, .v (.int .i64 a4)), (4, .op 1 1 0 0), (8, .z)] [.arr 3 a2 (List.length a2) false, .box 31 (c31 a1) false], .sum [1, 2, 3, 4, 8, 10] [0, 1] (.exit 2) [(8, .z)] [.arr 3 l59 (List.length a2) false]]) (hrun := by kernel_rfl) (hps := pc (ob56 h6) <| pc (k_palingref14_Right h8) <| pc (h9) <| pc (h10) <| pc (k_palingref23_tenant_own_L1 _ _ h18) <| pc (k_palingref23_tenant_own_L2 _ _ h60) <| pn)

theorem k_palingref23_tenant_ownx_L1 {a1 : Api_Net} {a2 : List Int} {n3 : Nat} {a4 : List Api_Tenant} {a5 : Int} : LoopOK Try.prog UU 1 104 (subC (codeOf Try.f98) [1, 1, 0, 1, 0, 0]) (ρ := Unit ⊕ Unit) (palingref23_tenant_ownx_L1 a1 a2 n3 a4 a5)
    (fun v12 : Int => ([(1, .os 0 n3), (2, .sl 56 a4), (3, .v (.int .i64 a5)), (4, .op 1 1 0 0), (8, .z), (9, .v (.int .i64 v12))] : Fr DD)) (fun v12 : Int => ([.arr 3 a2 n3 false, .box 31 (c31 a1) false] : Heap DD)) (fun r => match r with | Sum.inl _ => .ret | Sum.inr _ => .exit 0) (fun r => match r with | Sum.inl _ => [(8, .v (.int .i64 30))] | Sum.inr _ => [(1, .os 0 n3), (2, .sl 56 a4), (3, .v (.int .i64 a5)), (4, .op 1 1 0 0), (8, .z)]) (fun r => match r with | Sum.inl _ => [.arr 3 a2 n3 false] | Sum.inr _ => [.arr 3 a2 n3 false, .box 31 (c31 a1) false]) := by
  refine loop_sound3 (fun s q h => ?_) (fun r => ?_)
  · replace h : palingref23_tenant_ownx_L1 a1 a2 n3 a4 a5 s = some q := h; revert h; revert s; intro v12 h
    unfold palingref23_tenant_ownx_L1 at h
    rcases ite_out h with ⟨h13, h⟩ | ⟨h13, h⟩
    · obtain ⟨x14, h15, h⟩ := bind_out h
      obtain ⟨x16, h17, h⟩ := bind_out h
      rcases ite_out h with ⟨h18, h⟩ | ⟨h18, h⟩
      · injection h with h; subst h; exact runLp_sound mixedOrders (live := [8]) (ids := [0]) (π := [.dec true, .row (c56 x14), .row (c56 x16), .dec true]) (hx := by kernel_rfl) (hps := pc (h13) <| pc (ob56 h15) <| pc (ob56 h17) <| pc (h18) <| pn)
      · injection h with h; subst h; exact runLp_sound mixedOrders (live := [1, 2, 3, 4, 8, 9]) (ids := [0, 1]) (π := [.dec true, .row (c56 x14), .row (c56 x16), .dec false]) (hx := by kernel_rfl) (hps := pc (h13) <| pc (ob56 h15) <| pc (ob56 h17) <| pc (h18) <| pn)
    · injection h with h; subst h; exact runLp_sound mixedOrders (live := [1, 2, 3, 4, 8]) (ids := [0, 1]) (π := [.dec false]) (hx := by kernel_rfl) (hps := pc (h13) <| pn)
  · rcases r with _ | _ <;> exact Ex.noConfusion

theorem k_palingref23_tenant_ownx_L2 {a1 : Api_Net} {n3 : Nat} {a4 : List Api_Tenant} {a5 : Int} : LoopOK Try.prog UU 1 104 (subC (codeOf Try.f98) [1, 1, 1, 0, 1, 0, 0]) (fun s : (List Int) × Int => match s with | (l21, v22) => palingref23_tenant_ownx_L2 a1 n3 a4 a5 l21 v22)
    (fun s : (List Int) × Int => (match s with | (l21, v22) => [(1, .os 0 n3), (2, .sl 56 a4), (3, .v (.int .i64 a5)), (4, .op 1 1 0 0), (8, .z), (10, .v (.int .i64 v22))] : Fr DD)) (fun s : (List Int) × Int => (match s with | (l21, v22) => [.arr 3 l21 n3 false, .box 31 (c31 a1) false] : Heap DD)) (fun r => match r with | Sum.inl (l57, v58) => .ret | Sum.inr l60 => .exit 2) (fun r => match r with | Sum.inl (l57, v58) => [(8, .v (.int .i64 v58))] | Sum.inr l60 => [(8, .z)]) (fun r => match r with | Sum.inl (l57, v58) => [.arr 3 l57 n3 false] | Sum.inr l60 => [.arr 3 l60 n3 false]) := by
  refine loop_sound3 (fun s q h => ?_) (fun r => ?_)
  · obtain ⟨l21, v22⟩ := s; replace h : palingref23_tenant_ownx_L2 a1 n3 a4 a5 l21 v22 = some q := h
    unfold palingref23_tenant_ownx_L2 at h
    obtain ⟨x23, h24, h⟩ := bind_out h
    rcases ite_out h with ⟨h25, h⟩ | ⟨h25, h⟩
    · obtain ⟨x26, h27, h⟩ := bind_out h
      obtain ⟨x28, h29, h⟩ := bind_out h
      obtain ⟨r30, h31, h⟩ := bind_out h
      rcases ite_out h with ⟨h32, h⟩ | ⟨h32, h⟩
      · injection h with h; subst h; exact runLp_sound mixedOrders (live := [8]) (ids := [0]) (π := [.row (c56 x23), .dec true, .row (c56 x26), .row (c9 x28), .callv (.v (.int .i64 r30)), .dec true]) (hx := by kernel_rfl) (hps := pc (ob56 h24) <| pc (h25) <| pc (ob56 h27) <| pc (ob9 h29) <| pc (k_palingref15_Device h31) <| pc (h32) <| pn)
      · obtain ⟨x33, h34, h⟩ := bind_out h
        obtain ⟨x35, h36, h⟩ := bind_out h
        obtain ⟨r37, h38, h⟩ := bind_out h
        rcases ite_out h with ⟨h39, h⟩ | ⟨h39, h⟩
        · injection h with h; subst h; exact runLp_sound mixedOrders (live := [8]) (ids := [0]) (π := [.row (c56 x23), .dec true, .row (c56 x26), .row (c9 x28), .callv (.v (.int .i64 r30)), .dec false, .row (c56 x33), .row (c9 x35), .callv (.v (.int .i64 r37)), .dec true]) (hx := by kernel_rfl) (hps := pc (ob56 h24) <| pc (h25) <| pc (ob56 h27) <| pc (ob9 h29) <| pc (k_palingref15_Device h31) <| pc (h32) <| pc (ob56 h34) <| pc (ob9 h36) <| pc (k_palingref15_Port h38) <| pc (h39) <| pn)
        · obtain ⟨x40, h41, h⟩ := bind_out h
          obtain ⟨x42, h43, h⟩ := bind_out h
          obtain ⟨r44, h45, h⟩ := bind_out h
          obtain ⟨x46, h47, h⟩ := bind_out h
          rcases ite_out h with ⟨h48, h⟩ | ⟨h48, h⟩
          · injection h with h; subst h; exact runLp_sound mixedOrders (live := [8]) (ids := [0]) (π := [.row (c56 x23), .dec true, .row (c56 x26), .row (c9 x28), .callv (.v (.int .i64 r30)), .dec false, .row (c56 x33), .row (c9 x35), .callv (.v (.int .i64 r37)), .dec false, .row (c56 x40), .row (c9 x42), .callv (.v (.int .i64 r44)), .row (c60 x46), .dec true]) (hx := by kernel_rfl) (hps := pc (ob56 h24) <| pc (h25) <| pc (ob56 h27) <| pc (ob9 h29) <| pc (k_palingref15_Device h31) <| pc (h32) <| pc (ob56 h34) <| pc (ob9 h36) <| pc (k_palingref15_Port h38) <| pc (h39) <| pc (ob56 h41) <| pc (ob9 h43) <| pc (k_palingref15_Port h45) <| pc (ob60 h47) <| pc (h48) <| pn)
          · rcases ite_out h with ⟨h49, h⟩ | ⟨h49, h⟩
            · obtain ⟨x50, h51, h⟩ := bind_out h
              rcases ite_out h with ⟨h52, h⟩ | ⟨h52, h⟩
              · injection h with h; subst h; exact runLp_sound mixedOrders (live := [8]) (ids := [0]) (π := [.row (c56 x23), .dec true, .row (c56 x26), .row (c9 x28), .callv (.v (.int .i64 r30)), .dec false, .row (c56 x33), .row (c9 x35), .callv (.v (.int .i64 r37)), .dec false, .row (c56 x40), .row (c9 x42), .callv (.v (.int .i64 r44)), .row (c60 x46), .dec false, .row (c3 x50), .dec true]) (hx := by kernel_rfl) (hps := pc (ob56 h24) <| pc (h25) <| pc (ob56 h27) <| pc (ob9 h29) <| pc (k_palingref15_Device h31) <| pc (h32) <| pc (ob56 h34) <| pc (ob9 h36) <| pc (k_palingref15_Port h38) <| pc (h39) <| pc (ob56 h41) <| pc (ob9 h43) <| pc (k_palingref15_Port h45) <| pc (ob60 h47) <| pc (h48) <| pc (And.intro (rfl : (n3 : Nat) = n3) (lin_ob h49)) <| pc (And.intro (rfl : (n3 : Nat) = n3) (obn3 h51)) <| pc (h52) <| pn)
              · obtain ⟨x53, h54, h⟩ := bind_out h
                injection h with h; subst h; exact runLp_sound mixedOrders (live := [1, 2, 3, 4, 8, 10]) (ids := [0, 1]) (π := [.row (c56 x23), .dec true, .row (c56 x26), .row (c9 x28), .callv (.v (.int .i64 r30)), .dec false, .row (c56 x33), .row (c9 x35), .callv (.v (.int .i64 r37)), .dec false, .row (c56 x40), .row (c9 x42), .callv (.v (.int .i64 r44)), .row (c60 x46), .dec false, .row (c3 x50), .dec false, .row (c3 x53), .obj [] (.arr 3 (List.set l21 (Int.toNat r44) a5) n3 false)]) (hx := by kernel_rfl) (hps := pc (ob56 h24) <| pc (h25) <| pc (ob56 h27) <| pc (ob9 h29) <| pc (k_palingref15_Device h31) <| pc (h32) <| pc (ob56 h34) <| pc (ob9 h36) <| pc (k_palingref15_Port h38) <| pc (h39) <| pc (ob56 h41) <| pc (ob9 h43) <| pc (k_palingref15_Port h45) <| pc (ob60 h47) <| pc (h48) <| pc (And.intro (rfl : (n3 : Nat) = n3) (lin_ob h49)) <| pc (And.intro (rfl : (n3 : Nat) = n3) (obn3 h51)) <| pc (h52) <| pc (And.intro (rfl : (n3 : Nat) = n3) (lin_ob h49)) <| pc (st_ob (e := 3) (n := n3) (l := l21) (i := (Int.toNat r44)) a5 [.v (.int .i64 a5)] (obn3 h54) rfl) <| pn)
            · cases h
    · injection h with h; subst h; exact runLp_sound mixedOrders (live := [8]) (ids := [0]) (π := [.row (c56 x23), .dec false]) (hx := by kernel_rfl) (hps := pc (ob56 h24) <| pc (h25) <| pn)
  · rcases r with _ | _ <;> exact Ex.noConfusion

theorem k_palingref23_tenant_ownx {a1 : Api_Net} {a2 : List Int} {n3 : Nat} {a4 : List Api_Tenant} {a5 : Int} {r : ((List Int) × Int)} (h : palingref23_tenant_ownx a1 a2 n3 a4 a5 = some r) :
    CallsOK Try.prog UU 98 [.agg (c31 a1), .os 0 n3, .sl 56 a4, .v (.int .i64 a5)] [.arr 3 a2 n3 false] ((fun r => match r with | (l63, v64) => .v (.int .i64 v64)) r) ((fun r => match r with | (l63, v64) => [.arr 3 l63 n3 false]) r) := by
  unfold palingref23_tenant_ownx at h
  obtain ⟨x6, h7, h⟩ := bind_out h
  obtain ⟨r8, h9, h⟩ := bind_out h
  rcases ite_out h with ⟨h10, h⟩ | ⟨h10, h⟩
  · injection h with h; subst h; exact runFn_sound mixedOrders Try.func98 rfl (keep := some [0]) (π := [.row (c56 x6), .callv (.v (.bool r8)), .dec true]) (hrun := by kernel_rfl) (hps := pc (ob56 h7) <| pc (k_palingref14_Right h9) <| pc (h10) <| pn)
  · rcases ite_out h with ⟨h11, h⟩ | ⟨h11, h⟩
    · injection h with h; subst h; exact runFn_sound mixedOrders Try.func98 rfl (keep := some [0]) (π := [.row (c56 x6), .callv (.v (.bool r8)), .dec false, .dec true]) (hrun := by kernel_rfl) (hps := pc (ob56 h7) <| pc (k_palingref14_Right h9) <| pc (h10) <| pc (h11) <| pn)
    · obtain ⟨r20, h19, h⟩ := bind_out h
      rcases r20 with _ | _
      · injection h with h; subst h; exact runFn_sound mixedOrders Try.func98 rfl (keep := some [0]) (π := [.row (c56 x6), .callv (.v (.bool r8)), .dec false, .dec false, .sum [1, 2, 3, 4, 8, 9] [0, 1] .ret [(8, .v (.int .i64 30))] [.arr 3 a2 n3 false]]) (hrun := by kernel_rfl) (hps := pc (ob56 h7) <| pc (k_palingref14_Right h9) <| pc (h10) <| pc (h11) <| pc (k_palingref23_tenant_ownx_L1 _ _ h19) <| pn)
      · obtain ⟨r62, h61, h⟩ := bind_out h
        rcases r62 with ⟨l57, v58⟩ | l60
        · injection h with h; subst h; exact runFn_sound mixedOrders Try.func98 rfl (keep := some [0]) (π := [.row (c56 x6), .callv (.v (.bool r8)), .dec false, .dec false, .sum [1, 2, 3, 4, 8, 9] [0, 1] (.exit 0) [(1, .os 0 n3), (2, .sl 56 a4), (3, .v (.int .i64 a5)), (4, .op 1 1 0 0), (8, .z)] [.arr 3 a2 n3 false, .box 31 (c31 a1) false], .sum [1, 2, 3, 4, 8, 10] [0, 1] .ret [(8, .v (.int .i64 v58))] [.arr 3 l57 n3 false]]) (hrun := by kernel_rfl) (hps := pc (ob56 h7) <| pc (k_palingref14_Right h9) <| pc (h10) <| pc (h11) <| pc (k_palingref23_tenant_ownx_L1 _ _ h19) <| pc (k_palingref23_tenant_ownx_L2 _ _ h61) <| pn)
        · injection h with h; subst h; exact runFn_sound mixedOrders Try.func98 rfl (keep := some [0]) (π := [.row (c56 x6), .callv (.v (.bool r8)), .dec false, .dec false, .sum [1, 2, 3, 4, 8, 9] [0, 1] (.exit 0) [(1, .os 0 n3), (2, .sl 56 a4), (3, .v (.int .i64 a5)), (4, .op 1 1 0 0), (8, .z)] [.arr 3 a2 n3 false, .box 31 (c31 a1) false], .sum [1, 2, 3, 4, 8, 10] [0, 1] (.exit 2) [(8, .z)] [.arr 3 l60 n3 false]]) (hrun := by kernel_rfl) (hps := pc (ob56 h7) <| pc (k_palingref14_Right h9) <| pc (h10) <| pc (h11) <| pc (k_palingref23_tenant_ownx_L1 _ _ h19) <| pc (k_palingref23_tenant_ownx_L2 _ _ h61) <| pn)

theorem k_palingref23_Assign_L1 {a1 : Api_Net} {a2 : List Api_Tenant} : LoopOK Try.prog UU 0 73 (subC (codeOf Try.f33) [1, 1, 1, 0, 1, 0, 0]) (fun s : (List Int) × Int => match s with | (l6, v7) => palingref23_Assign_L1 a1 a2 l6 v7)
    (fun s : (List Int) × Int => (match s with | (l6, v7) => [(1, .sl 56 a2), (2, .op 0 1 0 0), (4, .os 1 0), (5, .z), (6, .z), (7, .z), (8, .os 2 (List.length l6)), (9, .v (.int .i64 v7))] : Fr DD)) (fun s : (List Int) × Int => (match s with | (l6, v7) => [.box 31 (c31 a1) false, .n 3, .arr 3 l6 (List.length l6) false] : Heap DD)) (fun r => match r with | l17 => .exit 0) (fun r => match r with | l17 => [(1, .sl 56 a2), (2, .op 0 1 0 0), (4, .os 1 0), (5, .z), (6, .z), (7, .z), (8, .os 2 (List.length l17))]) (fun r => match r with | l17 => [.box 31 (c31 a1) false, .n 3, .arr 3 l17 (List.length l17) false]) := by
  refine loop_sound3 (fun s q h => ?_) (fun r => ?_)
  · obtain ⟨l6, v7⟩ := s; replace h : palingref23_Assign_L1 a1 a2 l6 v7 = some q := h
    unfold palingref23_Assign_L1 at h
    rcases ite_out h with ⟨h8, h⟩ | ⟨h8, h⟩
    · rcases ite_out h with ⟨h9, h⟩ | ⟨h9, h⟩
      · injection h with h; subst h; exact runLp_sound mixedOrders (live := [1, 2, 4, 5, 6, 7, 8, 9]) (ids := [0, 1, 2]) (π := [.dec true, .obj [] (.arr 3 [((-1) : Int)] (List.length [((-1) : Int)]) false), .obj [3] (.arr 3 (l6 ++ [((-1) : Int)]) (List.length (l6 ++ [((-1) : Int)])) false)]) (hx := by kernel_rfl) (hps := pc (h8) <| pc (bs_ob 3 [((-1) : Int)]) <| pc (app_ob 3 (n := (List.length l6)) (l := l6) (xs := [((-1) : Int)]) h9) <| pc ((rfl : ((List.length [((-1) : Int)]) : Nat) = (List.length [((-1) : Int)]))) <| pn)
      · cases h
    · injection h with h; subst h; exact runLp_sound mixedOrders (live := [1, 2, 4, 5, 6, 7, 8]) (ids := [0, 1, 2]) (π := [.dec false]) (hx := by kernel_rfl) (hps := pc (h8) <| pn)
  · exact Ex.noConfusion

theorem k_palingref23_Assign_L2 {a1 : Api_Net} {a2 : List Api_Tenant} {l17 : List Int} : LoopOK Try.prog UU 0 73 (subC (codeOf Try.f33) [1, 1, 1, 1, 0, 1, 0, 0]) (fun s : (List Int) × Int => match s with | (l20, v21) => palingref23_Assign_L2 a1 a2 l17 l20 v21)
    (fun s : (List Int) × Int => (match s with | (l20, v21) => [(1, .sl 56 a2), (2, .op 0 1 0 0), (4, .os 1 0), (5, .z), (6, .z), (7, .z), (8, .os 2 (List.length l17)), (10, .v (.int .i64 v21))] : Fr DD)) (fun s : (List Int) × Int => (match s with | (l20, v21) => [.box 31 (c31 a1) false, .n 3, .arr 3 l20 (List.length l17) false] : Heap DD)) (fun r => match r with | Sum.inl (v32, v33) => .ret | Sum.inr l40 => .exit 2) (fun r => match r with | Sum.inl (v32, v33) => [(4, .em 3), (5, .v (.int .i64 2)), (6, .v (.int .i64 v32)), (7, .v (.int .i64 v33))] | Sum.inr l40 => [(2, .op 0 1 0 0), (4, .os 1 0), (5, .z), (6, .z), (7, .z), (8, .os 2 (List.length l17))]) (fun r => match r with | Sum.inl (v32, v33) => [] | Sum.inr l40 => [.box 31 (c31 a1) false, .n 3, .arr 3 l40 (List.length l17) false]) := by
  refine loop_sound3 (fun s q h => ?_) (fun r => ?_)
  · obtain ⟨l20, v21⟩ := s; replace h : palingref23_Assign_L2 a1 a2 l17 l20 v21 = some q := h
    unfold palingref23_Assign_L2 at h
    rcases ite_out h with ⟨h22, h⟩ | ⟨h22, h⟩
    · obtain ⟨r23, h24, h⟩ := bind_out h
      obtain ⟨l25, v26⟩ := r23
      rcases ite_out h with ⟨h27, h⟩ | ⟨h27, h⟩
      · obtain ⟨x28, h29, h⟩ := bind_out h
        injection h with h; subst h; exact runLp_sound mixedOrders (live := [4, 5, 6, 7]) (ids := []) (π := [.dec true, .callm [2] (.v (.int .i64 v26)) [.arr 3 l25 (List.length l17) false], .dec true, .row (c56 x28)]) (hx := by kernel_rfl) (hps := pc (h22) <| pc (k_palingref23_tenant_ownx h24) <| pc (h27) <| pc (ob56 h29) <| pn)
      · injection h with h; subst h; exact runLp_sound mixedOrders (live := [1, 2, 4, 5, 6, 7, 8, 10]) (ids := [0, 1, 2]) (π := [.dec true, .callm [2] (.v (.int .i64 v26)) [.arr 3 l25 (List.length l17) false], .dec false]) (hx := by kernel_rfl) (hps := pc (h22) <| pc (k_palingref23_tenant_ownx h24) <| pc (h27) <| pn)
    · injection h with h; subst h; exact runLp_sound mixedOrders (live := [2, 4, 5, 6, 7, 8]) (ids := [0, 1, 2]) (π := [.dec false]) (hx := by kernel_rfl) (hps := pc (h22) <| pn)
  · rcases r with _ | _ <;> exact Ex.noConfusion

theorem k_palingref23_Assign_L3 {a1 : Api_Net} {l17 : List Int} {l40 : List Int} : LoopOK Try.prog UU 0 73 (subC (codeOf Try.f33) [1, 1, 1, 1, 1, 0, 1, 0, 0]) (ρ := Int ⊕ Unit) (palingref23_Assign_L3 a1 l17 l40)
    (fun v43 : Int => ([(2, .op 0 1 0 0), (4, .os 1 0), (5, .z), (6, .z), (7, .z), (8, .os 2 (List.length l17)), (12, .v (.int .i64 v43))] : Fr DD)) (fun v43 : Int => ([.box 31 (c31 a1) false, .n 3, .arr 3 l40 (List.length l17) false] : Heap DD)) (fun r => match r with | Sum.inl v55 => .ret | Sum.inr _ => .exit 4) (fun r => match r with | Sum.inl v55 => [(4, .em 3), (5, .v (.int .i64 1)), (6, .v (.int .i64 v55)), (7, .v (.int .i64 39))] | Sum.inr _ => [(4, .os 0 0), (5, .z), (6, .z), (7, .z), (8, .os 1 (List.length l17))]) (fun r => match r with | Sum.inl v55 => [] | Sum.inr _ => [.n 3, .arr 3 l40 (List.length l17) false]) := by
  refine loop_sound3 (fun s q h => ?_) (fun r => ?_)
  · replace h : palingref23_Assign_L3 a1 l17 l40 s = some q := h; revert h; revert s; intro v43 h
    unfold palingref23_Assign_L3 at h
    rcases ite_out h with ⟨h44, h⟩ | ⟨h44, h⟩
    · obtain ⟨x45, h46, h⟩ := bind_out h
      rcases ite_out h with ⟨h47, h⟩ | ⟨h47, h⟩
      · rcases ite_out h with ⟨h48, h⟩ | ⟨h48, h⟩
        · obtain ⟨x49, h50, h⟩ := bind_out h
          rcases ite_out h with ⟨h51, h⟩ | ⟨h51, h⟩
          · obtain ⟨x52, h53, h⟩ := bind_out h
            injection h with h; subst h; exact runLp_sound mixedOrders (live := [4, 5, 6, 7]) (ids := []) (π := [.dec true, .row (c60 x45), .dec true, .row (c3 x49), .dec true, .row (c60 x52)]) (hx := by kernel_rfl) (hps := pc (h44) <| pc (ob60 h46) <| pc (h47) <| pc (And.intro (rfl : ((List.length l17) : Nat) = (List.length l17)) (lin_ob h48)) <| pc (And.intro (rfl : ((List.length l17) : Nat) = (List.length l17)) (obn3 h50)) <| pc (h51) <| pc (ob60 h53) <| pn)
          · injection h with h; subst h; exact runLp_sound mixedOrders (live := [2, 4, 5, 6, 7, 8, 12]) (ids := [0, 1, 2]) (π := [.dec true, .row (c60 x45), .dec true, .row (c3 x49), .dec false]) (hx := by kernel_rfl) (hps := pc (h44) <| pc (ob60 h46) <| pc (h47) <| pc (And.intro (rfl : ((List.length l17) : Nat) = (List.length l17)) (lin_ob h48)) <| pc (And.intro (rfl : ((List.length l17) : Nat) = (List.length l17)) (obn3 h50)) <| pc (h51) <| pn)
        · cases h
      · injection h with h; subst h; exact runLp_sound mixedOrders (live := [2, 4, 5, 6, 7, 8, 12]) (ids := [0, 1, 2]) (π := [.dec true, .row (c60 x45), .dec false]) (hx := by kernel_rfl) (hps := pc (h44) <| pc (ob60 h46) <| pc (h47) <| pn)
    · injection h with h; subst h; exact runLp_sound mixedOrders (live := [4, 5, 6, 7, 8]) (ids := [1, 2]) (π := [.dec false]) (hx := by kernel_rfl) (hps := pc (h44) <| pn)
  · rcases r with _ | _ <;> exact Ex.noConfusion

theorem k_palingref23_Assign {a1 : Api_Net} {a2 : List Api_Tenant} {r : ((List Int) × Int × Int × Int)} (h : palingref23_Assign a1 a2 = some r) :
    CallsOK Try.prog UU 33 [.agg (c31 a1), .sl 56 a2] [] ((fun r => match r with | (r58, r59, r60, r61) => .tup [.sl 3 r58, .v (.int .i64 r59), .v (.int .i64 r60), .v (.int .i64 r61)]) r) ((fun r => match r with | (r58, r59, r60, r61) => []) r) := by
  unfold palingref23_Assign at h
  obtain ⟨r3, h4, h⟩ := bind_out h
  rcases ite_out h with ⟨h5, h⟩ | ⟨h5, h⟩
  · injection h with h; subst h; exact runFz_sound mixedOrders Try.func33 rfl (ids := []) (fz := [2]) (π := [.callv (.v (.bool r3)), .dec true]) (hrun := by kernel_rfl) (hps := pc (k_palingref15_Right h4) <| pc (h5) <| pc ((rfl : (0 : Nat) = 0)) <| pn)
  · obtain ⟨l17, h18, h⟩ := bind_out h
    obtain ⟨r42, h41, h⟩ := bind_out h
    rcases r42 with ⟨v32, v33⟩ | l40
    · injection h with h; subst h; exact runFz_sound mixedOrders Try.func33 rfl (ids := []) (fz := []) (π := [.callv (.v (.bool r3)), .dec false, .sum [1, 2, 4, 5, 6, 7, 8, 9] [0, 1, 2] (.exit 0) [(1, .sl 56 a2), (2, .op 0 1 0 0), (4, .os 1 0), (5, .z), (6, .z), (7, .z), (8, .os 2 (List.length l17))] [.box 31 (c31 a1) false, .n 3, .arr 3 l17 (List.length l17) false], .sum [1, 2, 4, 5, 6, 7, 8, 10] [0, 1, 2] .ret [(4, .em 3), (5, .v (.int .i64 2)), (6, .v (.int .i64 v32)), (7, .v (.int .i64 v33))] []]) (hrun := by kernel_rfl) (hps := pc (k_palingref15_Right h4) <| pc (h5) <| pc (k_palingref23_Assign_L1 _ _ h18) <| pc (k_palingref23_Assign_L2 _ _ h41) <| pn)
    · obtain ⟨r57, h56, h⟩ := bind_out h
      rcases r57 with v55 | _
      · injection h with h; subst h; exact runFz_sound mixedOrders Try.func33 rfl (ids := []) (fz := []) (π := [.callv (.v (.bool r3)), .dec false, .sum [1, 2, 4, 5, 6, 7, 8, 9] [0, 1, 2] (.exit 0) [(1, .sl 56 a2), (2, .op 0 1 0 0), (4, .os 1 0), (5, .z), (6, .z), (7, .z), (8, .os 2 (List.length l17))] [.box 31 (c31 a1) false, .n 3, .arr 3 l17 (List.length l17) false], .sum [1, 2, 4, 5, 6, 7, 8, 10] [0, 1, 2] (.exit 2) [(2, .op 0 1 0 0), (4, .os 1 0), (5, .z), (6, .z), (7, .z), (8, .os 2 (List.length l17))] [.box 31 (c31 a1) false, .n 3, .arr 3 l40 (List.length l17) false], .sum [2, 4, 5, 6, 7, 8, 12] [0, 1, 2] .ret [(4, .em 3), (5, .v (.int .i64 1)), (6, .v (.int .i64 v55)), (7, .v (.int .i64 39))] []]) (hrun := by kernel_rfl) (hps := pc (k_palingref15_Right h4) <| pc (h5) <| pc (k_palingref23_Assign_L1 _ _ h18) <| pc (k_palingref23_Assign_L2 _ _ h41) <| pc (k_palingref23_Assign_L3 _ _ h56) <| pn)
      · injection h with h; subst h; exact runFz_sound mixedOrders Try.func33 rfl (ids := []) (fz := [1]) (π := [.callv (.v (.bool r3)), .dec false, .sum [1, 2, 4, 5, 6, 7, 8, 9] [0, 1, 2] (.exit 0) [(1, .sl 56 a2), (2, .op 0 1 0 0), (4, .os 1 0), (5, .z), (6, .z), (7, .z), (8, .os 2 (List.length l17))] [.box 31 (c31 a1) false, .n 3, .arr 3 l17 (List.length l17) false], .sum [1, 2, 4, 5, 6, 7, 8, 10] [0, 1, 2] (.exit 2) [(2, .op 0 1 0 0), (4, .os 1 0), (5, .z), (6, .z), (7, .z), (8, .os 2 (List.length l17))] [.box 31 (c31 a1) false, .n 3, .arr 3 l40 (List.length l17) false], .sum [2, 4, 5, 6, 7, 8, 12] [0, 1, 2] (.exit 4) [(4, .os 0 0), (5, .z), (6, .z), (7, .z), (8, .os 1 (List.length l17))] [.n 3, .arr 3 l40 (List.length l17) false]]) (hrun := by kernel_rfl) (hps := pc (k_palingref15_Right h4) <| pc (h5) <| pc (k_palingref23_Assign_L1 _ _ h18) <| pc (k_palingref23_Assign_L2 _ _ h41) <| pc (k_palingref23_Assign_L3 _ _ h56) <| pc ((rfl : ((List.length l17) : Nat) = (List.length l17))) <| pn)

end Go.Eng
