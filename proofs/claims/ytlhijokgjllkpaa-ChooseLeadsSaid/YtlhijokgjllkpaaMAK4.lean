/- Part of the proof of ChooseLeads: printed mirrors of the functions, or their contracts. No conditions. -/
import Derived.Test.YtlhijokgjllkpaaMAK3
set_option linter.unusedVariables false
set_option maxRecDepth 100000
namespace Go.Eng
open Go Go.Proofs
theorem k_palingref15_ports_J2 {a1 : Api_Net} {v2 : Int} {x4 : Api_Port} {r : Unit ⊕ Unit} (h : palingref15_ports_J2 a1 v2 x4 = some r) :
    ExecOK Try.prog UU 0 120 (subC (codeOf Try.f70) [1, 0, 1, 0, 0, 1, 0, 0, 1, 1, 0]) [(1, .op 0 1 0 0), (2, .v (.bool false)), (3, .v (.int .i64 v2)), (4, .op 1 1 0 0)] [.box 31 (c31 a1) false, .box 36 (c36 x4) false] ((fun r => match r with | Sum.inl _ => .ret | Sum.inr _ => .nor) r) ((fun r => match r with | Sum.inl _ => [(2, .v (.bool false))] | Sum.inr _ => [(1, .op 0 1 0 0), (2, .v (.bool false)), (3, .v (.int .i64 v2)), (4, .op 1 1 0 0)]) r) ((fun r => match r with | Sum.inl _ => [] | Sum.inr _ => [.box 31 (c31 a1) false, .box 36 (c36 x4) false]) r) := by
  unfold palingref15_ports_J2 at h
  rcases ite_out h with ⟨h17, h⟩ | ⟨h17, h⟩
  · rcases ite_out h with ⟨h18, h⟩ | ⟨h18, h⟩
    · injection h with h; subst h; exact runLp_sound mixedOrders (live := [2]) (ids := []) (π := [.dec true, .dec true]) (hx := by kernel_rfl) (hps := pc (h17) <| pc (h18) <| pn)
    · rcases ite_out h with ⟨h19, h⟩ | ⟨h19, h⟩
      · obtain ⟨r20, h21, h⟩ := bind_out h
        rcases ite_out h with ⟨h22, h⟩ | ⟨h22, h⟩
        · injection h with h; subst h; exact runLp_sound mixedOrders (live := [2]) (ids := []) (π := [.dec true, .dec false, .dec true, .callv (.v (.int .i64 r20)), .dec true]) (hx := by kernel_rfl) (hps := pc (h17) <| pc (h18) <| pc (h19) <| pc (k_palingref15_At h21) <| pc (h22) <| pn)
        · injection h with h; subst h; exact runLp_sound mixedOrders (live := [1, 2, 3, 4]) (ids := [0, 1]) (π := [.dec true, .dec false, .dec true, .callv (.v (.int .i64 r20)), .dec false]) (hx := by kernel_rfl) (hps := pc (h17) <| pc (h18) <| pc (h19) <| pc (k_palingref15_At h21) <| pc (h22) <| pn)
      · injection h with h; subst h; exact runLp_sound mixedOrders (live := [1, 2, 3, 4]) (ids := [0, 1]) (π := [.dec true, .dec false, .dec false]) (hx := by kernel_rfl) (hps := pc (h17) <| pc (h18) <| pc (h19) <| pn)
  · rcases ite_out h with ⟨h23, h⟩ | ⟨h23, h⟩
    · obtain ⟨r24, h25, h⟩ := bind_out h
      rcases ite_out h with ⟨h26, h⟩ | ⟨h26, h⟩
      · injection h with h; subst h; exact runLp_sound mixedOrders (live := [2]) (ids := []) (π := [.dec false, .dec true, .callv (.v (.int .i64 r24)), .dec true]) (hx := by kernel_rfl) (hps := pc (h17) <| pc (h23) <| pc (k_palingref15_At h25) <| pc (h26) <| pn)
      · injection h with h; subst h; exact runLp_sound mixedOrders (live := [1, 2, 3, 4]) (ids := [0, 1]) (π := [.dec false, .dec true, .callv (.v (.int .i64 r24)), .dec false]) (hx := by kernel_rfl) (hps := pc (h17) <| pc (h23) <| pc (k_palingref15_At h25) <| pc (h26) <| pn)
    · injection h with h; subst h; exact runLp_sound mixedOrders (live := [1, 2, 3, 4]) (ids := [0, 1]) (π := [.dec false, .dec false]) (hx := by kernel_rfl) (hps := pc (h17) <| pc (h23) <| pn)

theorem k_palingref15_ports_L3 {a1 : Api_Net} {v2 : Int} {x4 : Api_Port} : LoopOK Try.prog UU 0 120 (subC (codeOf Try.f70) [1, 0, 1, 0, 0, 1, 0, 0, 1, 1, 1, 0, 1, 0, 0]) (ρ := Unit ⊕ Unit) (palingref15_ports_L3 a1 v2 x4)
    (fun v29 : Int => ([(1, .op 0 1 0 0), (2, .v (.bool false)), (3, .v (.int .i64 v2)), (4, .op 1 1 0 0), (5, .v (.int .i64 v29))] : Fr DD)) (fun v29 : Int => ([.box 31 (c31 a1) false, .box 36 (c36 x4) false] : Heap DD)) (fun r => match r with | Sum.inl _ => .ret | Sum.inr _ => .exit 2) (fun r => match r with | Sum.inl _ => [(2, .v (.bool false))] | Sum.inr _ => [(1, .op 0 1 0 0), (2, .v (.bool false)), (3, .v (.int .i64 v2)), (4, .op 1 1 0 0)]) (fun r => match r with | Sum.inl _ => [] | Sum.inr _ => [.box 31 (c31 a1) false, .box 36 (c36 x4) false]) := by
  refine loop_sound3 (fun s q h => ?_) (fun r => ?_)
  · replace h : palingref15_ports_L3 a1 v2 x4 s = some q := h; revert h; revert s; intro v29 h
    unfold palingref15_ports_L3 at h
    rcases ite_out h with ⟨h30, h⟩ | ⟨h30, h⟩
    · obtain ⟨x31, h32, h⟩ := bind_out h
      obtain ⟨r33, h34, h⟩ := bind_out h
      rcases ite_out h with ⟨h35, h⟩ | ⟨h35, h⟩
      · injection h with h; subst h; exact runLp_sound mixedOrders (live := [2]) (ids := []) (π := [.dec true, .row (c3 x31), .callv (.v (.int .i64 r33)), .dec true]) (hx := by kernel_rfl) (hps := pc (h30) <| pc (ob3 h32) <| pc (k_palingref15_At h34) <| pc (h35) <| pn)
      · injection h with h; subst h; exact runLp_sound mixedOrders (live := [1, 2, 3, 4, 5]) (ids := [0, 1]) (π := [.dec true, .row (c3 x31), .callv (.v (.int .i64 r33)), .dec false]) (hx := by kernel_rfl) (hps := pc (h30) <| pc (ob3 h32) <| pc (k_palingref15_At h34) <| pc (h35) <| pn)
    · injection h with h; subst h; exact runLp_sound mixedOrders (live := [1, 2, 3, 4]) (ids := [0, 1]) (π := [.dec false]) (hx := by kernel_rfl) (hps := pc (h30) <| pn)
  · rcases r with _ | _ <;> exact Ex.noConfusion

theorem k_palingref15_ports_L1 {a1 : Api_Net} : LoopOK Try.prog UU 0 120 (subC (codeOf Try.f70) [1, 0, 1, 0, 0]) (ρ := Unit ⊕ Unit) (palingref15_ports_L1 a1)
    (fun v2 : Int => ([(1, .op 0 1 0 0), (2, .v (.bool false)), (3, .v (.int .i64 v2))] : Fr DD)) (fun v2 : Int => ([.box 31 (c31 a1) false] : Heap DD)) (fun r => match r with | Sum.inl _ => .ret | Sum.inr _ => .exit 0) (fun r => match r with | Sum.inl _ => [(2, .v (.bool false))] | Sum.inr _ => [(2, .v (.bool false))]) (fun r => match r with | Sum.inl _ => [] | Sum.inr _ => []) := by
  refine loop_sound3 (fun s q h => ?_) (fun r => ?_)
  · replace h : palingref15_ports_L1 a1 s = some q := h; revert h; revert s; intro v2 h
    unfold palingref15_ports_L1 at h
    rcases ite_out h with ⟨h3, h⟩ | ⟨h3, h⟩
    · obtain ⟨x4, h5, h⟩ := bind_out h
      obtain ⟨r6, h7, h⟩ := bind_out h
      rcases ite_out h with ⟨h8, h⟩ | ⟨h8, h⟩
      · injection h with h; subst h; exact runLp_sound mixedOrders (live := [2]) (ids := []) (π := [.dec true, .row (c36 x4), .callv (.v (.bool r6)), .dec true]) (hx := by kernel_rfl) (hps := pc (h3) <| pc (ob36 h5) <| pc (k_palingref15_Place h7) <| pc (h8) <| pn)
      · rcases ite_out h with ⟨h9, h⟩ | ⟨h9, h⟩
        · injection h with h; subst h; exact runLp_sound mixedOrders (live := [2]) (ids := []) (π := [.dec true, .row (c36 x4), .callv (.v (.bool r6)), .dec false, .dec true]) (hx := by kernel_rfl) (hps := pc (h3) <| pc (ob36 h5) <| pc (k_palingref15_Place h7) <| pc (h8) <| pc (h9) <| pn)
        · rcases ite_out h with ⟨h10, h⟩ | ⟨h10, h⟩
          · injection h with h; subst h; exact runLp_sound mixedOrders (live := [2]) (ids := []) (π := [.dec true, .row (c36 x4), .callv (.v (.bool r6)), .dec false, .dec false, .dec true]) (hx := by kernel_rfl) (hps := pc (h3) <| pc (ob36 h5) <| pc (k_palingref15_Place h7) <| pc (h8) <| pc (h9) <| pc (h10) <| pn)
          · obtain ⟨r11, h12, h⟩ := bind_out h
            rcases ite_out h with ⟨h13, h⟩ | ⟨h13, h⟩
            · injection h with h; subst h; exact runLp_sound mixedOrders (live := [2]) (ids := []) (π := [.dec true, .row (c36 x4), .callv (.v (.bool r6)), .dec false, .dec false, .dec false, .callv (.v (.bool r11)), .dec true]) (hx := by kernel_rfl) (hps := pc (h3) <| pc (ob36 h5) <| pc (k_palingref15_Place h7) <| pc (h8) <| pc (h9) <| pc (h10) <| pc (k_palingref15_rising h12) <| pc (h13) <| pn)
            · obtain ⟨r14, h15, h⟩ := bind_out h
              rcases ite_out h with ⟨h16, h⟩ | ⟨h16, h⟩
              · injection h with h; subst h; exact runLp_sound mixedOrders (live := [2]) (ids := []) (π := [.dec true, .row (c36 x4), .callv (.v (.bool r6)), .dec false, .dec false, .dec false, .callv (.v (.bool r11)), .dec false, .callv (.v (.bool r14)), .dec true]) (hx := by kernel_rfl) (hps := pc (h3) <| pc (ob36 h5) <| pc (k_palingref15_Place h7) <| pc (h8) <| pc (h9) <| pc (h10) <| pc (k_palingref15_rising h12) <| pc (h13) <| pc (k_palingref15_In h15) <| pc (h16) <| pn)
              · obtain ⟨r28, h27, h⟩ := bind_out h
                rcases r28 with _ | _
                · injection h with h; subst h; exact runLp_sound mixedOrders (live := [2]) (ids := []) (π := [.dec true, .row (c36 x4), .callv (.v (.bool r6)), .dec false, .dec false, .dec false, .callv (.v (.bool r11)), .dec false, .callv (.v (.bool r14)), .dec false, .cut [1, 2, 3, 4] [0, 2] .ret [(2, .v (.bool false))] []]) (hx := by kernel_rfl) (hps := pc (h3) <| pc (ob36 h5) <| pc (k_palingref15_Place h7) <| pc (h8) <| pc (h9) <| pc (h10) <| pc (k_palingref15_rising h12) <| pc (h13) <| pc (k_palingref15_In h15) <| pc (h16) <| pc (k_palingref15_ports_J2 h27) <| pn)
                · obtain ⟨r37, h36, h⟩ := bind_out h
                  rcases r37 with _ | _
                  · injection h with h; subst h; exact runLp_sound mixedOrders (live := [2]) (ids := []) (π := [.dec true, .row (c36 x4), .callv (.v (.bool r6)), .dec false, .dec false, .dec false, .callv (.v (.bool r11)), .dec false, .callv (.v (.bool r14)), .dec false, .cut [1, 2, 3, 4] [0, 2] .nor [(1, .op 0 1 0 0), (2, .v (.bool false)), (3, .v (.int .i64 v2)), (4, .op 1 1 0 0)] [.box 31 (c31 a1) false, .box 36 (c36 x4) false], .sum [1, 2, 3, 4, 5] [0, 1] .ret [(2, .v (.bool false))] []]) (hx := by kernel_rfl) (hps := pc (h3) <| pc (ob36 h5) <| pc (k_palingref15_Place h7) <| pc (h8) <| pc (h9) <| pc (h10) <| pc (k_palingref15_rising h12) <| pc (h13) <| pc (k_palingref15_In h15) <| pc (h16) <| pc (k_palingref15_ports_J2 h27) <| pc (k_palingref15_ports_L3 _ _ h36) <| pn)
                  · rcases ite_out h with ⟨h38, h⟩ | ⟨h38, h⟩
                    · injection h with h; subst h; exact runLp_sound mixedOrders (live := [1, 2, 3]) (ids := [0]) (π := [.dec true, .row (c36 x4), .callv (.v (.bool r6)), .dec false, .dec false, .dec false, .callv (.v (.bool r11)), .dec false, .callv (.v (.bool r14)), .dec false, .cut [1, 2, 3, 4] [0, 2] .nor [(1, .op 0 1 0 0), (2, .v (.bool false)), (3, .v (.int .i64 v2)), (4, .op 1 1 0 0)] [.box 31 (c31 a1) false, .box 36 (c36 x4) false], .sum [1, 2, 3, 4, 5] [0, 1] (.exit 2) [(1, .op 0 1 0 0), (2, .v (.bool false)), (3, .v (.int .i64 v2)), (4, .op 1 1 0 0)] [.box 31 (c31 a1) false, .box 36 (c36 x4) false], .dec true]) (hx := by kernel_rfl) (hps := pc (h3) <| pc (ob36 h5) <| pc (k_palingref15_Place h7) <| pc (h8) <| pc (h9) <| pc (h10) <| pc (k_palingref15_rising h12) <| pc (h13) <| pc (k_palingref15_In h15) <| pc (h16) <| pc (k_palingref15_ports_J2 h27) <| pc (k_palingref15_ports_L3 _ _ h36) <| pc (h38) <| pn)
                    · obtain ⟨r39, h40, h⟩ := bind_out h
                      rcases ite_out h with ⟨h41, h⟩ | ⟨h41, h⟩
                      · injection h with h; subst h; exact runLp_sound mixedOrders (live := [2]) (ids := []) (π := [.dec true, .row (c36 x4), .callv (.v (.bool r6)), .dec false, .dec false, .dec false, .callv (.v (.bool r11)), .dec false, .callv (.v (.bool r14)), .dec false, .cut [1, 2, 3, 4] [0, 2] .nor [(1, .op 0 1 0 0), (2, .v (.bool false)), (3, .v (.int .i64 v2)), (4, .op 1 1 0 0)] [.box 31 (c31 a1) false, .box 36 (c36 x4) false], .sum [1, 2, 3, 4, 5] [0, 1] (.exit 2) [(1, .op 0 1 0 0), (2, .v (.bool false)), (3, .v (.int .i64 v2)), (4, .op 1 1 0 0)] [.box 31 (c31 a1) false, .box 36 (c36 x4) false], .dec false, .callv (.v (.bool r39)), .dec true]) (hx := by kernel_rfl) (hps := pc (h3) <| pc (ob36 h5) <| pc (k_palingref15_Place h7) <| pc (h8) <| pc (h9) <| pc (h10) <| pc (k_palingref15_rising h12) <| pc (h13) <| pc (k_palingref15_In h15) <| pc (h16) <| pc (k_palingref15_ports_J2 h27) <| pc (k_palingref15_ports_L3 _ _ h36) <| pc (h38) <| pc (k_palingref15_Place h40) <| pc (h41) <| pn)
                      · obtain ⟨x42, h43, h⟩ := bind_out h
                        rcases ite_out h with ⟨h44, h⟩ | ⟨h44, h⟩
                        · obtain ⟨x45, h46, h⟩ := bind_out h
                          rcases ite_out h with ⟨h47, h⟩ | ⟨h47, h⟩
                          · injection h with h; subst h; exact runLp_sound mixedOrders (live := [2]) (ids := []) (π := [.dec true, .row (c36 x4), .callv (.v (.bool r6)), .dec false, .dec false, .dec false, .callv (.v (.bool r11)), .dec false, .callv (.v (.bool r14)), .dec false, .cut [1, 2, 3, 4] [0, 2] .nor [(1, .op 0 1 0 0), (2, .v (.bool false)), (3, .v (.int .i64 v2)), (4, .op 1 1 0 0)] [.box 31 (c31 a1) false, .box 36 (c36 x4) false], .sum [1, 2, 3, 4, 5] [0, 1] (.exit 2) [(1, .op 0 1 0 0), (2, .v (.bool false)), (3, .v (.int .i64 v2)), (4, .op 1 1 0 0)] [.box 31 (c31 a1) false, .box 36 (c36 x4) false], .dec false, .callv (.v (.bool r39)), .dec false, .row (c41 x42), .dec true, .row (c41 x45), .dec true]) (hx := by kernel_rfl) (hps := pc (h3) <| pc (ob36 h5) <| pc (k_palingref15_Place h7) <| pc (h8) <| pc (h9) <| pc (h10) <| pc (k_palingref15_rising h12) <| pc (h13) <| pc (k_palingref15_In h15) <| pc (h16) <| pc (k_palingref15_ports_J2 h27) <| pc (k_palingref15_ports_L3 _ _ h36) <| pc (h38) <| pc (k_palingref15_Place h40) <| pc (h41) <| pc (ob41 h43) <| pc (h44) <| pc (ob41 h46) <| pc (h47) <| pn)
                          · injection h with h; subst h; exact runLp_sound mixedOrders (live := [1, 2, 3]) (ids := [0]) (π := [.dec true, .row (c36 x4), .callv (.v (.bool r6)), .dec false, .dec false, .dec false, .callv (.v (.bool r11)), .dec false, .callv (.v (.bool r14)), .dec false, .cut [1, 2, 3, 4] [0, 2] .nor [(1, .op 0 1 0 0), (2, .v (.bool false)), (3, .v (.int .i64 v2)), (4, .op 1 1 0 0)] [.box 31 (c31 a1) false, .box 36 (c36 x4) false], .sum [1, 2, 3, 4, 5] [0, 1] (.exit 2) [(1, .op 0 1 0 0), (2, .v (.bool false)), (3, .v (.int .i64 v2)), (4, .op 1 1 0 0)] [.box 31 (c31 a1) false, .box 36 (c36 x4) false], .dec false, .callv (.v (.bool r39)), .dec false, .row (c41 x42), .dec true, .row (c41 x45), .dec false]) (hx := by kernel_rfl) (hps := pc (h3) <| pc (ob36 h5) <| pc (k_palingref15_Place h7) <| pc (h8) <| pc (h9) <| pc (h10) <| pc (k_palingref15_rising h12) <| pc (h13) <| pc (k_palingref15_In h15) <| pc (h16) <| pc (k_palingref15_ports_J2 h27) <| pc (k_palingref15_ports_L3 _ _ h36) <| pc (h38) <| pc (k_palingref15_Place h40) <| pc (h41) <| pc (ob41 h43) <| pc (h44) <| pc (ob41 h46) <| pc (h47) <| pn)
                        · injection h with h; subst h; exact runLp_sound mixedOrders (live := [1, 2, 3]) (ids := [0]) (π := [.dec true, .row (c36 x4), .callv (.v (.bool r6)), .dec false, .dec false, .dec false, .callv (.v (.bool r11)), .dec false, .callv (.v (.bool r14)), .dec false, .cut [1, 2, 3, 4] [0, 2] .nor [(1, .op 0 1 0 0), (2, .v (.bool false)), (3, .v (.int .i64 v2)), (4, .op 1 1 0 0)] [.box 31 (c31 a1) false, .box 36 (c36 x4) false], .sum [1, 2, 3, 4, 5] [0, 1] (.exit 2) [(1, .op 0 1 0 0), (2, .v (.bool false)), (3, .v (.int .i64 v2)), (4, .op 1 1 0 0)] [.box 31 (c31 a1) false, .box 36 (c36 x4) false], .dec false, .callv (.v (.bool r39)), .dec false, .row (c41 x42), .dec false]) (hx := by kernel_rfl) (hps := pc (h3) <| pc (ob36 h5) <| pc (k_palingref15_Place h7) <| pc (h8) <| pc (h9) <| pc (h10) <| pc (k_palingref15_rising h12) <| pc (h13) <| pc (k_palingref15_In h15) <| pc (h16) <| pc (k_palingref15_ports_J2 h27) <| pc (k_palingref15_ports_L3 _ _ h36) <| pc (h38) <| pc (k_palingref15_Place h40) <| pc (h41) <| pc (ob41 h43) <| pc (h44) <| pn)
    · injection h with h; subst h; exact runLp_sound mixedOrders (live := [2]) (ids := []) (π := [.dec false]) (hx := by kernel_rfl) (hps := pc (h3) <| pn)
  · rcases r with _ | _ <;> exact Ex.noConfusion

theorem k_palingref15_ports {a1 : Api_Net} {r : Bool} (h : palingref15_ports a1 = some r) :
    CallsOK Try.prog UU 70 [.agg (c31 a1)] [] (.v (.bool r)) [] := by
  unfold palingref15_ports at h
  obtain ⟨r49, h48, h⟩ := bind_out h
  rcases r49 with _ | _
  · injection h with h; subst h; exact runFn_sound mixedOrders Try.func70 rfl (keep := none) (π := [.sum [1, 2, 3] [0] .ret [(2, .v (.bool false))] []]) (hrun := by kernel_rfl) (hps := pc (k_palingref15_ports_L1 _ _ h48) <| pn)
  · injection h with h; subst h; exact runFn_sound mixedOrders Try.func70 rfl (keep := none) (π := [.sum [1, 2, 3] [0] (.exit 0) [(2, .v (.bool false))] []]) (hrun := by kernel_rfl) (hps := pc (k_palingref15_ports_L1 _ _ h48) <| pn)

theorem k_palingref15_links_L1 {a1 : Api_Net} : LoopOK Try.prog UU 0 70 (subC (codeOf Try.f71) [1, 0, 1, 0, 0]) (ρ := Unit ⊕ Unit) (palingref15_links_L1 a1)
    (fun v2 : Int => ([(1, .op 0 1 0 0), (2, .v (.bool false)), (3, .v (.int .i64 v2))] : Fr DD)) (fun v2 : Int => ([.box 31 (c31 a1) false] : Heap DD)) (fun r => match r with | Sum.inl _ => .ret | Sum.inr _ => .exit 0) (fun r => match r with | Sum.inl _ => [(2, .v (.bool false))] | Sum.inr _ => [(2, .v (.bool false))]) (fun r => match r with | Sum.inl _ => [] | Sum.inr _ => []) := by
  refine loop_sound3 (fun s q h => ?_) (fun r => ?_)
  · replace h : palingref15_links_L1 a1 s = some q := h; revert h; revert s; intro v2 h
    unfold palingref15_links_L1 at h
    rcases ite_out h with ⟨h3, h⟩ | ⟨h3, h⟩
    · obtain ⟨x4, h5, h⟩ := bind_out h
      obtain ⟨r6, h7, h⟩ := bind_out h
      rcases ite_out h with ⟨h8, h⟩ | ⟨h8, h⟩
      · injection h with h; subst h; exact runLp_sound mixedOrders (live := [2]) (ids := []) (π := [.dec true, .row (c41 x4), .callv (.v (.bool r6)), .dec true]) (hx := by kernel_rfl) (hps := pc (h3) <| pc (ob41 h5) <| pc (k_palingref15_Place h7) <| pc (h8) <| pn)
      · obtain ⟨r9, h10, h⟩ := bind_out h
        rcases ite_out h with ⟨h11, h⟩ | ⟨h11, h⟩
        · injection h with h; subst h; exact runLp_sound mixedOrders (live := [2]) (ids := []) (π := [.dec true, .row (c41 x4), .callv (.v (.bool r6)), .dec false, .callv (.v (.bool r9)), .dec true]) (hx := by kernel_rfl) (hps := pc (h3) <| pc (ob41 h5) <| pc (k_palingref15_Place h7) <| pc (h8) <| pc (k_palingref15_Place h10) <| pc (h11) <| pn)
        · obtain ⟨x12, h13, h⟩ := bind_out h
          obtain ⟨x14, h15, h⟩ := bind_out h
          rcases ite_out h with ⟨h16, h⟩ | ⟨h16, h⟩
          · injection h with h; subst h; exact runLp_sound mixedOrders (live := [2]) (ids := []) (π := [.dec true, .row (c41 x4), .callv (.v (.bool r6)), .dec false, .callv (.v (.bool r9)), .dec false, .row (c36 x12), .row (c36 x14), .dec true]) (hx := by kernel_rfl) (hps := pc (h3) <| pc (ob41 h5) <| pc (k_palingref15_Place h7) <| pc (h8) <| pc (k_palingref15_Place h10) <| pc (h11) <| pc (ob36 h13) <| pc (ob36 h15) <| pc (h16) <| pn)
          · obtain ⟨x17, h18, h⟩ := bind_out h
            rcases ite_out h with ⟨h19, h⟩ | ⟨h19, h⟩
            · injection h with h; subst h; exact runLp_sound mixedOrders (live := [2]) (ids := []) (π := [.dec true, .row (c41 x4), .callv (.v (.bool r6)), .dec false, .callv (.v (.bool r9)), .dec false, .row (c36 x12), .row (c36 x14), .dec false, .row (c36 x17), .dec true]) (hx := by kernel_rfl) (hps := pc (h3) <| pc (ob41 h5) <| pc (k_palingref15_Place h7) <| pc (h8) <| pc (k_palingref15_Place h10) <| pc (h11) <| pc (ob36 h13) <| pc (ob36 h15) <| pc (h16) <| pc (ob36 h18) <| pc (h19) <| pn)
            · obtain ⟨x20, h21, h⟩ := bind_out h
              rcases ite_out h with ⟨h22, h⟩ | ⟨h22, h⟩
              · injection h with h; subst h; exact runLp_sound mixedOrders (live := [2]) (ids := []) (π := [.dec true, .row (c41 x4), .callv (.v (.bool r6)), .dec false, .callv (.v (.bool r9)), .dec false, .row (c36 x12), .row (c36 x14), .dec false, .row (c36 x17), .dec false, .row (c36 x20), .dec true]) (hx := by kernel_rfl) (hps := pc (h3) <| pc (ob41 h5) <| pc (k_palingref15_Place h7) <| pc (h8) <| pc (k_palingref15_Place h10) <| pc (h11) <| pc (ob36 h13) <| pc (ob36 h15) <| pc (h16) <| pc (ob36 h18) <| pc (h19) <| pc (ob36 h21) <| pc (h22) <| pn)
              · injection h with h; subst h; exact runLp_sound mixedOrders (live := [1, 2, 3]) (ids := [0]) (π := [.dec true, .row (c41 x4), .callv (.v (.bool r6)), .dec false, .callv (.v (.bool r9)), .dec false, .row (c36 x12), .row (c36 x14), .dec false, .row (c36 x17), .dec false, .row (c36 x20), .dec false]) (hx := by kernel_rfl) (hps := pc (h3) <| pc (ob41 h5) <| pc (k_palingref15_Place h7) <| pc (h8) <| pc (k_palingref15_Place h10) <| pc (h11) <| pc (ob36 h13) <| pc (ob36 h15) <| pc (h16) <| pc (ob36 h18) <| pc (h19) <| pc (ob36 h21) <| pc (h22) <| pn)
    · injection h with h; subst h; exact runLp_sound mixedOrders (live := [2]) (ids := []) (π := [.dec false]) (hx := by kernel_rfl) (hps := pc (h3) <| pn)
  · rcases r with _ | _ <;> exact Ex.noConfusion

theorem k_palingref15_links {a1 : Api_Net} {r : Bool} (h : palingref15_links a1 = some r) :
    CallsOK Try.prog UU 71 [.agg (c31 a1)] [] (.v (.bool r)) [] := by
  unfold palingref15_links at h
  obtain ⟨r24, h23, h⟩ := bind_out h
  rcases r24 with _ | _
  · injection h with h; subst h; exact runFn_sound mixedOrders Try.func71 rfl (keep := none) (π := [.sum [1, 2, 3] [0] .ret [(2, .v (.bool false))] []]) (hrun := by kernel_rfl) (hps := pc (k_palingref15_links_L1 _ _ h23) <| pn)
  · injection h with h; subst h; exact runFn_sound mixedOrders Try.func71 rfl (keep := none) (π := [.sum [1, 2, 3] [0] (.exit 0) [(2, .v (.bool false))] []]) (hrun := by kernel_rfl) (hps := pc (k_palingref15_links_L1 _ _ h23) <| pn)

theorem k_palingref15_Member {a1 : Api_Port} {a2 : Int} {r : Bool} (h : palingref15_Member a1 a2 = some r) :
    CallsOK Try.prog UU 140 [.agg (c36 a1), .v (.int .i64 a2)] [] (.v (.bool r)) [] := by
  unfold palingref15_Member at h
  rcases ite_out h with ⟨h3, h⟩ | ⟨h3, h⟩
  · rcases ite_out h with ⟨h4, h⟩ | ⟨h4, h⟩
    · injection h with h; subst h; exact runFn_sound mixedOrders Try.func140 rfl (keep := none) (π := [.dec true, .dec true]) (hrun := by kernel_rfl) (hps := pc (h3) <| pc (h4) <| pn)
    · obtain ⟨r5, h6, h⟩ := bind_out h
      injection h with h; subst h; exact runFn_sound mixedOrders Try.func140 rfl (keep := none) (π := [.dec true, .dec false, .callv (.v (.bool r5))]) (hrun := by kernel_rfl) (hps := pc (h3) <| pc (h4) <| pc (k_palingref15_In h6) <| pn)
  · injection h with h; subst h; exact runFn_sound mixedOrders Try.func140 rfl (keep := none) (π := [.dec false]) (hrun := by kernel_rfl) (hps := pc (h3) <| pn)

theorem k_palingref15_rest_L1 {a1 : Api_Net} : LoopOK Try.prog UU 0 192 (subC (codeOf Try.f72) [1, 0, 1, 0, 0]) (ρ := Unit ⊕ Unit) (palingref15_rest_L1 a1)
    (fun v2 : Int => ([(1, .op 0 1 0 0), (2, .v (.bool false)), (3, .v (.int .i64 v2))] : Fr DD)) (fun v2 : Int => ([.box 31 (c31 a1) false] : Heap DD)) (fun r => match r with | Sum.inl _ => .ret | Sum.inr _ => .exit 0) (fun r => match r with | Sum.inl _ => [(2, .v (.bool false))] | Sum.inr _ => [(1, .op 0 1 0 0), (2, .v (.bool false))]) (fun r => match r with | Sum.inl _ => [] | Sum.inr _ => [.box 31 (c31 a1) false]) := by
  refine loop_sound3 (fun s q h => ?_) (fun r => ?_)
  · replace h : palingref15_rest_L1 a1 s = some q := h; revert h; revert s; intro v2 h
    unfold palingref15_rest_L1 at h
    rcases ite_out h with ⟨h3, h⟩ | ⟨h3, h⟩
    · obtain ⟨x4, h5, h⟩ := bind_out h
      obtain ⟨r6, h7, h⟩ := bind_out h
      rcases ite_out h with ⟨h8, h⟩ | ⟨h8, h⟩
      · injection h with h; subst h; exact runLp_sound mixedOrders (live := [2]) (ids := []) (π := [.dec true, .row (c102 x4), .callv (.v (.bool r6)), .dec true]) (hx := by kernel_rfl) (hps := pc (h3) <| pc (ob102 h5) <| pc (k_palingref15_Place h7) <| pc (h8) <| pn)
      · obtain ⟨r9, h10, h⟩ := bind_out h
        rcases ite_out h with ⟨h11, h⟩ | ⟨h11, h⟩
        · injection h with h; subst h; exact runLp_sound mixedOrders (live := [2]) (ids := []) (π := [.dec true, .row (c102 x4), .callv (.v (.bool r6)), .dec false, .callv (.v (.bool r9)), .dec true]) (hx := by kernel_rfl) (hps := pc (h3) <| pc (ob102 h5) <| pc (k_palingref15_Place h7) <| pc (h8) <| pc (k_palingref15_Place h10) <| pc (h11) <| pn)
        · obtain ⟨x12, h13, h⟩ := bind_out h
          obtain ⟨x14, h15, h⟩ := bind_out h
          rcases ite_out h with ⟨h16, h⟩ | ⟨h16, h⟩
          · injection h with h; subst h; exact runLp_sound mixedOrders (live := [2]) (ids := []) (π := [.dec true, .row (c102 x4), .callv (.v (.bool r6)), .dec false, .callv (.v (.bool r9)), .dec false, .row (c56 x12), .row (c36 x14), .dec true]) (hx := by kernel_rfl) (hps := pc (h3) <| pc (ob102 h5) <| pc (k_palingref15_Place h7) <| pc (h8) <| pc (k_palingref15_Place h10) <| pc (h11) <| pc (ob56 h13) <| pc (ob36 h15) <| pc (h16) <| pn)
          · obtain ⟨x17, h18, h⟩ := bind_out h
            obtain ⟨r19, h20, h⟩ := bind_out h
            rcases ite_out h with ⟨h21, h⟩ | ⟨h21, h⟩
            · injection h with h; subst h; exact runLp_sound mixedOrders (live := [2]) (ids := []) (π := [.dec true, .row (c102 x4), .callv (.v (.bool r6)), .dec false, .callv (.v (.bool r9)), .dec false, .row (c56 x12), .row (c36 x14), .dec false, .row (c36 x17), .callv (.v (.bool r19)), .dec true]) (hx := by kernel_rfl) (hps := pc (h3) <| pc (ob102 h5) <| pc (k_palingref15_Place h7) <| pc (h8) <| pc (k_palingref15_Place h10) <| pc (h11) <| pc (ob56 h13) <| pc (ob36 h15) <| pc (h16) <| pc (ob36 h18) <| pc (k_palingref15_Member h20) <| pc (h21) <| pn)
            · injection h with h; subst h; exact runLp_sound mixedOrders (live := [1, 2, 3]) (ids := [0]) (π := [.dec true, .row (c102 x4), .callv (.v (.bool r6)), .dec false, .callv (.v (.bool r9)), .dec false, .row (c56 x12), .row (c36 x14), .dec false, .row (c36 x17), .callv (.v (.bool r19)), .dec false]) (hx := by kernel_rfl) (hps := pc (h3) <| pc (ob102 h5) <| pc (k_palingref15_Place h7) <| pc (h8) <| pc (k_palingref15_Place h10) <| pc (h11) <| pc (ob56 h13) <| pc (ob36 h15) <| pc (h16) <| pc (ob36 h18) <| pc (k_palingref15_Member h20) <| pc (h21) <| pn)
    · injection h with h; subst h; exact runLp_sound mixedOrders (live := [1, 2]) (ids := [0]) (π := [.dec false]) (hx := by kernel_rfl) (hps := pc (h3) <| pn)
  · rcases r with _ | _ <;> exact Ex.noConfusion

theorem k_palingref15_rest_L2 {a1 : Api_Net} : LoopOK Try.prog UU 0 192 (subC (codeOf Try.f72) [1, 1, 0, 1, 0, 0]) (ρ := Unit ⊕ Unit) (palingref15_rest_L2 a1)
    (fun v24 : Int => ([(1, .op 0 1 0 0), (2, .v (.bool false)), (6, .v (.int .i64 v24))] : Fr DD)) (fun v24 : Int => ([.box 31 (c31 a1) false] : Heap DD)) (fun r => match r with | Sum.inl _ => .ret | Sum.inr _ => .exit 2) (fun r => match r with | Sum.inl _ => [(2, .v (.bool false))] | Sum.inr _ => [(1, .op 0 1 0 0), (2, .v (.bool false))]) (fun r => match r with | Sum.inl _ => [] | Sum.inr _ => [.box 31 (c31 a1) false]) := by
  refine loop_sound3 (fun s q h => ?_) (fun r => ?_)
  · replace h : palingref15_rest_L2 a1 s = some q := h; revert h; revert s; intro v24 h
    unfold palingref15_rest_L2 at h
    rcases ite_out h with ⟨h25, h⟩ | ⟨h25, h⟩
    · obtain ⟨x26, h27, h⟩ := bind_out h
      obtain ⟨r28, h29, h⟩ := bind_out h
      rcases ite_out h with ⟨h30, h⟩ | ⟨h30, h⟩
      · injection h with h; subst h; exact runLp_sound mixedOrders (live := [2]) (ids := []) (π := [.dec true, .row (c91 x26), .callv (.v (.bool r28)), .dec true]) (hx := by kernel_rfl) (hps := pc (h25) <| pc (ob91 h27) <| pc (k_palingref15_Place h29) <| pc (h30) <| pn)
      · obtain ⟨x31, h32, h⟩ := bind_out h
        rcases ite_out h with ⟨h33, h⟩ | ⟨h33, h⟩
        · injection h with h; subst h; exact runLp_sound mixedOrders (live := [2]) (ids := []) (π := [.dec true, .row (c91 x26), .callv (.v (.bool r28)), .dec false, .row (c91 x31), .dec true]) (hx := by kernel_rfl) (hps := pc (h25) <| pc (ob91 h27) <| pc (k_palingref15_Place h29) <| pc (h30) <| pc (ob91 h32) <| pc (h33) <| pn)
        · injection h with h; subst h; exact runLp_sound mixedOrders (live := [1, 2, 6]) (ids := [0]) (π := [.dec true, .row (c91 x26), .callv (.v (.bool r28)), .dec false, .row (c91 x31), .dec false]) (hx := by kernel_rfl) (hps := pc (h25) <| pc (ob91 h27) <| pc (k_palingref15_Place h29) <| pc (h30) <| pc (ob91 h32) <| pc (h33) <| pn)
    · injection h with h; subst h; exact runLp_sound mixedOrders (live := [1, 2]) (ids := [0]) (π := [.dec false]) (hx := by kernel_rfl) (hps := pc (h25) <| pn)
  · rcases r with _ | _ <;> exact Ex.noConfusion

theorem k_palingref15_rest_L3 {a1 : Api_Net} : LoopOK Try.prog UU 0 192 (subC (codeOf Try.f72) [1, 1, 1, 0, 1, 0, 0]) (ρ := Unit ⊕ Unit) (palingref15_rest_L3 a1)
    (fun v36 : Int => ([(1, .op 0 1 0 0), (2, .v (.bool false)), (7, .v (.int .i64 v36))] : Fr DD)) (fun v36 : Int => ([.box 31 (c31 a1) false] : Heap DD)) (fun r => match r with | Sum.inl _ => .ret | Sum.inr _ => .exit 4) (fun r => match r with | Sum.inl _ => [(2, .v (.bool false))] | Sum.inr _ => [(1, .op 0 1 0 0), (2, .v (.bool false))]) (fun r => match r with | Sum.inl _ => [] | Sum.inr _ => [.box 31 (c31 a1) false]) := by
  refine loop_sound3 (fun s q h => ?_) (fun r => ?_)
  · replace h : palingref15_rest_L3 a1 s = some q := h; revert h; revert s; intro v36 h
    unfold palingref15_rest_L3 at h
    rcases ite_out h with ⟨h37, h⟩ | ⟨h37, h⟩
    · obtain ⟨x38, h39, h⟩ := bind_out h
      obtain ⟨r40, h41, h⟩ := bind_out h
      rcases ite_out h with ⟨h42, h⟩ | ⟨h42, h⟩
      · injection h with h; subst h; exact runLp_sound mixedOrders (live := [2]) (ids := []) (π := [.dec true, .row (c58 x38), .callv (.v (.bool r40)), .dec true]) (hx := by kernel_rfl) (hps := pc (h37) <| pc (ob58 h39) <| pc (k_palingref15_Place h41) <| pc (h42) <| pn)
      · obtain ⟨r43, h44, h⟩ := bind_out h
        rcases ite_out h with ⟨h45, h⟩ | ⟨h45, h⟩
        · injection h with h; subst h; exact runLp_sound mixedOrders (live := [2]) (ids := []) (π := [.dec true, .row (c58 x38), .callv (.v (.bool r40)), .dec false, .callv (.v (.bool r43)), .dec true]) (hx := by kernel_rfl) (hps := pc (h37) <| pc (ob58 h39) <| pc (k_palingref15_Place h41) <| pc (h42) <| pc (k_palingref15_rising h44) <| pc (h45) <| pn)
        · obtain ⟨r46, h47, h⟩ := bind_out h
          rcases ite_out h with ⟨h48, h⟩ | ⟨h48, h⟩
          · injection h with h; subst h; exact runLp_sound mixedOrders (live := [2]) (ids := []) (π := [.dec true, .row (c58 x38), .callv (.v (.bool r40)), .dec false, .callv (.v (.bool r43)), .dec false, .callv (.v (.bool r46)), .dec true]) (hx := by kernel_rfl) (hps := pc (h37) <| pc (ob58 h39) <| pc (k_palingref15_Place h41) <| pc (h42) <| pc (k_palingref15_rising h44) <| pc (h45) <| pc (k_palingref15_rising h47) <| pc (h48) <| pn)
          · injection h with h; subst h; exact runLp_sound mixedOrders (live := [1, 2, 7]) (ids := [0]) (π := [.dec true, .row (c58 x38), .callv (.v (.bool r40)), .dec false, .callv (.v (.bool r43)), .dec false, .callv (.v (.bool r46)), .dec false]) (hx := by kernel_rfl) (hps := pc (h37) <| pc (ob58 h39) <| pc (k_palingref15_Place h41) <| pc (h42) <| pc (k_palingref15_rising h44) <| pc (h45) <| pc (k_palingref15_rising h47) <| pc (h48) <| pn)
    · injection h with h; subst h; exact runLp_sound mixedOrders (live := [1, 2]) (ids := [0]) (π := [.dec false]) (hx := by kernel_rfl) (hps := pc (h37) <| pn)
  · rcases r with _ | _ <;> exact Ex.noConfusion

theorem k_palingref15_rest_L4 {a1 : Api_Net} : LoopOK Try.prog UU 0 192 (subC (codeOf Try.f72) [1, 1, 1, 1, 0, 1, 0, 0]) (ρ := Unit ⊕ Unit) (palingref15_rest_L4 a1)
    (fun v51 : Int => ([(1, .op 0 1 0 0), (2, .v (.bool false)), (9, .v (.int .i64 v51))] : Fr DD)) (fun v51 : Int => ([.box 31 (c31 a1) false] : Heap DD)) (fun r => match r with | Sum.inl _ => .ret | Sum.inr _ => .exit 6) (fun r => match r with | Sum.inl _ => [(2, .v (.bool false))] | Sum.inr _ => [(2, .v (.bool false))]) (fun r => match r with | Sum.inl _ => [] | Sum.inr _ => []) := by
  refine loop_sound3 (fun s q h => ?_) (fun r => ?_)
  · replace h : palingref15_rest_L4 a1 s = some q := h; revert h; revert s; intro v51 h
    unfold palingref15_rest_L4 at h
    rcases ite_out h with ⟨h52, h⟩ | ⟨h52, h⟩
    · obtain ⟨x53, h54, h⟩ := bind_out h
      obtain ⟨r55, h56, h⟩ := bind_out h
      rcases ite_out h with ⟨h57, h⟩ | ⟨h57, h⟩
      · injection h with h; subst h; exact runLp_sound mixedOrders (live := [2]) (ids := []) (π := [.dec true, .row (c74 x53), .callv (.v (.bool r55)), .dec true]) (hx := by kernel_rfl) (hps := pc (h52) <| pc (ob74 h54) <| pc (k_palingref15_Place h56) <| pc (h57) <| pn)
      · obtain ⟨r58, h59, h⟩ := bind_out h
        rcases ite_out h with ⟨h60, h⟩ | ⟨h60, h⟩
        · injection h with h; subst h; exact runLp_sound mixedOrders (live := [2]) (ids := []) (π := [.dec true, .row (c74 x53), .callv (.v (.bool r55)), .dec false, .callv (.v (.bool r58)), .dec true]) (hx := by kernel_rfl) (hps := pc (h52) <| pc (ob74 h54) <| pc (k_palingref15_Place h56) <| pc (h57) <| pc (k_palingref15_Place h59) <| pc (h60) <| pn)
        · rcases ite_out h with ⟨h61, h⟩ | ⟨h61, h⟩
          · injection h with h; subst h; exact runLp_sound mixedOrders (live := [2]) (ids := []) (π := [.dec true, .row (c74 x53), .callv (.v (.bool r55)), .dec false, .callv (.v (.bool r58)), .dec false, .dec true]) (hx := by kernel_rfl) (hps := pc (h52) <| pc (ob74 h54) <| pc (k_palingref15_Place h56) <| pc (h57) <| pc (k_palingref15_Place h59) <| pc (h60) <| pc (h61) <| pn)
          · rcases ite_out h with ⟨h62, h⟩ | ⟨h62, h⟩
            · injection h with h; subst h; exact runLp_sound mixedOrders (live := [2]) (ids := []) (π := [.dec true, .row (c74 x53), .callv (.v (.bool r55)), .dec false, .callv (.v (.bool r58)), .dec false, .dec false, .dec true]) (hx := by kernel_rfl) (hps := pc (h52) <| pc (ob74 h54) <| pc (k_palingref15_Place h56) <| pc (h57) <| pc (k_palingref15_Place h59) <| pc (h60) <| pc (h61) <| pc (h62) <| pn)
            · obtain ⟨x63, h64, h⟩ := bind_out h
              obtain ⟨x65, h66, h⟩ := bind_out h
              rcases ite_out h with ⟨h67, h⟩ | ⟨h67, h⟩
              · injection h with h; subst h; exact runLp_sound mixedOrders (live := [2]) (ids := []) (π := [.dec true, .row (c74 x53), .callv (.v (.bool r55)), .dec false, .callv (.v (.bool r58)), .dec false, .dec false, .dec false, .row (c56 x63), .row (c58 x65), .dec true]) (hx := by kernel_rfl) (hps := pc (h52) <| pc (ob74 h54) <| pc (k_palingref15_Place h56) <| pc (h57) <| pc (k_palingref15_Place h59) <| pc (h60) <| pc (h61) <| pc (h62) <| pc (ob56 h64) <| pc (ob58 h66) <| pc (h67) <| pn)
              · obtain ⟨x68, h69, h⟩ := bind_out h
                rcases ite_out h with ⟨h70, h⟩ | ⟨h70, h⟩
                · injection h with h; subst h; exact runLp_sound mixedOrders (live := [2]) (ids := []) (π := [.dec true, .row (c74 x53), .callv (.v (.bool r55)), .dec false, .callv (.v (.bool r58)), .dec false, .dec false, .dec false, .row (c56 x63), .row (c58 x65), .dec false, .row (c56 x68), .dec true]) (hx := by kernel_rfl) (hps := pc (h52) <| pc (ob74 h54) <| pc (k_palingref15_Place h56) <| pc (h57) <| pc (k_palingref15_Place h59) <| pc (h60) <| pc (h61) <| pc (h62) <| pc (ob56 h64) <| pc (ob58 h66) <| pc (h67) <| pc (ob56 h69) <| pc (h70) <| pn)
                · injection h with h; subst h; exact runLp_sound mixedOrders (live := [1, 2, 9]) (ids := [0]) (π := [.dec true, .row (c74 x53), .callv (.v (.bool r55)), .dec false, .callv (.v (.bool r58)), .dec false, .dec false, .dec false, .row (c56 x63), .row (c58 x65), .dec false, .row (c56 x68), .dec false]) (hx := by kernel_rfl) (hps := pc (h52) <| pc (ob74 h54) <| pc (k_palingref15_Place h56) <| pc (h57) <| pc (k_palingref15_Place h59) <| pc (h60) <| pc (h61) <| pc (h62) <| pc (ob56 h64) <| pc (ob58 h66) <| pc (h67) <| pc (ob56 h69) <| pc (h70) <| pn)
    · injection h with h; subst h; exact runLp_sound mixedOrders (live := [2]) (ids := []) (π := [.dec false]) (hx := by kernel_rfl) (hps := pc (h52) <| pn)
  · rcases r with _ | _ <;> exact Ex.noConfusion

theorem k_palingref15_rest {a1 : Api_Net} {r : Bool} (h : palingref15_rest a1 = some r) :
    CallsOK Try.prog UU 72 [.agg (c31 a1)] [] (.v (.bool r)) [] := by
  unfold palingref15_rest at h
  obtain ⟨r23, h22, h⟩ := bind_out h
  rcases r23 with _ | _
  · injection h with h; subst h; exact runFn_sound mixedOrders Try.func72 rfl (keep := none) (π := [.sum [1, 2, 3] [0] .ret [(2, .v (.bool false))] []]) (hrun := by kernel_rfl) (hps := pc (k_palingref15_rest_L1 _ _ h22) <| pn)
  · obtain ⟨r35, h34, h⟩ := bind_out h
    rcases r35 with _ | _
    · injection h with h; subst h; exact runFn_sound mixedOrders Try.func72 rfl (keep := none) (π := [.sum [1, 2, 3] [0] (.exit 0) [(1, .op 0 1 0 0), (2, .v (.bool false))] [.box 31 (c31 a1) false], .sum [1, 2, 6] [0] .ret [(2, .v (.bool false))] []]) (hrun := by kernel_rfl) (hps := pc (k_palingref15_rest_L1 _ _ h22) <| pc (k_palingref15_rest_L2 _ _ h34) <| pn)
    · obtain ⟨r50, h49, h⟩ := bind_out h
      rcases r50 with _ | _
      · injection h with h; subst h; exact runFn_sound mixedOrders Try.func72 rfl (keep := none) (π := [.sum [1, 2, 3] [0] (.exit 0) [(1, .op 0 1 0 0), (2, .v (.bool false))] [.box 31 (c31 a1) false], .sum [1, 2, 6] [0] (.exit 2) [(1, .op 0 1 0 0), (2, .v (.bool false))] [.box 31 (c31 a1) false], .sum [1, 2, 7] [0] .ret [(2, .v (.bool false))] []]) (hrun := by kernel_rfl) (hps := pc (k_palingref15_rest_L1 _ _ h22) <| pc (k_palingref15_rest_L2 _ _ h34) <| pc (k_palingref15_rest_L3 _ _ h49) <| pn)
      · obtain ⟨r72, h71, h⟩ := bind_out h
        rcases r72 with _ | _
        · injection h with h; subst h; exact runFn_sound mixedOrders Try.func72 rfl (keep := none) (π := [.sum [1, 2, 3] [0] (.exit 0) [(1, .op 0 1 0 0), (2, .v (.bool false))] [.box 31 (c31 a1) false], .sum [1, 2, 6] [0] (.exit 2) [(1, .op 0 1 0 0), (2, .v (.bool false))] [.box 31 (c31 a1) false], .sum [1, 2, 7] [0] (.exit 4) [(1, .op 0 1 0 0), (2, .v (.bool false))] [.box 31 (c31 a1) false], .sum [1, 2, 9] [0] .ret [(2, .v (.bool false))] []]) (hrun := by kernel_rfl) (hps := pc (k_palingref15_rest_L1 _ _ h22) <| pc (k_palingref15_rest_L2 _ _ h34) <| pc (k_palingref15_rest_L3 _ _ h49) <| pc (k_palingref15_rest_L4 _ _ h71) <| pn)
        · injection h with h; subst h; exact runFn_sound mixedOrders Try.func72 rfl (keep := none) (π := [.sum [1, 2, 3] [0] (.exit 0) [(1, .op 0 1 0 0), (2, .v (.bool false))] [.box 31 (c31 a1) false], .sum [1, 2, 6] [0] (.exit 2) [(1, .op 0 1 0 0), (2, .v (.bool false))] [.box 31 (c31 a1) false], .sum [1, 2, 7] [0] (.exit 4) [(1, .op 0 1 0 0), (2, .v (.bool false))] [.box 31 (c31 a1) false], .sum [1, 2, 9] [0] (.exit 6) [(2, .v (.bool false))] []]) (hrun := by kernel_rfl) (hps := pc (k_palingref15_rest_L1 _ _ h22) <| pc (k_palingref15_rest_L2 _ _ h34) <| pc (k_palingref15_rest_L3 _ _ h49) <| pc (k_palingref15_rest_L4 _ _ h71) <| pn)

theorem k_palingref15_Right {a1 : Api_Net} {r : Bool} (h : palingref15_Right a1 = some r) :
    CallsOK Try.prog UU 23 [.agg (c31 a1)] [] (.v (.bool r)) [] := by
  unfold palingref15_Right at h
  rcases ite_out h with ⟨h2, h⟩ | ⟨h2, h⟩
  · injection h with h; subst h; exact runFn_sound mixedOrders Try.func23 rfl (keep := none) (π := [.dec true]) (hrun := by kernel_rfl) (hps := pc (h2) <| pn)
  · rcases ite_out h with ⟨h3, h⟩ | ⟨h3, h⟩
    · injection h with h; subst h; exact runFn_sound mixedOrders Try.func23 rfl (keep := none) (π := [.dec false, .dec true]) (hrun := by kernel_rfl) (hps := pc (h2) <| pc (h3) <| pn)
    · rcases ite_out h with ⟨h4, h⟩ | ⟨h4, h⟩
      · injection h with h; subst h; exact runFn_sound mixedOrders Try.func23 rfl (keep := none) (π := [.dec false, .dec false, .dec true]) (hrun := by kernel_rfl) (hps := pc (h2) <| pc (h3) <| pc (h4) <| pn)
      · rcases ite_out h with ⟨h5, h⟩ | ⟨h5, h⟩
        · injection h with h; subst h; exact runFn_sound mixedOrders Try.func23 rfl (keep := none) (π := [.dec false, .dec false, .dec false, .dec true]) (hrun := by kernel_rfl) (hps := pc (h2) <| pc (h3) <| pc (h4) <| pc (h5) <| pn)
        · rcases ite_out h with ⟨h6, h⟩ | ⟨h6, h⟩
          · injection h with h; subst h; exact runFn_sound mixedOrders Try.func23 rfl (keep := none) (π := [.dec false, .dec false, .dec false, .dec false, .dec true]) (hrun := by kernel_rfl) (hps := pc (h2) <| pc (h3) <| pc (h4) <| pc (h5) <| pc (h6) <| pn)
          · rcases ite_out h with ⟨h7, h⟩ | ⟨h7, h⟩
            · injection h with h; subst h; exact runFn_sound mixedOrders Try.func23 rfl (keep := none) (π := [.dec false, .dec false, .dec false, .dec false, .dec false, .dec true]) (hrun := by kernel_rfl) (hps := pc (h2) <| pc (h3) <| pc (h4) <| pc (h5) <| pc (h6) <| pc (h7) <| pn)
            · rcases ite_out h with ⟨h8, h⟩ | ⟨h8, h⟩
              · injection h with h; subst h; exact runFn_sound mixedOrders Try.func23 rfl (keep := none) (π := [.dec false, .dec false, .dec false, .dec false, .dec false, .dec false, .dec true]) (hrun := by kernel_rfl) (hps := pc (h2) <| pc (h3) <| pc (h4) <| pc (h5) <| pc (h6) <| pc (h7) <| pc (h8) <| pn)
              · rcases ite_out h with ⟨h9, h⟩ | ⟨h9, h⟩
                · injection h with h; subst h; exact runFn_sound mixedOrders Try.func23 rfl (keep := none) (π := [.dec false, .dec false, .dec false, .dec false, .dec false, .dec false, .dec false, .dec true]) (hrun := by kernel_rfl) (hps := pc (h2) <| pc (h3) <| pc (h4) <| pc (h5) <| pc (h6) <| pc (h7) <| pc (h8) <| pc (h9) <| pn)
                · obtain ⟨r10, h11, h⟩ := bind_out h
                  rcases ite_out h with ⟨h12, h⟩ | ⟨h12, h⟩
                  · obtain ⟨r13, h14, h⟩ := bind_out h
                    rcases ite_out h with ⟨h15, h⟩ | ⟨h15, h⟩
                    · obtain ⟨r16, h17, h⟩ := bind_out h
                      rcases ite_out h with ⟨h18, h⟩ | ⟨h18, h⟩
                      · obtain ⟨r19, h20, h⟩ := bind_out h
                        injection h with h; subst h; exact runFn_sound mixedOrders Try.func23 rfl (keep := none) (π := [.dec false, .dec false, .dec false, .dec false, .dec false, .dec false, .dec false, .dec false, .callv (.v (.bool r10)), .dec true, .callv (.v (.bool r13)), .dec true, .callv (.v (.bool r16)), .dec true, .callv (.v (.bool r19))]) (hrun := by kernel_rfl) (hps := pc (h2) <| pc (h3) <| pc (h4) <| pc (h5) <| pc (h6) <| pc (h7) <| pc (h8) <| pc (h9) <| pc (k_palingref15_domains h11) <| pc (h12) <| pc (k_palingref15_ports h14) <| pc (h15) <| pc (k_palingref15_links h17) <| pc (h18) <| pc (k_palingref15_rest h20) <| pn)
                      · injection h with h; subst h; exact runFn_sound mixedOrders Try.func23 rfl (keep := none) (π := [.dec false, .dec false, .dec false, .dec false, .dec false, .dec false, .dec false, .dec false, .callv (.v (.bool r10)), .dec true, .callv (.v (.bool r13)), .dec true, .callv (.v (.bool r16)), .dec false]) (hrun := by kernel_rfl) (hps := pc (h2) <| pc (h3) <| pc (h4) <| pc (h5) <| pc (h6) <| pc (h7) <| pc (h8) <| pc (h9) <| pc (k_palingref15_domains h11) <| pc (h12) <| pc (k_palingref15_ports h14) <| pc (h15) <| pc (k_palingref15_links h17) <| pc (h18) <| pn)
                    · injection h with h; subst h; exact runFn_sound mixedOrders Try.func23 rfl (keep := none) (π := [.dec false, .dec false, .dec false, .dec false, .dec false, .dec false, .dec false, .dec false, .callv (.v (.bool r10)), .dec true, .callv (.v (.bool r13)), .dec false]) (hrun := by kernel_rfl) (hps := pc (h2) <| pc (h3) <| pc (h4) <| pc (h5) <| pc (h6) <| pc (h7) <| pc (h8) <| pc (h9) <| pc (k_palingref15_domains h11) <| pc (h12) <| pc (k_palingref15_ports h14) <| pc (h15) <| pn)
                  · injection h with h; subst h; exact runFn_sound mixedOrders Try.func23 rfl (keep := none) (π := [.dec false, .dec false, .dec false, .dec false, .dec false, .dec false, .dec false, .dec false, .callv (.v (.bool r10)), .dec false]) (hrun := by kernel_rfl) (hps := pc (h2) <| pc (h3) <| pc (h4) <| pc (h5) <| pc (h6) <| pc (h7) <| pc (h8) <| pc (h9) <| pc (k_palingref15_domains h11) <| pc (h12) <| pn)

theorem k_palingref17_Other_L1 {a1 : Api_Net} {a2 : Int} : LoopOK Try.prog UU 0 41 (subC (codeOf Try.f26) [1, 0, 1, 0, 0]) (ρ := Int ⊕ Unit) (palingref17_Other_L1 a1 a2)
    (fun v3 : Int => ([(1, .v (.int .i64 a2)), (2, .op 0 1 0 0), (4, .v (.int .i64 0)), (5, .v (.int .i64 v3))] : Fr DD)) (fun v3 : Int => ([.box 31 (c31 a1) false] : Heap DD)) (fun r => match r with | Sum.inl v16 => .ret | Sum.inr _ => .exit 0) (fun r => match r with | Sum.inl v16 => [(4, .v (.int .i64 v16))] | Sum.inr _ => [(4, .v (.int .i64 0))]) (fun r => match r with | Sum.inl v16 => [] | Sum.inr _ => []) := by
  refine loop_sound3 (fun s q h => ?_) (fun r => ?_)
  · replace h : palingref17_Other_L1 a1 a2 s = some q := h; revert h; revert s; intro v3 h
    unfold palingref17_Other_L1 at h
    rcases ite_out h with ⟨h4, h⟩ | ⟨h4, h⟩
    · obtain ⟨x5, h6, h⟩ := bind_out h
      rcases ite_out h with ⟨h7, h⟩ | ⟨h7, h⟩
      · obtain ⟨x8, h9, h⟩ := bind_out h
        injection h with h; subst h; exact runLp_sound mixedOrders (live := [4]) (ids := []) (π := [.dec true, .row (c41 x5), .dec true, .row (c41 x8)]) (hx := by kernel_rfl) (hps := pc (h4) <| pc (ob41 h6) <| pc (h7) <| pc (ob41 h9) <| pn)
      · obtain ⟨x10, h11, h⟩ := bind_out h
        rcases ite_out h with ⟨h12, h⟩ | ⟨h12, h⟩
        · obtain ⟨x13, h14, h⟩ := bind_out h
          injection h with h; subst h; exact runLp_sound mixedOrders (live := [4]) (ids := []) (π := [.dec true, .row (c41 x5), .dec false, .row (c41 x10), .dec true, .row (c41 x13)]) (hx := by kernel_rfl) (hps := pc (h4) <| pc (ob41 h6) <| pc (h7) <| pc (ob41 h11) <| pc (h12) <| pc (ob41 h14) <| pn)
        · injection h with h; subst h; exact runLp_sound mixedOrders (live := [1, 2, 4, 5]) (ids := [0]) (π := [.dec true, .row (c41 x5), .dec false, .row (c41 x10), .dec false]) (hx := by kernel_rfl) (hps := pc (h4) <| pc (ob41 h6) <| pc (h7) <| pc (ob41 h11) <| pc (h12) <| pn)
    · injection h with h; subst h; exact runLp_sound mixedOrders (live := [4]) (ids := []) (π := [.dec false]) (hx := by kernel_rfl) (hps := pc (h4) <| pn)
  · rcases r with _ | _ <;> exact Ex.noConfusion

theorem k_palingref17_Other {a1 : Api_Net} {a2 : Int} {r : Int} (h : palingref17_Other a1 a2 = some r) :
    CallsOK Try.prog UU 26 [.agg (c31 a1), .v (.int .i64 a2)] [] (.v (.int .i64 r)) [] := by
  unfold palingref17_Other at h
  obtain ⟨r18, h17, h⟩ := bind_out h
  rcases r18 with v16 | _
  · injection h with h; subst h; exact runFn_sound mixedOrders Try.func26 rfl (keep := none) (π := [.sum [1, 2, 4, 5] [0] .ret [(4, .v (.int .i64 v16))] []]) (hrun := by kernel_rfl) (hps := pc (k_palingref17_Other_L1 _ _ h17) <| pn)
  · injection h with h; subst h; exact runFn_sound mixedOrders Try.func26 rfl (keep := none) (π := [.sum [1, 2, 4, 5] [0] (.exit 0) [(4, .v (.int .i64 0))] []]) (hrun := by kernel_rfl) (hps := pc (k_palingref17_Other_L1 _ _ h17) <| pn)

theorem k_palingref17_Cross_J1 {a3 : Int} {r4 : Int} {x8 : Api_Port} {x10 : Api_Port} {r : Unit ⊕ Unit} (h : palingref17_Cross_J1 a3 r4 x8 x10 = some r) :
    ExecOK Try.prog UU 0 55 (subC (codeOf Try.f24) [1, 1, 1, 1, 0]) [(2, .v (.int .i64 a3)), (6, .v (.int .i64 0)), (7, .v (.int .i64 0)), (8, .v (.bool false)), (9, .v (.int .i64 r4)), (10, .op 0 1 0 0), (11, .op 1 1 0 0)] [.box 36 (c36 x8) false, .box 36 (c36 x10) false] ((fun r => match r with | Sum.inl _ => .ret | Sum.inr _ => .nor) r) ((fun r => match r with | Sum.inl _ => [(6, .v (.int .i64 r4)), (7, .v (.int .i64 x10.native)), (8, .v (.bool true))] | Sum.inr _ => [(2, .v (.int .i64 a3)), (6, .v (.int .i64 0)), (7, .v (.int .i64 0)), (8, .v (.bool false)), (9, .v (.int .i64 r4)), (10, .op 0 1 0 0), (11, .op 1 1 0 0)]) r) ((fun r => match r with | Sum.inl _ => [] | Sum.inr _ => [.box 36 (c36 x8) false, .box 36 (c36 x10) false]) r) := by
  unfold palingref17_Cross_J1 at h
  rcases ite_out h with ⟨h12, h⟩ | ⟨h12, h⟩
  · rcases ite_out h with ⟨h13, h⟩ | ⟨h13, h⟩
    · injection h with h; subst h; exact runLp_sound mixedOrders (live := [6, 7, 8]) (ids := []) (π := [.dec true, .dec true]) (hx := by kernel_rfl) (hps := pc (h12) <| pc (h13) <| pn)
    · injection h with h; subst h; exact runLp_sound mixedOrders (live := [2, 6, 7, 8, 9, 10, 11]) (ids := [0, 1]) (π := [.dec true, .dec false]) (hx := by kernel_rfl) (hps := pc (h12) <| pc (h13) <| pn)
  · injection h with h; subst h; exact runLp_sound mixedOrders (live := [2, 6, 7, 8, 9, 10, 11]) (ids := [0, 1]) (π := [.dec false]) (hx := by kernel_rfl) (hps := pc (h12) <| pn)

theorem k_palingref17_Cross {a1 : Api_Net} {a2 : Int} {a3 : Int} {r : Int × Int × Bool} (h : palingref17_Cross a1 a2 a3 = some r) :
    CallsOK Try.prog UU 24 [.agg (c31 a1), .v (.int .i64 a2), .v (.int .i64 a3)] [] (.tup [.v (.int .i64 r.1), .v (.int .i64 r.2.1), .v (.bool r.2.2)]) [] := by
  unfold palingref17_Cross at h
  obtain ⟨r4, h5, h⟩ := bind_out h
  rcases ite_out h with ⟨h6, h⟩ | ⟨h6, h⟩
  · injection h with h; subst h; exact runFn_sound mixedOrders Try.func24 rfl (keep := none) (π := [.callv (.v (.int .i64 r4)), .dec true]) (hrun := by kernel_rfl) (hps := pc (k_palingref17_Other h5) <| pc (h6) <| pn)
  · rcases ite_out h with ⟨h7, h⟩ | ⟨h7, h⟩
    · injection h with h; subst h; exact runFn_sound mixedOrders Try.func24 rfl (keep := none) (π := [.callv (.v (.int .i64 r4)), .dec false, .dec true]) (hrun := by kernel_rfl) (hps := pc (k_palingref17_Other h5) <| pc (h6) <| pc (h7) <| pn)
    · obtain ⟨x8, h9, h⟩ := bind_out h
      obtain ⟨x10, h11, h⟩ := bind_out h
      obtain ⟨r15, h14, h⟩ := bind_out h
      rcases r15 with _ | _
      · injection h with h; subst h; exact runFn_sound mixedOrders Try.func24 rfl (keep := none) (π := [.callv (.v (.int .i64 r4)), .dec false, .dec false, .row (c36 x8), .row (c36 x10), .cut [2, 6, 7, 8, 9, 10, 11] [1, 3] .ret [(6, .v (.int .i64 r4)), (7, .v (.int .i64 x10.native)), (8, .v (.bool true))] []]) (hrun := by kernel_rfl) (hps := pc (k_palingref17_Other h5) <| pc (h6) <| pc (h7) <| pc (ob36 h9) <| pc (ob36 h11) <| pc (k_palingref17_Cross_J1 h14) <| pn)
      · obtain ⟨r16, h17, h⟩ := bind_out h
        rcases ite_out h with ⟨h18, h⟩ | ⟨h18, h⟩
        · obtain ⟨r19, h20, h⟩ := bind_out h
          rcases ite_out h with ⟨h21, h⟩ | ⟨h21, h⟩
          · injection h with h; subst h; exact runFn_sound mixedOrders Try.func24 rfl (keep := none) (π := [.callv (.v (.int .i64 r4)), .dec false, .dec false, .row (c36 x8), .row (c36 x10), .cut [2, 6, 7, 8, 9, 10, 11] [1, 3] .nor [(2, .v (.int .i64 a3)), (6, .v (.int .i64 0)), (7, .v (.int .i64 0)), (8, .v (.bool false)), (9, .v (.int .i64 r4)), (10, .op 0 1 0 0), (11, .op 1 1 0 0)] [.box 36 (c36 x8) false, .box 36 (c36 x10) false], .callv (.v (.bool r16)), .dec true, .callv (.v (.bool r19)), .dec true]) (hrun := by kernel_rfl) (hps := pc (k_palingref17_Other h5) <| pc (h6) <| pc (h7) <| pc (ob36 h9) <| pc (ob36 h11) <| pc (k_palingref17_Cross_J1 h14) <| pc (k_palingref15_In h17) <| pc (h18) <| pc (k_palingref15_In h20) <| pc (h21) <| pn)
          · injection h with h; subst h; exact runFn_sound mixedOrders Try.func24 rfl (keep := none) (π := [.callv (.v (.int .i64 r4)), .dec false, .dec false, .row (c36 x8), .row (c36 x10), .cut [2, 6, 7, 8, 9, 10, 11] [1, 3] .nor [(2, .v (.int .i64 a3)), (6, .v (.int .i64 0)), (7, .v (.int .i64 0)), (8, .v (.bool false)), (9, .v (.int .i64 r4)), (10, .op 0 1 0 0), (11, .op 1 1 0 0)] [.box 36 (c36 x8) false, .box 36 (c36 x10) false], .callv (.v (.bool r16)), .dec true, .callv (.v (.bool r19)), .dec false]) (hrun := by kernel_rfl) (hps := pc (k_palingref17_Other h5) <| pc (h6) <| pc (h7) <| pc (ob36 h9) <| pc (ob36 h11) <| pc (k_palingref17_Cross_J1 h14) <| pc (k_palingref15_In h17) <| pc (h18) <| pc (k_palingref15_In h20) <| pc (h21) <| pn)
        · injection h with h; subst h; exact runFn_sound mixedOrders Try.func24 rfl (keep := none) (π := [.callv (.v (.int .i64 r4)), .dec false, .dec false, .row (c36 x8), .row (c36 x10), .cut [2, 6, 7, 8, 9, 10, 11] [1, 3] .nor [(2, .v (.int .i64 a3)), (6, .v (.int .i64 0)), (7, .v (.int .i64 0)), (8, .v (.bool false)), (9, .v (.int .i64 r4)), (10, .op 0 1 0 0), (11, .op 1 1 0 0)] [.box 36 (c36 x8) false, .box 36 (c36 x10) false], .callv (.v (.bool r16)), .dec false]) (hrun := by kernel_rfl) (hps := pc (k_palingref17_Other h5) <| pc (h6) <| pc (h7) <| pc (ob36 h9) <| pc (ob36 h11) <| pc (k_palingref17_Cross_J1 h14) <| pc (k_palingref15_In h17) <| pc (h18) <| pn)

theorem k_palingref17_Domain {a1 : Api_Net} {a2 : Int} {a3 : Int} {r : Int × Bool} (h : palingref17_Domain a1 a2 a3 = some r) :
    CallsOK Try.prog UU 25 [.agg (c31 a1), .v (.int .i64 a2), .v (.int .i64 a3)] [] (.tup [.v (.int .i64 r.1), .v (.bool r.2)]) [] := by
  unfold palingref17_Domain at h
  obtain ⟨r4, h5, h⟩ := bind_out h
  rcases ite_out h with ⟨h6, h⟩ | ⟨h6, h⟩
  · injection h with h; subst h; exact runFn_sound mixedOrders Try.func25 rfl (keep := none) (π := [.callv (.tup [.v (.int .i64 r4.1), .v (.int .i64 r4.2.1), .v (.bool r4.2.2)]), .dec true]) (hrun := by kernel_rfl) (hps := pc (k_palingref17_Cross h5) <| pc (h6) <| pn)
  · obtain ⟨x7, h8, h⟩ := bind_out h
    obtain ⟨r9, h10, h⟩ := bind_out h
    injection h with h; subst h; exact runFn_sound mixedOrders Try.func25 rfl (keep := none) (π := [.callv (.tup [.v (.int .i64 r4.1), .v (.int .i64 r4.2.1), .v (.bool r4.2.2)]), .dec false, .row (c36 x7), .callv (.v (.int .i64 r9))]) (hrun := by kernel_rfl) (hps := pc (k_palingref17_Cross h5) <| pc (h6) <| pc (ob36 h8) <| pc (k_palingref15_At h10) <| pn)

theorem k_palinglaw17_LinksCrosses {a1 : Api_Net} {a2 : Int} {a3 : Int} {r : Bool} (h : palinglaw17_LinksCrosses a1 a2 a3 = some r) :
    CallsOK Try.prog UU 4 [.agg (c31 a1), .v (.int .i64 a2), .v (.int .i64 a3)] [] (.v (.bool r)) [] := by
  unfold palinglaw17_LinksCrosses at h
  obtain ⟨r4, h5, h⟩ := bind_out h
  rcases ite_out h with ⟨h6, h⟩ | ⟨h6, h⟩
  · obtain ⟨r7, h8, h⟩ := bind_out h
    injection h with h; subst h; exact runFn_sound mixedOrders Try.func4 rfl (keep := none) (π := [.callv (.v (.bool r4)), .dec true, .callv (.v (.bool r7))]) (hrun := by kernel_rfl) (hps := pc (k_palinglaw15_Great h5) <| pc (h6) <| pc (k_palinglaw17_works h8) <| pn)
  · obtain ⟨r9, h10, h⟩ := bind_out h
    obtain ⟨r11, h12, h⟩ := bind_out h
    obtain ⟨r13, h14, h⟩ := bind_out h
    obtain ⟨r15, h16, h⟩ := bind_out h
    rcases ite_out h with ⟨h17, h⟩ | ⟨h17, h⟩
    · rcases ite_out h with ⟨h18, h⟩ | ⟨h18, h⟩
      · rcases ite_out h with ⟨h19, h⟩ | ⟨h19, h⟩
        · rcases ite_out h with ⟨h20, h⟩ | ⟨h20, h⟩
          · rcases ite_out h with ⟨h21, h⟩ | ⟨h21, h⟩
            · rcases ite_out h with ⟨h22, h⟩ | ⟨h22, h⟩
              · rcases ite_out h with ⟨h23, h⟩ | ⟨h23, h⟩
                · obtain ⟨r24, h25, h⟩ := bind_out h
                  injection h with h; subst h; exact runFn_sound mixedOrders Try.func4 rfl (keep := none) (π := [.callv (.v (.bool r4)), .dec false, .callv (.v (.int .i64 r9)), .callv (.tup [.v (.int .i64 r11.1), .v (.int .i64 r11.2.1), .v (.bool r11.2.2)]), .callv (.tup [.v (.int .i64 r13.1), .v (.bool r13.2)]), .callv (.v (.bool r15)), .dec true, .dec true, .dec true, .dec true, .dec true, .dec true, .dec true, .callv (.v (.bool r24))]) (hrun := by kernel_rfl) (hps := pc (k_palinglaw15_Great h5) <| pc (h6) <| pc (k_links_Other h10) <| pc (k_links_Cross h12) <| pc (k_links_Domain h14) <| pc (k_palingref15_Right h16) <| pc (h17) <| pc (h18) <| pc (h19) <| pc (h20) <| pc (h21) <| pc (h22) <| pc (h23) <| pc (k_palinglaw17_works h25) <| pn)
                · injection h with h; subst h; exact runFn_sound mixedOrders Try.func4 rfl (keep := none) (π := [.callv (.v (.bool r4)), .dec false, .callv (.v (.int .i64 r9)), .callv (.tup [.v (.int .i64 r11.1), .v (.int .i64 r11.2.1), .v (.bool r11.2.2)]), .callv (.tup [.v (.int .i64 r13.1), .v (.bool r13.2)]), .callv (.v (.bool r15)), .dec true, .dec true, .dec true, .dec true, .dec true, .dec true, .dec false]) (hrun := by kernel_rfl) (hps := pc (k_palinglaw15_Great h5) <| pc (h6) <| pc (k_links_Other h10) <| pc (k_links_Cross h12) <| pc (k_links_Domain h14) <| pc (k_palingref15_Right h16) <| pc (h17) <| pc (h18) <| pc (h19) <| pc (h20) <| pc (h21) <| pc (h22) <| pc (h23) <| pn)
              · injection h with h; subst h; exact runFn_sound mixedOrders Try.func4 rfl (keep := none) (π := [.callv (.v (.bool r4)), .dec false, .callv (.v (.int .i64 r9)), .callv (.tup [.v (.int .i64 r11.1), .v (.int .i64 r11.2.1), .v (.bool r11.2.2)]), .callv (.tup [.v (.int .i64 r13.1), .v (.bool r13.2)]), .callv (.v (.bool r15)), .dec true, .dec true, .dec true, .dec true, .dec true, .dec false]) (hrun := by kernel_rfl) (hps := pc (k_palinglaw15_Great h5) <| pc (h6) <| pc (k_links_Other h10) <| pc (k_links_Cross h12) <| pc (k_links_Domain h14) <| pc (k_palingref15_Right h16) <| pc (h17) <| pc (h18) <| pc (h19) <| pc (h20) <| pc (h21) <| pc (h22) <| pn)
            · injection h with h; subst h; exact runFn_sound mixedOrders Try.func4 rfl (keep := none) (π := [.callv (.v (.bool r4)), .dec false, .callv (.v (.int .i64 r9)), .callv (.tup [.v (.int .i64 r11.1), .v (.int .i64 r11.2.1), .v (.bool r11.2.2)]), .callv (.tup [.v (.int .i64 r13.1), .v (.bool r13.2)]), .callv (.v (.bool r15)), .dec true, .dec true, .dec true, .dec true, .dec false]) (hrun := by kernel_rfl) (hps := pc (k_palinglaw15_Great h5) <| pc (h6) <| pc (k_links_Other h10) <| pc (k_links_Cross h12) <| pc (k_links_Domain h14) <| pc (k_palingref15_Right h16) <| pc (h17) <| pc (h18) <| pc (h19) <| pc (h20) <| pc (h21) <| pn)
          · injection h with h; subst h; exact runFn_sound mixedOrders Try.func4 rfl (keep := none) (π := [.callv (.v (.bool r4)), .dec false, .callv (.v (.int .i64 r9)), .callv (.tup [.v (.int .i64 r11.1), .v (.int .i64 r11.2.1), .v (.bool r11.2.2)]), .callv (.tup [.v (.int .i64 r13.1), .v (.bool r13.2)]), .callv (.v (.bool r15)), .dec true, .dec true, .dec true, .dec false]) (hrun := by kernel_rfl) (hps := pc (k_palinglaw15_Great h5) <| pc (h6) <| pc (k_links_Other h10) <| pc (k_links_Cross h12) <| pc (k_links_Domain h14) <| pc (k_palingref15_Right h16) <| pc (h17) <| pc (h18) <| pc (h19) <| pc (h20) <| pn)
        · injection h with h; subst h; exact runFn_sound mixedOrders Try.func4 rfl (keep := none) (π := [.callv (.v (.bool r4)), .dec false, .callv (.v (.int .i64 r9)), .callv (.tup [.v (.int .i64 r11.1), .v (.int .i64 r11.2.1), .v (.bool r11.2.2)]), .callv (.tup [.v (.int .i64 r13.1), .v (.bool r13.2)]), .callv (.v (.bool r15)), .dec true, .dec true, .dec false]) (hrun := by kernel_rfl) (hps := pc (k_palinglaw15_Great h5) <| pc (h6) <| pc (k_links_Other h10) <| pc (k_links_Cross h12) <| pc (k_links_Domain h14) <| pc (k_palingref15_Right h16) <| pc (h17) <| pc (h18) <| pc (h19) <| pn)
      · injection h with h; subst h; exact runFn_sound mixedOrders Try.func4 rfl (keep := none) (π := [.callv (.v (.bool r4)), .dec false, .callv (.v (.int .i64 r9)), .callv (.tup [.v (.int .i64 r11.1), .v (.int .i64 r11.2.1), .v (.bool r11.2.2)]), .callv (.tup [.v (.int .i64 r13.1), .v (.bool r13.2)]), .callv (.v (.bool r15)), .dec true, .dec false]) (hrun := by kernel_rfl) (hps := pc (k_palinglaw15_Great h5) <| pc (h6) <| pc (k_links_Other h10) <| pc (k_links_Cross h12) <| pc (k_links_Domain h14) <| pc (k_palingref15_Right h16) <| pc (h17) <| pc (h18) <| pn)
    · obtain ⟨r26, h27, h⟩ := bind_out h
      obtain ⟨r28, h29, h⟩ := bind_out h
      obtain ⟨r30, h31, h⟩ := bind_out h
      rcases ite_out h with ⟨h32, h⟩ | ⟨h32, h⟩
      · rcases ite_out h with ⟨h33, h⟩ | ⟨h33, h⟩
        · rcases ite_out h with ⟨h34, h⟩ | ⟨h34, h⟩
          · rcases ite_out h with ⟨h35, h⟩ | ⟨h35, h⟩
            · rcases ite_out h with ⟨h36, h⟩ | ⟨h36, h⟩
              · rcases ite_out h with ⟨h37, h⟩ | ⟨h37, h⟩
                · obtain ⟨r38, h39, h⟩ := bind_out h
                  injection h with h; subst h; exact runFn_sound mixedOrders Try.func4 rfl (keep := none) (π := [.callv (.v (.bool r4)), .dec false, .callv (.v (.int .i64 r9)), .callv (.tup [.v (.int .i64 r11.1), .v (.int .i64 r11.2.1), .v (.bool r11.2.2)]), .callv (.tup [.v (.int .i64 r13.1), .v (.bool r13.2)]), .callv (.v (.bool r15)), .dec false, .callv (.tup [.v (.int .i64 r26.1), .v (.int .i64 r26.2.1), .v (.bool r26.2.2)]), .callv (.tup [.v (.int .i64 r28.1), .v (.bool r28.2)]), .callv (.v (.int .i64 r30)), .dec true, .dec true, .dec true, .dec true, .dec true, .dec true, .callv (.v (.bool r38))]) (hrun := by kernel_rfl) (hps := pc (k_palinglaw15_Great h5) <| pc (h6) <| pc (k_links_Other h10) <| pc (k_links_Cross h12) <| pc (k_links_Domain h14) <| pc (k_palingref15_Right h16) <| pc (h17) <| pc (k_palingref17_Cross h27) <| pc (k_palingref17_Domain h29) <| pc (k_palingref17_Other h31) <| pc (h32) <| pc (h33) <| pc (h34) <| pc (h35) <| pc (h36) <| pc (h37) <| pc (k_palinglaw17_works h39) <| pn)
                · injection h with h; subst h; exact runFn_sound mixedOrders Try.func4 rfl (keep := none) (π := [.callv (.v (.bool r4)), .dec false, .callv (.v (.int .i64 r9)), .callv (.tup [.v (.int .i64 r11.1), .v (.int .i64 r11.2.1), .v (.bool r11.2.2)]), .callv (.tup [.v (.int .i64 r13.1), .v (.bool r13.2)]), .callv (.v (.bool r15)), .dec false, .callv (.tup [.v (.int .i64 r26.1), .v (.int .i64 r26.2.1), .v (.bool r26.2.2)]), .callv (.tup [.v (.int .i64 r28.1), .v (.bool r28.2)]), .callv (.v (.int .i64 r30)), .dec true, .dec true, .dec true, .dec true, .dec true, .dec false]) (hrun := by kernel_rfl) (hps := pc (k_palinglaw15_Great h5) <| pc (h6) <| pc (k_links_Other h10) <| pc (k_links_Cross h12) <| pc (k_links_Domain h14) <| pc (k_palingref15_Right h16) <| pc (h17) <| pc (k_palingref17_Cross h27) <| pc (k_palingref17_Domain h29) <| pc (k_palingref17_Other h31) <| pc (h32) <| pc (h33) <| pc (h34) <| pc (h35) <| pc (h36) <| pc (h37) <| pn)
              · injection h with h; subst h; exact runFn_sound mixedOrders Try.func4 rfl (keep := none) (π := [.callv (.v (.bool r4)), .dec false, .callv (.v (.int .i64 r9)), .callv (.tup [.v (.int .i64 r11.1), .v (.int .i64 r11.2.1), .v (.bool r11.2.2)]), .callv (.tup [.v (.int .i64 r13.1), .v (.bool r13.2)]), .callv (.v (.bool r15)), .dec false, .callv (.tup [.v (.int .i64 r26.1), .v (.int .i64 r26.2.1), .v (.bool r26.2.2)]), .callv (.tup [.v (.int .i64 r28.1), .v (.bool r28.2)]), .callv (.v (.int .i64 r30)), .dec true, .dec true, .dec true, .dec true, .dec false]) (hrun := by kernel_rfl) (hps := pc (k_palinglaw15_Great h5) <| pc (h6) <| pc (k_links_Other h10) <| pc (k_links_Cross h12) <| pc (k_links_Domain h14) <| pc (k_palingref15_Right h16) <| pc (h17) <| pc (k_palingref17_Cross h27) <| pc (k_palingref17_Domain h29) <| pc (k_palingref17_Other h31) <| pc (h32) <| pc (h33) <| pc (h34) <| pc (h35) <| pc (h36) <| pn)
            · injection h with h; subst h; exact runFn_sound mixedOrders Try.func4 rfl (keep := none) (π := [.callv (.v (.bool r4)), .dec false, .callv (.v (.int .i64 r9)), .callv (.tup [.v (.int .i64 r11.1), .v (.int .i64 r11.2.1), .v (.bool r11.2.2)]), .callv (.tup [.v (.int .i64 r13.1), .v (.bool r13.2)]), .callv (.v (.bool r15)), .dec false, .callv (.tup [.v (.int .i64 r26.1), .v (.int .i64 r26.2.1), .v (.bool r26.2.2)]), .callv (.tup [.v (.int .i64 r28.1), .v (.bool r28.2)]), .callv (.v (.int .i64 r30)), .dec true, .dec true, .dec true, .dec false]) (hrun := by kernel_rfl) (hps := pc (k_palinglaw15_Great h5) <| pc (h6) <| pc (k_links_Other h10) <| pc (k_links_Cross h12) <| pc (k_links_Domain h14) <| pc (k_palingref15_Right h16) <| pc (h17) <| pc (k_palingref17_Cross h27) <| pc (k_palingref17_Domain h29) <| pc (k_palingref17_Other h31) <| pc (h32) <| pc (h33) <| pc (h34) <| pc (h35) <| pn)
          · injection h with h; subst h; exact runFn_sound mixedOrders Try.func4 rfl (keep := none) (π := [.callv (.v (.bool r4)), .dec false, .callv (.v (.int .i64 r9)), .callv (.tup [.v (.int .i64 r11.1), .v (.int .i64 r11.2.1), .v (.bool r11.2.2)]), .callv (.tup [.v (.int .i64 r13.1), .v (.bool r13.2)]), .callv (.v (.bool r15)), .dec false, .callv (.tup [.v (.int .i64 r26.1), .v (.int .i64 r26.2.1), .v (.bool r26.2.2)]), .callv (.tup [.v (.int .i64 r28.1), .v (.bool r28.2)]), .callv (.v (.int .i64 r30)), .dec true, .dec true, .dec false]) (hrun := by kernel_rfl) (hps := pc (k_palinglaw15_Great h5) <| pc (h6) <| pc (k_links_Other h10) <| pc (k_links_Cross h12) <| pc (k_links_Domain h14) <| pc (k_palingref15_Right h16) <| pc (h17) <| pc (k_palingref17_Cross h27) <| pc (k_palingref17_Domain h29) <| pc (k_palingref17_Other h31) <| pc (h32) <| pc (h33) <| pc (h34) <| pn)
        · injection h with h; subst h; exact runFn_sound mixedOrders Try.func4 rfl (keep := none) (π := [.callv (.v (.bool r4)), .dec false, .callv (.v (.int .i64 r9)), .callv (.tup [.v (.int .i64 r11.1), .v (.int .i64 r11.2.1), .v (.bool r11.2.2)]), .callv (.tup [.v (.int .i64 r13.1), .v (.bool r13.2)]), .callv (.v (.bool r15)), .dec false, .callv (.tup [.v (.int .i64 r26.1), .v (.int .i64 r26.2.1), .v (.bool r26.2.2)]), .callv (.tup [.v (.int .i64 r28.1), .v (.bool r28.2)]), .callv (.v (.int .i64 r30)), .dec true, .dec false]) (hrun := by kernel_rfl) (hps := pc (k_palinglaw15_Great h5) <| pc (h6) <| pc (k_links_Other h10) <| pc (k_links_Cross h12) <| pc (k_links_Domain h14) <| pc (k_palingref15_Right h16) <| pc (h17) <| pc (k_palingref17_Cross h27) <| pc (k_palingref17_Domain h29) <| pc (k_palingref17_Other h31) <| pc (h32) <| pc (h33) <| pn)
      · injection h with h; subst h; exact runFn_sound mixedOrders Try.func4 rfl (keep := none) (π := [.callv (.v (.bool r4)), .dec false, .callv (.v (.int .i64 r9)), .callv (.tup [.v (.int .i64 r11.1), .v (.int .i64 r11.2.1), .v (.bool r11.2.2)]), .callv (.tup [.v (.int .i64 r13.1), .v (.bool r13.2)]), .callv (.v (.bool r15)), .dec false, .callv (.tup [.v (.int .i64 r26.1), .v (.int .i64 r26.2.1), .v (.bool r26.2.2)]), .callv (.tup [.v (.int .i64 r28.1), .v (.bool r28.2)]), .callv (.v (.int .i64 r30)), .dec false]) (hrun := by kernel_rfl) (hps := pc (k_palinglaw15_Great h5) <| pc (h6) <| pc (k_links_Other h10) <| pc (k_links_Cross h12) <| pc (k_links_Domain h14) <| pc (k_palingref15_Right h16) <| pc (h17) <| pc (k_palingref17_Cross h27) <| pc (k_palingref17_Domain h29) <| pc (k_palingref17_Other h31) <| pc (h32) <| pn)

theorem k_addr_Right {a1 : Api_Prefix} {r : Bool} (h : addr_Right a1 = some r) :
    CallsOK Try.prog UU 141 [.agg (c72 a1)] [] (.v (.bool r)) [] := by
  unfold addr_Right at h
  rcases ite_out h with ⟨h2, h⟩ | ⟨h2, h⟩
  · injection h with h; subst h; exact runFn_sound mixedOrders Try.func141 rfl (keep := none) (π := [.dec true]) (hrun := by kernel_rfl) (hps := pc (h2) <| pn)
  · injection h with h; subst h; exact runFn_sound mixedOrders Try.func141 rfl (keep := none) (π := [.dec false]) (hrun := by kernel_rfl) (hps := pc (h2) <| pn)

theorem k_addr_rest {a1 : Api_Prefix} {r : Int} (h : addr_rest a1 = some r) :
    CallsOK Try.prog UU 142 [.agg (c72 a1)] [] (.v (.int .u32 r)) [] := by
  unfold addr_rest at h
  rcases ite_out h with ⟨h2, h⟩ | ⟨h2, h⟩
  · injection h with h; subst h; exact runFn_sound mixedOrders Try.func142 rfl (keep := none) (π := []) (hrun := by kernel_rfl) (hps := pc (of_decide_eq_true h2) <| pn)
  · cases h

theorem k_addr_First {a1 : Api_Prefix} {r : Int} (h : addr_First a1 = some r) :
    CallsOK Try.prog UU 103 [.agg (c72 a1)] [] (.v (.int .u32 r)) [] := by
  unfold addr_First at h
  obtain ⟨r2, h3, h⟩ := bind_out h
  rcases ite_out h with ⟨h4, h⟩ | ⟨h4, h⟩
  · injection h with h; subst h; exact runFn_sound mixedOrders Try.func103 rfl (keep := none) (π := [.callv (.v (.bool r2)), .dec true]) (hrun := by kernel_rfl) (hps := pc (k_addr_Right h3) <| pc (h4) <| pn)
  · obtain ⟨r5, h6, h⟩ := bind_out h
    injection h with h; subst h; exact runFn_sound mixedOrders Try.func103 rfl (keep := none) (π := [.callv (.v (.bool r2)), .dec false, .callv (.v (.int .u32 r5))]) (hrun := by kernel_rfl) (hps := pc (k_addr_Right h3) <| pc (h4) <| pc (k_addr_rest h6) <| pn)

theorem k_addr_Last {a1 : Api_Prefix} {r : Int} (h : addr_Last a1 = some r) :
    CallsOK Try.prog UU 104 [.agg (c72 a1)] [] (.v (.int .u32 r)) [] := by
  unfold addr_Last at h
  obtain ⟨r2, h3, h⟩ := bind_out h
  rcases ite_out h with ⟨h4, h⟩ | ⟨h4, h⟩
  · injection h with h; subst h; exact runFn_sound mixedOrders Try.func104 rfl (keep := none) (π := [.callv (.v (.bool r2)), .dec true]) (hrun := by kernel_rfl) (hps := pc (k_addr_Right h3) <| pc (h4) <| pn)
  · obtain ⟨r5, h6, h⟩ := bind_out h
    injection h with h; subst h; exact runFn_sound mixedOrders Try.func104 rfl (keep := none) (π := [.callv (.v (.bool r2)), .dec false, .callv (.v (.int .u32 r5))]) (hrun := by kernel_rfl) (hps := pc (k_addr_Right h3) <| pc (h4) <| pc (k_addr_rest h6) <| pn)

theorem k_route_device {a1 : Api_Net} {a2 : Int} {r : Int} (h : route_device a1 a2 = some r) :
    CallsOK Try.prog UU 149 [.agg (c31 a1), .v (.int .i64 a2)] [] (.v (.int .i64 r)) [] := by
  unfold route_device at h
  obtain ⟨x3, h4, h⟩ := bind_out h
  obtain ⟨x5, h6, h⟩ := bind_out h
  injection h with h; subst h; exact runFn_sound mixedOrders Try.func149 rfl (keep := none) (π := [.row (c74 x3), .row (c56 x5)]) (hrun := by kernel_rfl) (hps := pc (ob74 h4) <| pc (ob56 h6) <| pn)

theorem k_addr_Has {a1 : Api_Prefix} {a2 : Int} {r : Bool} (h : addr_Has a1 a2 = some r) :
    CallsOK Try.prog UU 150 [.agg (c72 a1), .v (.int .u32 a2)] [] (.v (.bool r)) [] := by
  unfold addr_Has at h
  obtain ⟨r3, h4, h⟩ := bind_out h
  rcases ite_out h with ⟨h5, h⟩ | ⟨h5, h⟩
  · obtain ⟨r6, h7, h⟩ := bind_out h
    injection h with h; subst h; exact runFn_sound mixedOrders Try.func150 rfl (keep := none) (π := [.callv (.v (.bool r3)), .dec true, .callv (.v (.int .u32 r6))]) (hrun := by kernel_rfl) (hps := pc (k_addr_Right h4) <| pc (h5) <| pc (k_addr_rest h7) <| pn)
  · injection h with h; subst h; exact runFn_sound mixedOrders Try.func150 rfl (keep := none) (π := [.callv (.v (.bool r3)), .dec false]) (hrun := by kernel_rfl) (hps := pc (k_addr_Right h4) <| pc (h5) <| pn)

theorem k_vrfs_Leaks_1 {a1 : Int} {a2 : Api_Vrf} {r : Bool} (h : vrfs_Leaks_1 a1 a2 = some r) :
    CallsOK Try.prog UU 173 [.v (.int .i64 a1), .rp (c58 a2) 0] [] (.v (.bool r)) [] := by
  unfold vrfs_Leaks_1 at h
  obtain ⟨r3, h4, h⟩ := bind_out h
  injection h with h; subst h; exact runFn_sound mixedOrders Try.func173 rfl (keep := none) (π := [.callv (.v (.bool r3))]) (hrun := by kernel_rfl) (hps := pc (k_slices_Contains_int h4) <| pn)

theorem k_slices_IndexFunc_int_Leaks_1_L1 {a1 : List Int} {a2 : Api_Vrf} : LoopOK Try.prog UU 0 19 (subC (codeOf Try.f172) [1, 0, 1, 0, 0]) (ρ := Int ⊕ Unit) (slices_IndexFunc_int_Leaks_1_L1 a1 a2)
    (fun v3 : Int => ([(0, .sl 3 a1), (1, .fn (.func 173) [] [.rp (c58 a2) 0]), (4, .v (.int .i64 0)), (7, .v (.int .i64 (a1.length : Int))), (8, .v (.int .i64 v3))] : Fr DD)) (fun v3 : Int => ([] : Heap DD)) (fun r => match r with | Sum.inl v11 => .ret | Sum.inr _ => .exit 0) (fun r => match r with | Sum.inl v11 => [(4, .v (.int .i64 v11))] | Sum.inr _ => [(4, .v (.int .i64 0))]) (fun r => match r with | Sum.inl v11 => [] | Sum.inr _ => []) := by
  refine loop_sound3 (fun s q h => ?_) (fun r => ?_)
  · replace h : slices_IndexFunc_int_Leaks_1_L1 a1 a2 s = some q := h; revert h; revert s; intro v3 h
    unfold slices_IndexFunc_int_Leaks_1_L1 at h
    rcases ite_out h with ⟨h4, h⟩ | ⟨h4, h⟩
    · obtain ⟨x5, h6, h⟩ := bind_out h
      obtain ⟨r7, h8, h⟩ := bind_out h
      rcases ite_out h with ⟨h9, h⟩ | ⟨h9, h⟩
      · injection h with h; subst h; exact runLp_sound mixedOrders (live := [4]) (ids := []) (π := [.dec true, .row (c3 x5), .callv (.v (.bool r7)), .dec true]) (hx := by kernel_rfl) (hps := pc (h4) <| pc (ob3 h6) <| pc (k_vrfs_Leaks_1 h8) <| pc (h9) <| pn)
      · injection h with h; subst h; exact runLp_sound mixedOrders (live := [0, 1, 4, 7, 8]) (ids := []) (π := [.dec true, .row (c3 x5), .callv (.v (.bool r7)), .dec false]) (hx := by kernel_rfl) (hps := pc (h4) <| pc (ob3 h6) <| pc (k_vrfs_Leaks_1 h8) <| pc (h9) <| pn)
    · injection h with h; subst h; exact runLp_sound mixedOrders (live := [4]) (ids := []) (π := [.dec false]) (hx := by kernel_rfl) (hps := pc (h4) <| pn)
  · rcases r with _ | _ <;> exact Ex.noConfusion

theorem k_slices_IndexFunc_int_Leaks_1 {a1 : List Int} {a2 : Api_Vrf} {r : Int} (h : slices_IndexFunc_int_Leaks_1 a1 a2 = some r) :
    CallsOK Try.prog UU 172 [.sl 3 a1, .fn (.func 173) [] [.rp (c58 a2) 0]] [] (.v (.int .i64 r)) [] := by
  unfold slices_IndexFunc_int_Leaks_1 at h
  obtain ⟨r13, h12, h⟩ := bind_out h
  rcases r13 with v11 | _
  · injection h with h; subst h; exact runFn_sound mixedOrders Try.func172 rfl (keep := none) (π := [.sum [0, 1, 4, 7, 8] [] .ret [(4, .v (.int .i64 v11))] []]) (hrun := by kernel_rfl) (hps := pc (k_slices_IndexFunc_int_Leaks_1_L1 _ _ h12) <| pn)
  · injection h with h; subst h; exact runFn_sound mixedOrders Try.func172 rfl (keep := none) (π := [.sum [0, 1, 4, 7, 8] [] (.exit 0) [(4, .v (.int .i64 0))] []]) (hrun := by kernel_rfl) (hps := pc (k_slices_IndexFunc_int_Leaks_1_L1 _ _ h12) <| pn)

theorem k_slices_ContainsFunc_int_Leaks_1 {a1 : List Int} {a2 : Api_Vrf} {r : Bool} (h : slices_ContainsFunc_int_Leaks_1 a1 a2 = some r) :
    CallsOK Try.prog UU 174 [.sl 3 a1, .fn (.func 173) [] [.rp (c58 a2) 0]] [] (.v (.bool r)) [] := by
  unfold slices_ContainsFunc_int_Leaks_1 at h
  obtain ⟨r3, h4, h⟩ := bind_out h
  injection h with h; subst h; exact runFn_sound mixedOrders Try.func174 rfl (keep := none) (π := [.callv (.v (.int .i64 r3))]) (hrun := by kernel_rfl) (hps := pc (k_slices_IndexFunc_int_Leaks_1 h4) <| pn)

theorem k_vrfs_Leaks {a1 : Api_Net} {a2 : Int} {a3 : Int} {r : Bool} (h : vrfs_Leaks a1 a2 a3 = some r) :
    CallsOK Try.prog UU 169 [.agg (c31 a1), .v (.int .i64 a2), .v (.int .i64 a3)] [] (.v (.bool r)) [] := by
  unfold vrfs_Leaks at h
  rcases ite_out h with ⟨h4, h⟩ | ⟨h4, h⟩
  · injection h with h; subst h; exact runFn_sound mixedOrders Try.func169 rfl (keep := none) (π := [.dec true]) (hrun := by kernel_rfl) (hps := pc (h4) <| pn)
  · rcases ite_out h with ⟨h5, h⟩ | ⟨h5, h⟩
    · injection h with h; subst h; exact runFn_sound mixedOrders Try.func169 rfl (keep := none) (π := [.dec false, .dec true]) (hrun := by kernel_rfl) (hps := pc (h4) <| pc (h5) <| pn)
    · rcases ite_out h with ⟨h6, h⟩ | ⟨h6, h⟩
      · injection h with h; subst h; exact runFn_sound mixedOrders Try.func169 rfl (keep := none) (π := [.dec false, .dec false, .dec true]) (hrun := by kernel_rfl) (hps := pc (h4) <| pc (h5) <| pc (h6) <| pn)
      · rcases ite_out h with ⟨h7, h⟩ | ⟨h7, h⟩
        · injection h with h; subst h; exact runFn_sound mixedOrders Try.func169 rfl (keep := none) (π := [.dec false, .dec false, .dec false, .dec true]) (hrun := by kernel_rfl) (hps := pc (h4) <| pc (h5) <| pc (h6) <| pc (h7) <| pn)
        · obtain ⟨r8, h9, h⟩ := bind_out h
          rcases ite_out h with ⟨h10, h⟩ | ⟨h10, h⟩
          · injection h with h; subst h; exact runFn_sound mixedOrders Try.func169 rfl (keep := none) (π := [.dec false, .dec false, .dec false, .dec false, .callv (.v (.bool r8)), .dec true]) (hrun := by kernel_rfl) (hps := pc (h4) <| pc (h5) <| pc (h6) <| pc (h7) <| pc (k_names_Right h9) <| pc (h10) <| pn)
          · obtain ⟨x11, h12, h⟩ := bind_out h
            obtain ⟨x13, h14, h⟩ := bind_out h
            rcases ite_out h with ⟨h15, h⟩ | ⟨h15, h⟩
            · injection h with h; subst h; exact runFn_sound mixedOrders Try.func169 rfl (keep := none) (π := [.dec false, .dec false, .dec false, .dec false, .callv (.v (.bool r8)), .dec false, .row (c58 x11), .row (c58 x13), .dec true]) (hrun := by kernel_rfl) (hps := pc (h4) <| pc (h5) <| pc (h6) <| pc (h7) <| pc (k_names_Right h9) <| pc (h10) <| pc (ob58 h12) <| pc (ob58 h14) <| pc (h15) <| pn)
            · rcases ite_out h with ⟨h16, h⟩ | ⟨h16, h⟩
              · obtain ⟨r17, h18, h⟩ := bind_out h
                injection h with h; subst h; exact runFn_sound mixedOrders Try.func169 rfl (keep := none) (π := [.dec false, .dec false, .dec false, .dec false, .callv (.v (.bool r8)), .dec false, .row (c58 x11), .row (c58 x13), .dec false, .dec true, .callv (.v (.bool r17))]) (hrun := by kernel_rfl) (hps := pc (h4) <| pc (h5) <| pc (h6) <| pc (h7) <| pc (k_names_Right h9) <| pc (h10) <| pc (ob58 h12) <| pc (ob58 h14) <| pc (h15) <| pc (h16) <| pc (k_slices_ContainsFunc_int_Leaks_1 h18) <| pn)
              · injection h with h; subst h; exact runFn_sound mixedOrders Try.func169 rfl (keep := none) (π := [.dec false, .dec false, .dec false, .dec false, .callv (.v (.bool r8)), .dec false, .row (c58 x11), .row (c58 x13), .dec false, .dec false]) (hrun := by kernel_rfl) (hps := pc (h4) <| pc (h5) <| pc (h6) <| pc (h7) <| pc (k_names_Right h9) <| pc (h10) <| pc (ob58 h12) <| pc (ob58 h14) <| pc (h15) <| pc (h16) <| pn)

theorem k_route_sees {a1 : Api_Net} {a2 : Int} {a3 : Int} {r : Bool} (h : route_sees a1 a2 a3 = some r) :
    CallsOK Try.prog UU 151 [.agg (c31 a1), .v (.int .i64 a2), .v (.int .i64 a3)] [] (.v (.bool r)) [] := by
  unfold route_sees at h
  obtain ⟨r4, h5, h⟩ := bind_out h
  obtain ⟨r6, h7, h⟩ := bind_out h
  rcases ite_out h with ⟨h8, h⟩ | ⟨h8, h⟩
  · obtain ⟨x9, h10, h⟩ := bind_out h
    obtain ⟨x11, h12, h⟩ := bind_out h
    obtain ⟨r13, h14, h⟩ := bind_out h
    injection h with h; subst h; exact runFn_sound mixedOrders Try.func151 rfl (keep := none) (π := [.callv (.v (.int .i64 r4)), .callv (.v (.int .i64 r6)), .dec true, .row (c74 x9), .row (c74 x11), .callv (.v (.bool r13))]) (hrun := by kernel_rfl) (hps := pc (k_route_device h5) <| pc (k_route_device h7) <| pc (h8) <| pc (ob74 h10) <| pc (ob74 h12) <| pc (k_vrfs_Leaks h14) <| pn)
  · injection h with h; subst h; exact runFn_sound mixedOrders Try.func151 rfl (keep := none) (π := [.callv (.v (.int .i64 r4)), .callv (.v (.int .i64 r6)), .dec false]) (hrun := by kernel_rfl) (hps := pc (k_route_device h5) <| pc (k_route_device h7) <| pc (h8) <| pn)

theorem k_route_lookup_1 {a1 : Int} {a2 : Api_Net} {a3 : Int} {r : Int} (h : route_lookup_1 a1 a2 a3 = some r) :
    CallsOK Try.prog UU 152 [.v (.int .i64 a1), .rp (c31 a2) 0, .rp (c3 a3) 0] [] (.v (.int .i64 r)) [] := by
  unfold route_lookup_1 at h
  obtain ⟨x4, h5, h⟩ := bind_out h
  obtain ⟨x6, h7, h⟩ := bind_out h
  rcases ite_out h with ⟨h8, h⟩ | ⟨h8, h⟩
  · injection h with h; subst h; exact runFn_sound mixedOrders Try.func152 rfl (keep := none) (π := [.row (c74 x4), .row (c74 x6), .dec true]) (hrun := by kernel_rfl) (hps := pc (ob74 h5) <| pc (ob74 h7) <| pc (h8) <| pn)
  · injection h with h; subst h; exact runFn_sound mixedOrders Try.func152 rfl (keep := none) (π := [.row (c74 x4), .row (c74 x6), .dec false]) (hrun := by kernel_rfl) (hps := pc (ob74 h5) <| pc (ob74 h7) <| pc (h8) <| pn)

theorem k_route_lookup_2 {a1 : Int} {a2 : Int} {a3 : Api_Net} {a4 : Api_Net} {a5 : Int} {r : Int} (h : route_lookup_2 a1 a2 a3 a4 a5 = some r) :
    CallsOK Try.prog UU 154 [.v (.int .i64 a1), .v (.int .i64 a2), .rp (c31 a3) 0, .rp [.fn (.func 152) [] [.rp (c31 a4) 0, .rp (c3 a5) 0]] 0] [] (.v (.int .i64 r)) [] := by
  unfold route_lookup_2 at h
  obtain ⟨x6, h7, h⟩ := bind_out h
  obtain ⟨x8, h9, h⟩ := bind_out h
  rcases ite_out h with ⟨h10, h⟩ | ⟨h10, h⟩
  · injection h with h; subst h; exact runFn_sound mixedOrders Try.func154 rfl (keep := none) (π := [.row (c74 x6), .row (c74 x8), .dec true]) (hrun := by kernel_rfl) (hps := pc (ob74 h7) <| pc (ob74 h9) <| pc (h10) <| pn)
  · obtain ⟨r11, h12, h⟩ := bind_out h
    obtain ⟨r13, h14, h⟩ := bind_out h
    injection h with h; subst h; exact runFn_sound mixedOrders Try.func154 rfl (keep := none) (π := [.row (c74 x6), .row (c74 x8), .dec false, .callv (.v (.int .i64 r11)), .callv (.v (.int .i64 r13))]) (hrun := by kernel_rfl) (hps := pc (ob74 h7) <| pc (ob74 h9) <| pc (h10) <| pc (k_route_lookup_1 h12) <| pc (k_route_lookup_1 h14) <| pn)

theorem k_slices_MaxFunc_int_lookup_2_L1 {a1 : List Int} {a2 : Api_Net} {a3 : Api_Net} {a4 : Int} : LoopOK Try.prog UU 0 33 (subC (codeOf Try.f153) [1, 1, 1, 0, 1, 0, 0]) (fun s : Int × Int => match s with | (v8, v9) => slices_MaxFunc_int_lookup_2_L1 a1 a2 a3 a4 v8 v9)
    (fun s : Int × Int => (match s with | (v8, v9) => [(0, .sl 3 a1), (1, .fn (.func 154) [] [.rp (c31 a2) 0, .rp [.fn (.func 152) [] [.rp (c31 a3) 0, .rp (c3 a4) 0]] 0]), (4, .v (.int .i64 0)), (5, .v (.int .i64 v8)), (6, .v (.int .i64 v9))] : Fr DD)) (fun s : Int × Int => (match s with | (v8, v9) => [] : Heap DD)) (fun r => match r with | v19 => .exit 0) (fun r => match r with | v19 => [(4, .v (.int .i64 0)), (5, .v (.int .i64 v19))]) (fun r => match r with | v19 => []) := by
  refine loop_sound3 (fun s q h => ?_) (fun r => ?_)
  · obtain ⟨v8, v9⟩ := s; replace h : slices_MaxFunc_int_lookup_2_L1 a1 a2 a3 a4 v8 v9 = some q := h
    unfold slices_MaxFunc_int_lookup_2_L1 at h
    rcases ite_out h with ⟨h10, h⟩ | ⟨h10, h⟩
    · obtain ⟨x11, h12, h⟩ := bind_out h
      obtain ⟨r13, h14, h⟩ := bind_out h
      rcases ite_out h with ⟨h15, h⟩ | ⟨h15, h⟩
      · obtain ⟨x16, h17, h⟩ := bind_out h
        injection h with h; subst h; exact runLp_sound mixedOrders (live := [0, 1, 4, 5, 6]) (ids := []) (π := [.dec true, .row (c3 x11), .callv (.v (.int .i64 r13)), .dec true, .row (c3 x16)]) (hx := by kernel_rfl) (hps := pc (h10) <| pc (ob3 h12) <| pc (k_route_lookup_2 h14) <| pc (h15) <| pc (ob3 h17) <| pn)
      · injection h with h; subst h; exact runLp_sound mixedOrders (live := [0, 1, 4, 5, 6]) (ids := []) (π := [.dec true, .row (c3 x11), .callv (.v (.int .i64 r13)), .dec false]) (hx := by kernel_rfl) (hps := pc (h10) <| pc (ob3 h12) <| pc (k_route_lookup_2 h14) <| pc (h15) <| pn)
    · injection h with h; subst h; exact runLp_sound mixedOrders (live := [4, 5]) (ids := []) (π := [.dec false]) (hx := by kernel_rfl) (hps := pc (h10) <| pn)
  · exact Ex.noConfusion

theorem k_slices_MaxFunc_int_lookup_2 {a1 : List Int} {a2 : Api_Net} {a3 : Api_Net} {a4 : Int} {r : Int} (h : slices_MaxFunc_int_lookup_2 a1 a2 a3 a4 = some r) :
    CallsOK Try.prog UU 153 [.sl 3 a1, .fn (.func 154) [] [.rp (c31 a2) 0, .rp [.fn (.func 152) [] [.rp (c31 a3) 0, .rp (c3 a4) 0]] 0]] [] (.v (.int .i64 r)) [] := by
  unfold slices_MaxFunc_int_lookup_2 at h
  rcases ite_out h with ⟨h5, h⟩ | ⟨h5, h⟩
  · cases h
  · obtain ⟨x6, h7, h⟩ := bind_out h
    obtain ⟨v19, h20, h⟩ := bind_out h
    injection h with h; subst h; exact runFn_sound mixedOrders Try.func153 rfl (keep := none) (π := [.dec false, .row (c3 x6), .sum [0, 1, 4, 5, 6] [] (.exit 0) [(4, .v (.int .i64 0)), (5, .v (.int .i64 v19))] []]) (hrun := by kernel_rfl) (hps := pc (h5) <| pc (ob3 h7) <| pc (k_slices_MaxFunc_int_lookup_2_L1 _ _ h20) <| pn)

theorem k_route_lookup_J2 {a1 : Api_Net} {a2 : Int} {a3 : Int} {l4 : List Int} {v5 : Int} {x7 : Api_Irb} {r : Unit ⊕ Unit} (h : route_lookup_J2 a1 a2 a3 l4 v5 x7 = some r) :
    ExecOK Try.prog UU 0 56 (subC (codeOf Try.f111) [1, 1, 0, 1, 0, 0, 1, 1, 0, 0, 1, 0]) [(2, .v (.int .u32 a3)), (3, .op 0 1 0 0), (4, .op 1 1 0 0), (6, .v (.int .i64 0)), (7, .v (.bool false)), (8, .os 2 (List.length l4)), (9, .v (.int .i64 v5)), (10, .op 3 1 0 0), (13, .sl 74 a1.irbs), (14, .v (.int .i64 (a1.irbs.length : Int))), (15, .v (.int .i64 v5))] [.box 31 (c31 a1) false, .box 3 [.v (.int .i64 a2)] false, .arr 3 l4 (List.length l4) false, .box 74 (c74 x7) false] ((fun r => match r with | Sum.inl _ => .ret | Sum.inr _ => .nor) r) ((fun r => match r with | Sum.inl _ => [(6, .v (.int .i64 0)), (7, .v (.bool false))] | Sum.inr _ => [(2, .v (.int .u32 a3)), (3, .op 0 1 0 0), (4, .op 1 1 0 0), (6, .v (.int .i64 0)), (7, .v (.bool false)), (8, .os 2 (List.length l4)), (9, .v (.int .i64 v5)), (10, .op 3 1 0 0), (13, .sl 74 a1.irbs), (14, .v (.int .i64 (a1.irbs.length : Int))), (15, .v (.int .i64 v5))]) r) ((fun r => match r with | Sum.inl _ => [] | Sum.inr _ => [.box 31 (c31 a1) false, .box 3 [.v (.int .i64 a2)] false, .arr 3 l4 (List.length l4) false, .box 74 (c74 x7) false]) r) := by
  unfold route_lookup_J2 at h
  obtain ⟨r9, h10, h⟩ := bind_out h
  obtain ⟨r11, h12, h⟩ := bind_out h
  rcases ite_out h with ⟨h13, h⟩ | ⟨h13, h⟩
  · rcases ite_out h with ⟨h14, h⟩ | ⟨h14, h⟩
    · injection h with h; subst h; exact runLp_sound mixedOrders (live := [6, 7]) (ids := []) (π := [.callv (.v (.int .i64 r9)), .callv (.v (.int .i64 r11)), .dec true, .dec true]) (hx := by kernel_rfl) (hps := pc (k_route_device h10) <| pc (k_route_device h12) <| pc (h13) <| pc (h14) <| pn)
    · injection h with h; subst h; exact runLp_sound mixedOrders (live := [2, 3, 4, 6, 7, 8, 9, 10, 13, 14, 15]) (ids := [0, 1, 2, 3]) (π := [.callv (.v (.int .i64 r9)), .callv (.v (.int .i64 r11)), .dec true, .dec false]) (hx := by kernel_rfl) (hps := pc (k_route_device h10) <| pc (k_route_device h12) <| pc (h13) <| pc (h14) <| pn)
  · injection h with h; subst h; exact runLp_sound mixedOrders (live := [2, 3, 4, 6, 7, 8, 9, 10, 13, 14, 15]) (ids := [0, 1, 2, 3]) (π := [.callv (.v (.int .i64 r9)), .callv (.v (.int .i64 r11)), .dec false]) (hx := by kernel_rfl) (hps := pc (k_route_device h10) <| pc (k_route_device h12) <| pc (h13) <| pn)

theorem k_route_lookup_L1 {a1 : Api_Net} {a2 : Int} {a3 : Int} : LoopOK Try.prog UU 0 56 (subC (codeOf Try.f111) [1, 1, 0, 1, 0, 0]) (fun s : (List Int) × Int => match s with | (l4, v5) => route_lookup_L1 a1 a2 a3 l4 v5)
    (fun s : (List Int) × Int => (match s with | (l4, v5) => [(2, .v (.int .u32 a3)), (3, .op 0 1 0 0), (4, .op 1 1 0 0), (6, .v (.int .i64 0)), (7, .v (.bool false)), (8, .os 2 (List.length l4)), (13, .sl 74 a1.irbs), (14, .v (.int .i64 (a1.irbs.length : Int))), (15, .v (.int .i64 v5))] : Fr DD)) (fun s : (List Int) × Int => (match s with | (l4, v5) => [.box 31 (c31 a1) false, .box 3 [.v (.int .i64 a2)] false, .arr 3 l4 (List.length l4) false] : Heap DD)) (fun r => match r with | Sum.inl _ => .ret | Sum.inr l29 => .exit 0) (fun r => match r with | Sum.inl _ => [(6, .v (.int .i64 0)), (7, .v (.bool false))] | Sum.inr l29 => [(3, .op 0 1 0 0), (4, .op 1 1 0 0), (6, .v (.int .i64 0)), (7, .v (.bool false)), (8, .os 2 (List.length l29))]) (fun r => match r with | Sum.inl _ => [] | Sum.inr l29 => [.box 31 (c31 a1) false, .box 3 [.v (.int .i64 a2)] false, .arr 3 l29 (List.length l29) false]) := by
  refine loop_sound3 (fun s q h => ?_) (fun r => ?_)
  · obtain ⟨l4, v5⟩ := s; replace h : route_lookup_L1 a1 a2 a3 l4 v5 = some q := h
    unfold route_lookup_L1 at h
    rcases ite_out h with ⟨h6, h⟩ | ⟨h6, h⟩
    · obtain ⟨x7, h8, h⟩ := bind_out h
      obtain ⟨r16, h15, h⟩ := bind_out h
      rcases r16 with _ | _
      · injection h with h; subst h; exact runLp_sound mixedOrders (live := [6, 7]) (ids := []) (π := [.dec true, .row (c74 x7), .cut [2, 3, 4, 6, 7, 8, 9, 10, 13, 14, 15] [0, 1, 2, 3] .ret [(6, .v (.int .i64 0)), (7, .v (.bool false))] []]) (hx := by kernel_rfl) (hps := pc (h6) <| pc (ob74 h8) <| pc (k_route_lookup_J2 h15) <| pn)
      · obtain ⟨r17, h18, h⟩ := bind_out h
        rcases ite_out h with ⟨h19, h⟩ | ⟨h19, h⟩
        · obtain ⟨r20, h21, h⟩ := bind_out h
          rcases ite_out h with ⟨h22, h⟩ | ⟨h22, h⟩
          · rcases ite_out h with ⟨h23, h⟩ | ⟨h23, h⟩
            · injection h with h; subst h; exact runLp_sound mixedOrders (live := [2, 3, 4, 6, 7, 8, 13, 14, 15]) (ids := [0, 1, 2]) (π := [.dec true, .row (c74 x7), .cut [2, 3, 4, 6, 7, 8, 9, 10, 13, 14, 15] [0, 1, 2, 3] .nor [(2, .v (.int .u32 a3)), (3, .op 0 1 0 0), (4, .op 1 1 0 0), (6, .v (.int .i64 0)), (7, .v (.bool false)), (8, .os 2 (List.length l4)), (9, .v (.int .i64 v5)), (10, .op 3 1 0 0), (13, .sl 74 a1.irbs), (14, .v (.int .i64 (a1.irbs.length : Int))), (15, .v (.int .i64 v5))] [.box 31 (c31 a1) false, .box 3 [.v (.int .i64 a2)] false, .arr 3 l4 (List.length l4) false, .box 74 (c74 x7) false], .callv (.v (.bool r17)), .dec true, .callv (.v (.bool r20)), .dec true, .obj [] (.arr 3 [v5] (List.length [v5]) false), .obj [4] (.arr 3 (l4 ++ [v5]) (List.length (l4 ++ [v5])) false)]) (hx := by kernel_rfl) (hps := pc (h6) <| pc (ob74 h8) <| pc (k_route_lookup_J2 h15) <| pc (k_addr_Has h18) <| pc (h19) <| pc (k_route_sees h21) <| pc (h22) <| pc (bs_ob 3 [v5]) <| pc (app_ob 3 (n := (List.length l4)) (l := l4) (xs := [v5]) h23) <| pc ((rfl : ((List.length [v5]) : Nat) = (List.length [v5]))) <| pn)
            · cases h
          · injection h with h; subst h; exact runLp_sound mixedOrders (live := [2, 3, 4, 6, 7, 8, 13, 14, 15]) (ids := [0, 1, 2]) (π := [.dec true, .row (c74 x7), .cut [2, 3, 4, 6, 7, 8, 9, 10, 13, 14, 15] [0, 1, 2, 3] .nor [(2, .v (.int .u32 a3)), (3, .op 0 1 0 0), (4, .op 1 1 0 0), (6, .v (.int .i64 0)), (7, .v (.bool false)), (8, .os 2 (List.length l4)), (9, .v (.int .i64 v5)), (10, .op 3 1 0 0), (13, .sl 74 a1.irbs), (14, .v (.int .i64 (a1.irbs.length : Int))), (15, .v (.int .i64 v5))] [.box 31 (c31 a1) false, .box 3 [.v (.int .i64 a2)] false, .arr 3 l4 (List.length l4) false, .box 74 (c74 x7) false], .callv (.v (.bool r17)), .dec true, .callv (.v (.bool r20)), .dec false]) (hx := by kernel_rfl) (hps := pc (h6) <| pc (ob74 h8) <| pc (k_route_lookup_J2 h15) <| pc (k_addr_Has h18) <| pc (h19) <| pc (k_route_sees h21) <| pc (h22) <| pn)
        · injection h with h; subst h; exact runLp_sound mixedOrders (live := [2, 3, 4, 6, 7, 8, 13, 14, 15]) (ids := [0, 1, 2]) (π := [.dec true, .row (c74 x7), .cut [2, 3, 4, 6, 7, 8, 9, 10, 13, 14, 15] [0, 1, 2, 3] .nor [(2, .v (.int .u32 a3)), (3, .op 0 1 0 0), (4, .op 1 1 0 0), (6, .v (.int .i64 0)), (7, .v (.bool false)), (8, .os 2 (List.length l4)), (9, .v (.int .i64 v5)), (10, .op 3 1 0 0), (13, .sl 74 a1.irbs), (14, .v (.int .i64 (a1.irbs.length : Int))), (15, .v (.int .i64 v5))] [.box 31 (c31 a1) false, .box 3 [.v (.int .i64 a2)] false, .arr 3 l4 (List.length l4) false, .box 74 (c74 x7) false], .callv (.v (.bool r17)), .dec false]) (hx := by kernel_rfl) (hps := pc (h6) <| pc (ob74 h8) <| pc (k_route_lookup_J2 h15) <| pc (k_addr_Has h18) <| pc (h19) <| pn)
    · injection h with h; subst h; exact runLp_sound mixedOrders (live := [3, 4, 6, 7, 8]) (ids := [0, 1, 2]) (π := [.dec false]) (hx := by kernel_rfl) (hps := pc (h6) <| pn)
  · rcases r with _ | _ <;> exact Ex.noConfusion

theorem k_route_lookup {a1 : Api_Net} {a2 : Int} {a3 : Int} {r : Int × Bool} (h : route_lookup a1 a2 a3 = some r) :
    CallsOK Try.prog UU 111 [.agg (c31 a1), .v (.int .i64 a2), .v (.int .u32 a3)] [] (.tup [.v (.int .i64 r.1), .v (.bool r.2)]) [] := by
  unfold route_lookup at h
  obtain ⟨r31, h30, h⟩ := bind_out h
  rcases r31 with _ | l29
  · injection h with h; subst h; exact runFn_sound mixedOrders Try.func111 rfl (keep := none) (π := [.sum [2, 3, 4, 6, 7, 8, 13, 14, 15] [0, 1, 2] .ret [(6, .v (.int .i64 0)), (7, .v (.bool false))] []]) (hrun := by kernel_rfl) (hps := pc (k_route_lookup_L1 _ _ h30) <| pn)
  · rcases ite_out h with ⟨h32, h⟩ | ⟨h32, h⟩
    · injection h with h; subst h; exact runFn_sound mixedOrders Try.func111 rfl (keep := none) (π := [.sum [2, 3, 4, 6, 7, 8, 13, 14, 15] [0, 1, 2] (.exit 0) [(3, .op 0 1 0 0), (4, .op 1 1 0 0), (6, .v (.int .i64 0)), (7, .v (.bool false)), (8, .os 2 (List.length l29))] [.box 31 (c31 a1) false, .box 3 [.v (.int .i64 a2)] false, .arr 3 l29 (List.length l29) false], .dec true]) (hrun := by kernel_rfl) (hps := pc (k_route_lookup_L1 _ _ h30) <| pc ((rfl : ((List.length l29) : Nat) = (List.length l29))) <| pc (h32) <| pn)
    · obtain ⟨r33, h34, h⟩ := bind_out h
      injection h with h; subst h; exact runFn_sound mixedOrders Try.func111 rfl (keep := none) (π := [.sum [2, 3, 4, 6, 7, 8, 13, 14, 15] [0, 1, 2] (.exit 0) [(3, .op 0 1 0 0), (4, .op 1 1 0 0), (6, .v (.int .i64 0)), (7, .v (.bool false)), (8, .os 2 (List.length l29))] [.box 31 (c31 a1) false, .box 3 [.v (.int .i64 a2)] false, .arr 3 l29 (List.length l29) false], .dec false, .callv (.v (.int .i64 r33))]) (hrun := by kernel_rfl) (hps := pc (k_route_lookup_L1 _ _ h30) <| pc ((rfl : ((List.length l29) : Nat) = (List.length l29))) <| pc (h32) <| pc (k_slices_MaxFunc_int_lookup_2 h34) <| pc ((rfl : ((List.length l29) : Nat) = (List.length l29))) <| pn)

theorem k_route_Lookup {a1 : Api_Net} {a2 : Int} {a3 : Int} {r : Int × Bool} (h : route_Lookup a1 a2 a3 = some r) :
    CallsOK Try.prog UU 38 [.agg (c31 a1), .v (.int .i64 a2), .v (.int .u32 a3)] [] (.tup [.v (.int .i64 r.1), .v (.bool r.2)]) [] := by
  unfold route_Lookup at h
  rcases ite_out h with ⟨h4, h⟩ | ⟨h4, h⟩
  · injection h with h; subst h; exact runFn_sound mixedOrders Try.func38 rfl (keep := none) (π := [.dec true]) (hrun := by kernel_rfl) (hps := pc (h4) <| pn)
  · rcases ite_out h with ⟨h5, h⟩ | ⟨h5, h⟩
    · injection h with h; subst h; exact runFn_sound mixedOrders Try.func38 rfl (keep := none) (π := [.dec false, .dec true]) (hrun := by kernel_rfl) (hps := pc (h4) <| pc (h5) <| pn)
    · obtain ⟨r6, h7, h⟩ := bind_out h
      rcases ite_out h with ⟨h8, h⟩ | ⟨h8, h⟩
      · injection h with h; subst h; exact runFn_sound mixedOrders Try.func38 rfl (keep := none) (π := [.dec false, .dec false, .callv (.v (.bool r6)), .dec true]) (hrun := by kernel_rfl) (hps := pc (h4) <| pc (h5) <| pc (k_names_Right h7) <| pc (h8) <| pn)
      · obtain ⟨r9, h10, h⟩ := bind_out h
        injection h with h; subst h; exact runFn_sound mixedOrders Try.func38 rfl (keep := none) (π := [.dec false, .dec false, .callv (.v (.bool r6)), .dec false, .callv (.tup [.v (.int .i64 r9.1), .v (.bool r9.2)])]) (hrun := by kernel_rfl) (hps := pc (h4) <| pc (h5) <| pc (k_names_Right h7) <| pc (h8) <| pc (k_route_lookup h10) <| pn)

theorem k_choose_Address_1 {a1 : Api_Irb} {a2 : Int} {r : Bool} (h : choose_Address_1 a1 a2 = some r) :
    CallsOK Try.prog UU 106 [.agg (c74 a1), .rp (c52 a2) 0] [] (.v (.bool r)) [] := by
  unfold choose_Address_1 at h
  injection h with h; subst h; exact runFn_sound mixedOrders Try.func106 rfl (keep := none) (π := []) (hrun := by kernel_rfl) (hps := pn)

theorem k_slices_IndexFunc_Irb_Address_1_L1 {a1 : List Api_Irb} {a2 : Int} : LoopOK Try.prog UU 0 19 (subC (codeOf Try.f143) [1, 0, 1, 0, 0]) (ρ := Int ⊕ Unit) (slices_IndexFunc_Irb_Address_1_L1 a1 a2)
    (fun v3 : Int => ([(0, .sl 74 a1), (1, .fn (.func 106) [] [.rp (c52 a2) 0]), (4, .v (.int .i64 0)), (7, .v (.int .i64 (a1.length : Int))), (8, .v (.int .i64 v3))] : Fr DD)) (fun v3 : Int => ([] : Heap DD)) (fun r => match r with | Sum.inl v11 => .ret | Sum.inr _ => .exit 0) (fun r => match r with | Sum.inl v11 => [(4, .v (.int .i64 v11))] | Sum.inr _ => [(4, .v (.int .i64 0))]) (fun r => match r with | Sum.inl v11 => [] | Sum.inr _ => []) := by
  refine loop_sound3 (fun s q h => ?_) (fun r => ?_)
  · replace h : slices_IndexFunc_Irb_Address_1_L1 a1 a2 s = some q := h; revert h; revert s; intro v3 h
    unfold slices_IndexFunc_Irb_Address_1_L1 at h
    rcases ite_out h with ⟨h4, h⟩ | ⟨h4, h⟩
    · obtain ⟨x5, h6, h⟩ := bind_out h
      obtain ⟨r7, h8, h⟩ := bind_out h
      rcases ite_out h with ⟨h9, h⟩ | ⟨h9, h⟩
      · injection h with h; subst h; exact runLp_sound mixedOrders (live := [4]) (ids := []) (π := [.dec true, .row (c74 x5), .callv (.v (.bool r7)), .dec true]) (hx := by kernel_rfl) (hps := pc (h4) <| pc (ob74 h6) <| pc (k_choose_Address_1 h8) <| pc (h9) <| pn)
      · injection h with h; subst h; exact runLp_sound mixedOrders (live := [0, 1, 4, 7, 8]) (ids := []) (π := [.dec true, .row (c74 x5), .callv (.v (.bool r7)), .dec false]) (hx := by kernel_rfl) (hps := pc (h4) <| pc (ob74 h6) <| pc (k_choose_Address_1 h8) <| pc (h9) <| pn)
    · injection h with h; subst h; exact runLp_sound mixedOrders (live := [4]) (ids := []) (π := [.dec false]) (hx := by kernel_rfl) (hps := pc (h4) <| pn)
  · rcases r with _ | _ <;> exact Ex.noConfusion

theorem k_slices_IndexFunc_Irb_Address_1 {a1 : List Api_Irb} {a2 : Int} {r : Int} (h : slices_IndexFunc_Irb_Address_1 a1 a2 = some r) :
    CallsOK Try.prog UU 143 [.sl 74 a1, .fn (.func 106) [] [.rp (c52 a2) 0]] [] (.v (.int .i64 r)) [] := by
  unfold slices_IndexFunc_Irb_Address_1 at h
  obtain ⟨r13, h12, h⟩ := bind_out h
  rcases r13 with v11 | _
  · injection h with h; subst h; exact runFn_sound mixedOrders Try.func143 rfl (keep := none) (π := [.sum [0, 1, 4, 7, 8] [] .ret [(4, .v (.int .i64 v11))] []]) (hrun := by kernel_rfl) (hps := pc (k_slices_IndexFunc_Irb_Address_1_L1 _ _ h12) <| pn)
  · injection h with h; subst h; exact runFn_sound mixedOrders Try.func143 rfl (keep := none) (π := [.sum [0, 1, 4, 7, 8] [] (.exit 0) [(4, .v (.int .i64 0))] []]) (hrun := by kernel_rfl) (hps := pc (k_slices_IndexFunc_Irb_Address_1_L1 _ _ h12) <| pn)

theorem k_slices_ContainsFunc_Irb_Address_1 {a1 : List Api_Irb} {a2 : Int} {r : Bool} (h : slices_ContainsFunc_Irb_Address_1 a1 a2 = some r) :
    CallsOK Try.prog UU 105 [.sl 74 a1, .fn (.func 106) [] [.rp (c52 a2) 0]] [] (.v (.bool r)) [] := by
  unfold slices_ContainsFunc_Irb_Address_1 at h
  obtain ⟨r3, h4, h⟩ := bind_out h
  injection h with h; subst h; exact runFn_sound mixedOrders Try.func105 rfl (keep := none) (π := [.callv (.v (.int .i64 r3))]) (hrun := by kernel_rfl) (hps := pc (k_slices_IndexFunc_Irb_Address_1 h4) <| pn)

theorem k_choose_past_1 {a1 : Api_Irb} {a2 : Int} {r : Bool} (h : choose_past_1 a1 a2 = some r) :
    CallsOK Try.prog UU 144 [.agg (c74 a1), .rp (c52 a2) 0] [] (.v (.bool r)) [] := by
  unfold choose_past_1 at h
  injection h with h; subst h; exact runFn_sound mixedOrders Try.func144 rfl (keep := none) (π := []) (hrun := by kernel_rfl) (hps := pn)

theorem k_slices_IndexFunc_Irb_past_1_L1 {a1 : List Api_Irb} {a2 : Int} : LoopOK Try.prog UU 0 19 (subC (codeOf Try.f143) [1, 0, 1, 0, 0]) (ρ := Int ⊕ Unit) (slices_IndexFunc_Irb_past_1_L1 a1 a2)
    (fun v3 : Int => ([(0, .sl 74 a1), (1, .fn (.func 144) [] [.rp (c52 a2) 0]), (4, .v (.int .i64 0)), (7, .v (.int .i64 (a1.length : Int))), (8, .v (.int .i64 v3))] : Fr DD)) (fun v3 : Int => ([] : Heap DD)) (fun r => match r with | Sum.inl v11 => .ret | Sum.inr _ => .exit 0) (fun r => match r with | Sum.inl v11 => [(4, .v (.int .i64 v11))] | Sum.inr _ => [(4, .v (.int .i64 0))]) (fun r => match r with | Sum.inl v11 => [] | Sum.inr _ => []) := by
  refine loop_sound3 (fun s q h => ?_) (fun r => ?_)
  · replace h : slices_IndexFunc_Irb_past_1_L1 a1 a2 s = some q := h; revert h; revert s; intro v3 h
    unfold slices_IndexFunc_Irb_past_1_L1 at h
    rcases ite_out h with ⟨h4, h⟩ | ⟨h4, h⟩
    · obtain ⟨x5, h6, h⟩ := bind_out h
      obtain ⟨r7, h8, h⟩ := bind_out h
      rcases ite_out h with ⟨h9, h⟩ | ⟨h9, h⟩
      · injection h with h; subst h; exact runLp_sound mixedOrders (live := [4]) (ids := []) (π := [.dec true, .row (c74 x5), .callv (.v (.bool r7)), .dec true]) (hx := by kernel_rfl) (hps := pc (h4) <| pc (ob74 h6) <| pc (k_choose_past_1 h8) <| pc (h9) <| pn)
      · injection h with h; subst h; exact runLp_sound mixedOrders (live := [0, 1, 4, 7, 8]) (ids := []) (π := [.dec true, .row (c74 x5), .callv (.v (.bool r7)), .dec false]) (hx := by kernel_rfl) (hps := pc (h4) <| pc (ob74 h6) <| pc (k_choose_past_1 h8) <| pc (h9) <| pn)
    · injection h with h; subst h; exact runLp_sound mixedOrders (live := [4]) (ids := []) (π := [.dec false]) (hx := by kernel_rfl) (hps := pc (h4) <| pn)
  · rcases r with _ | _ <;> exact Ex.noConfusion

theorem k_slices_IndexFunc_Irb_past_1 {a1 : List Api_Irb} {a2 : Int} {r : Int} (h : slices_IndexFunc_Irb_past_1 a1 a2 = some r) :
    CallsOK Try.prog UU 143 [.sl 74 a1, .fn (.func 144) [] [.rp (c52 a2) 0]] [] (.v (.int .i64 r)) [] := by
  unfold slices_IndexFunc_Irb_past_1 at h
  obtain ⟨r13, h12, h⟩ := bind_out h
  rcases r13 with v11 | _
  · injection h with h; subst h; exact runFn_sound mixedOrders Try.func143 rfl (keep := none) (π := [.sum [0, 1, 4, 7, 8] [] .ret [(4, .v (.int .i64 v11))] []]) (hrun := by kernel_rfl) (hps := pc (k_slices_IndexFunc_Irb_past_1_L1 _ _ h12) <| pn)
  · injection h with h; subst h; exact runFn_sound mixedOrders Try.func143 rfl (keep := none) (π := [.sum [0, 1, 4, 7, 8] [] (.exit 0) [(4, .v (.int .i64 0))] []]) (hrun := by kernel_rfl) (hps := pc (k_slices_IndexFunc_Irb_past_1_L1 _ _ h12) <| pn)

theorem k_slices_ContainsFunc_Irb_past_1 {a1 : List Api_Irb} {a2 : Int} {r : Bool} (h : slices_ContainsFunc_Irb_past_1 a1 a2 = some r) :
    CallsOK Try.prog UU 105 [.sl 74 a1, .fn (.func 144) [] [.rp (c52 a2) 0]] [] (.v (.bool r)) [] := by
  unfold slices_ContainsFunc_Irb_past_1 at h
  obtain ⟨r3, h4, h⟩ := bind_out h
  injection h with h; subst h; exact runFn_sound mixedOrders Try.func105 rfl (keep := none) (π := [.callv (.v (.int .i64 r3))]) (hrun := by kernel_rfl) (hps := pc (k_slices_IndexFunc_Irb_past_1 h4) <| pn)

theorem k_choose_past {a1 : Api_Net} {a2 : Int} {a3 : Int} {r : Int} (h : choose_past a1 a2 a3 = some r) :
    CallsOK Try.prog UU 107 [.agg (c31 a1), .v (.int .u32 a2), .v (.int .i64 a3)] [] (.v (.int .i64 r)) [] := by
  unfold choose_past at h
  obtain ⟨r4, h5, h⟩ := bind_out h
  rcases ite_out h with ⟨h6, h⟩ | ⟨h6, h⟩
  · injection h with h; subst h; exact runFn_sound mixedOrders Try.func107 rfl (keep := none) (π := [.callv (.v (.bool r4)), .dec true]) (hrun := by kernel_rfl) (hps := pc (k_slices_ContainsFunc_Irb_past_1 h5) <| pc (h6) <| pn)
  · obtain ⟨x7, h8, h⟩ := bind_out h
    obtain ⟨r9, h10, h⟩ := bind_out h
    injection h with h; subst h; exact runFn_sound mixedOrders Try.func107 rfl (keep := none) (π := [.callv (.v (.bool r4)), .dec false, .row (c74 x7), .callv (.v (.int .u32 r9))]) (hrun := by kernel_rfl) (hps := pc (k_slices_ContainsFunc_Irb_past_1 h5) <| pc (h6) <| pc (ob74 h8) <| pc (k_addr_Last h10) <| pn)

theorem k_choose_Address_L1 {a1 : Api_Net} {a2 : Int} {a3 : Int} {r15 : Int} : LoopOK Try.prog UU 0 91 (subC (codeOf Try.f34) [1, 0, 1, 1, 1, 1, 0, 0, 0]) (ρ := Int ⊕ Unit) (choose_Address_L1 a1 a2 a3 r15)
    (fun v17 : Int => ([(1, .v (.int .i64 a2)), (2, .v (.int .i64 a3)), (3, .op 0 1 0 0), (6, .v (.int .u32 0)), (7, .v (.bool false)), (9, .v (.int .i64 v17)), (10, .v (.int .i64 (wr_i64 r15)))] : Fr DD)) (fun v17 : Int => ([.box 31 (c31 a1) false] : Heap DD)) (fun r => match r with | Sum.inl v44 => .ret | Sum.inr _ => .exit 0) (fun r => match r with | Sum.inl v44 => [(6, .v (.int .u32 v44)), (7, .v (.bool true))] | Sum.inr _ => [(6, .v (.int .u32 0)), (7, .v (.bool false))]) (fun r => match r with | Sum.inl v44 => [] | Sum.inr _ => []) := by
  refine loop_sound3 (fun s q h => ?_) (fun r => ?_)
  · replace h : choose_Address_L1 a1 a2 a3 r15 s = some q := h; revert h; revert s; intro v17 h
    unfold choose_Address_L1 at h
    rcases ite_out h with ⟨h18, h⟩ | ⟨h18, h⟩
    · obtain ⟨r19, h20, h⟩ := bind_out h
      obtain ⟨r21, h22, h⟩ := bind_out h
      rcases ite_out h with ⟨h23, h⟩ | ⟨h23, h⟩
      · rcases ite_out h with ⟨h24, h⟩ | ⟨h24, h⟩
        · rcases ite_out h with ⟨h25, h⟩ | ⟨h25, h⟩
          · injection h with h; subst h; exact runLp_sound mixedOrders (live := [6, 7]) (ids := []) (π := [.dec true, .callv (.tup [.v (.int .i64 r19.1), .v (.bool r19.2)]), .callv (.v (.bool r21)), .dec true, .dec true, .dec true]) (hx := by kernel_rfl) (hps := pc (h18) <| pc (k_route_Lookup h20) <| pc (k_slices_ContainsFunc_Irb_Address_1 h22) <| pc (h23) <| pc (h24) <| pc (h25) <| pn)
          · rcases ite_out h with ⟨h26, h⟩ | ⟨h26, h⟩
            · obtain ⟨r27, h28, h⟩ := bind_out h
              injection h with h; subst h; exact runLp_sound mixedOrders (live := [1, 2, 3, 6, 7, 9, 10]) (ids := [0]) (π := [.dec true, .callv (.tup [.v (.int .i64 r19.1), .v (.bool r19.2)]), .callv (.v (.bool r21)), .dec true, .dec true, .dec false, .dec true, .dec false, .callv (.v (.int .i64 r27))]) (hx := by kernel_rfl) (hps := pc (h18) <| pc (k_route_Lookup h20) <| pc (k_slices_ContainsFunc_Irb_Address_1 h22) <| pc (h23) <| pc (h24) <| pc (h25) <| pc (h26) <| pc (h25) <| pc (k_choose_past h28) <| pn)
            · obtain ⟨r29, h30, h⟩ := bind_out h
              injection h with h; subst h; exact runLp_sound mixedOrders (live := [1, 2, 3, 6, 7, 9, 10]) (ids := [0]) (π := [.dec true, .callv (.tup [.v (.int .i64 r19.1), .v (.bool r19.2)]), .callv (.v (.bool r21)), .dec true, .dec true, .dec false, .dec false, .callv (.v (.int .i64 r29))]) (hx := by kernel_rfl) (hps := pc (h18) <| pc (k_route_Lookup h20) <| pc (k_slices_ContainsFunc_Irb_Address_1 h22) <| pc (h23) <| pc (h24) <| pc (h25) <| pc (h26) <| pc (k_choose_past h30) <| pn)
        · rcases ite_out h with ⟨h31, h⟩ | ⟨h31, h⟩
          · rcases ite_out h with ⟨h32, h⟩ | ⟨h32, h⟩
            · injection h with h; subst h; exact runLp_sound mixedOrders (live := [6, 7]) (ids := []) (π := [.dec true, .callv (.tup [.v (.int .i64 r19.1), .v (.bool r19.2)]), .callv (.v (.bool r21)), .dec true, .dec false, .dec true, .dec true]) (hx := by kernel_rfl) (hps := pc (h18) <| pc (k_route_Lookup h20) <| pc (k_slices_ContainsFunc_Irb_Address_1 h22) <| pc (h23) <| pc (h24) <| pc (h31) <| pc (h32) <| pn)
            · obtain ⟨r33, h34, h⟩ := bind_out h
              injection h with h; subst h; exact runLp_sound mixedOrders (live := [1, 2, 3, 6, 7, 9, 10]) (ids := [0]) (π := [.dec true, .callv (.tup [.v (.int .i64 r19.1), .v (.bool r19.2)]), .callv (.v (.bool r21)), .dec true, .dec false, .dec true, .dec false, .callv (.v (.int .i64 r33))]) (hx := by kernel_rfl) (hps := pc (h18) <| pc (k_route_Lookup h20) <| pc (k_slices_ContainsFunc_Irb_Address_1 h22) <| pc (h23) <| pc (h24) <| pc (h31) <| pc (h32) <| pc (k_choose_past h34) <| pn)
          · obtain ⟨r35, h36, h⟩ := bind_out h
            injection h with h; subst h; exact runLp_sound mixedOrders (live := [1, 2, 3, 6, 7, 9, 10]) (ids := [0]) (π := [.dec true, .callv (.tup [.v (.int .i64 r19.1), .v (.bool r19.2)]), .callv (.v (.bool r21)), .dec true, .dec false, .dec false, .callv (.v (.int .i64 r35))]) (hx := by kernel_rfl) (hps := pc (h18) <| pc (k_route_Lookup h20) <| pc (k_slices_ContainsFunc_Irb_Address_1 h22) <| pc (h23) <| pc (h24) <| pc (h31) <| pc (k_choose_past h36) <| pn)
      · rcases ite_out h with ⟨h37, h⟩ | ⟨h37, h⟩
        · rcases ite_out h with ⟨h38, h⟩ | ⟨h38, h⟩
          · injection h with h; subst h; exact runLp_sound mixedOrders (live := [6, 7]) (ids := []) (π := [.dec true, .callv (.tup [.v (.int .i64 r19.1), .v (.bool r19.2)]), .callv (.v (.bool r21)), .dec false, .dec true, .dec true]) (hx := by kernel_rfl) (hps := pc (h18) <| pc (k_route_Lookup h20) <| pc (k_slices_ContainsFunc_Irb_Address_1 h22) <| pc (h23) <| pc (h37) <| pc (h38) <| pn)
          · obtain ⟨r39, h40, h⟩ := bind_out h
            injection h with h; subst h; exact runLp_sound mixedOrders (live := [1, 2, 3, 6, 7, 9, 10]) (ids := [0]) (π := [.dec true, .callv (.tup [.v (.int .i64 r19.1), .v (.bool r19.2)]), .callv (.v (.bool r21)), .dec false, .dec true, .dec false, .callv (.v (.int .i64 r39))]) (hx := by kernel_rfl) (hps := pc (h18) <| pc (k_route_Lookup h20) <| pc (k_slices_ContainsFunc_Irb_Address_1 h22) <| pc (h23) <| pc (h37) <| pc (h38) <| pc (k_choose_past h40) <| pn)
        · obtain ⟨r41, h42, h⟩ := bind_out h
          injection h with h; subst h; exact runLp_sound mixedOrders (live := [1, 2, 3, 6, 7, 9, 10]) (ids := [0]) (π := [.dec true, .callv (.tup [.v (.int .i64 r19.1), .v (.bool r19.2)]), .callv (.v (.bool r21)), .dec false, .dec false, .callv (.v (.int .i64 r41))]) (hx := by kernel_rfl) (hps := pc (h18) <| pc (k_route_Lookup h20) <| pc (k_slices_ContainsFunc_Irb_Address_1 h22) <| pc (h23) <| pc (h37) <| pc (k_choose_past h42) <| pn)
    · injection h with h; subst h; exact runLp_sound mixedOrders (live := [6, 7]) (ids := []) (π := [.dec false]) (hx := by kernel_rfl) (hps := pc (h18) <| pn)
  · rcases r with _ | _ <;> exact Ex.noConfusion

theorem k_choose_Address {a1 : Api_Net} {a2 : Int} {a3 : Int} {r : Int × Bool} (h : choose_Address a1 a2 a3 = some r) :
    CallsOK Try.prog UU 34 [.agg (c31 a1), .v (.int .i64 a2), .v (.int .i64 a3)] [] (.tup [.v (.int .u32 r.1), .v (.bool r.2)]) [] := by
  unfold choose_Address at h
  rcases ite_out h with ⟨h4, h⟩ | ⟨h4, h⟩
  · injection h with h; subst h; exact runFn_sound mixedOrders Try.func34 rfl (keep := none) (π := [.dec true]) (hrun := by kernel_rfl) (hps := pc (h4) <| pn)
  · rcases ite_out h with ⟨h5, h⟩ | ⟨h5, h⟩
    · injection h with h; subst h; exact runFn_sound mixedOrders Try.func34 rfl (keep := none) (π := [.dec false, .dec true]) (hrun := by kernel_rfl) (hps := pc (h4) <| pc (h5) <| pn)
    · rcases ite_out h with ⟨h6, h⟩ | ⟨h6, h⟩
      · injection h with h; subst h; exact runFn_sound mixedOrders Try.func34 rfl (keep := none) (π := [.dec false, .dec false, .dec true]) (hrun := by kernel_rfl) (hps := pc (h4) <| pc (h5) <| pc (h6) <| pn)
      · rcases ite_out h with ⟨h7, h⟩ | ⟨h7, h⟩
        · injection h with h; subst h; exact runFn_sound mixedOrders Try.func34 rfl (keep := none) (π := [.dec false, .dec false, .dec false, .dec true]) (hrun := by kernel_rfl) (hps := pc (h4) <| pc (h5) <| pc (h6) <| pc (h7) <| pn)
        · obtain ⟨r8, h9, h⟩ := bind_out h
          rcases ite_out h with ⟨h10, h⟩ | ⟨h10, h⟩
          · injection h with h; subst h; exact runFn_sound mixedOrders Try.func34 rfl (keep := none) (π := [.dec false, .dec false, .dec false, .dec false, .callv (.v (.bool r8)), .dec true]) (hrun := by kernel_rfl) (hps := pc (h4) <| pc (h5) <| pc (h6) <| pc (h7) <| pc (k_names_Right h9) <| pc (h10) <| pn)
          · obtain ⟨x11, h12, h⟩ := bind_out h
            obtain ⟨r13, h14, h⟩ := bind_out h
            obtain ⟨r15, h16, h⟩ := bind_out h
            obtain ⟨r46, h45, h⟩ := bind_out h
            rcases r46 with v44 | _
            · injection h with h; subst h; exact runFn_sound mixedOrders Try.func34 rfl (keep := none) (π := [.dec false, .dec false, .dec false, .dec false, .callv (.v (.bool r8)), .dec false, .row (c74 x11), .callv (.v (.int .u32 r13)), .callv (.v (.int .u32 r15)), .sum [1, 2, 3, 6, 7, 9, 10] [0] .ret [(6, .v (.int .u32 v44)), (7, .v (.bool true))] []]) (hrun := by kernel_rfl) (hps := pc (h4) <| pc (h5) <| pc (h6) <| pc (h7) <| pc (k_names_Right h9) <| pc (h10) <| pc (ob74 h12) <| pc (k_addr_First h14) <| pc (k_addr_Last h16) <| pc (k_choose_Address_L1 _ _ h45) <| pn)
            · injection h with h; subst h; exact runFn_sound mixedOrders Try.func34 rfl (keep := none) (π := [.dec false, .dec false, .dec false, .dec false, .callv (.v (.bool r8)), .dec false, .row (c74 x11), .callv (.v (.int .u32 r13)), .callv (.v (.int .u32 r15)), .sum [1, 2, 3, 6, 7, 9, 10] [0] (.exit 0) [(6, .v (.int .u32 0)), (7, .v (.bool false))] []]) (hrun := by kernel_rfl) (hps := pc (h4) <| pc (h5) <| pc (h6) <| pc (h7) <| pc (k_names_Right h9) <| pc (h10) <| pc (ob74 h12) <| pc (k_addr_First h14) <| pc (k_addr_Last h16) <| pc (k_choose_Address_L1 _ _ h45) <| pn)

theorem k_choose_Routes_L1 {a1 : Api_Net} {a2 : Int} : LoopOK Try.prog UU 0 64 (subC (codeOf Try.f35) [1, 1, 1, 0, 1, 0, 0]) (fun s : (List Choose_Lead) × Int => match s with | (l11, v12) => choose_Routes_L1 a1 a2 l11 v12)
    (fun s : (List Choose_Lead) × Int => (match s with | (l11, v12) => [(1, .v (.int .i64 a2)), (2, .op 0 1 0 0), (4, .os 1 0), (5, .os 2 (List.length l11)), (34, .sl 74 a1.irbs), (35, .v (.int .i64 (a1.irbs.length : Int))), (36, .v (.int .i64 v12))] : Fr DD)) (fun s : (List Choose_Lead) × Int => (match s with | (l11, v12) => [.box 31 (c31 a1) false, .arr 69 [] 0 false, .arr 69 l11 (List.length l11) false] : Heap DD)) (fun r => match r with | l24 => .exit 0) (fun r => match r with | l24 => [(4, .os 0 0), (5, .os 1 (List.length l24))]) (fun r => match r with | l24 => [.arr 69 [] 0 false, .arr 69 l24 (List.length l24) false]) := by
  refine loop_sound3 (fun s q h => ?_) (fun r => ?_)
  · obtain ⟨l11, v12⟩ := s; replace h : choose_Routes_L1 a1 a2 l11 v12 = some q := h
    unfold choose_Routes_L1 at h
    rcases ite_out h with ⟨h13, h⟩ | ⟨h13, h⟩
    · obtain ⟨x14, h15, h⟩ := bind_out h
      obtain ⟨x16, h17, h⟩ := bind_out h
      obtain ⟨r18, h19, h⟩ := bind_out h
      rcases ite_out h with ⟨h20, h⟩ | ⟨h20, h⟩
      · rcases ite_out h with ⟨h21, h⟩ | ⟨h21, h⟩
        · injection h with h; subst h; exact runLp_sound mixedOrders (live := [1, 2, 4, 5, 34, 35, 36]) (ids := [0, 1, 2]) (π := [.dec true, .row (c74 x14), .row (c56 x16), .callv (.tup [.v (.int .u32 r18.1), .v (.bool r18.2)]), .dec true, .obj [] (.arr 69 [(⟨v12, x14.domain, r18.1⟩ : Choose_Lead)] (List.length [(⟨v12, x14.domain, r18.1⟩ : Choose_Lead)]) false), .obj [4] (.arr 69 (l11 ++ [(⟨v12, x14.domain, r18.1⟩ : Choose_Lead)]) (List.length (l11 ++ [(⟨v12, x14.domain, r18.1⟩ : Choose_Lead)])) false)]) (hx := by kernel_rfl) (hps := pc (h13) <| pc (ob74 h15) <| pc (ob56 h17) <| pc (k_choose_Address h19) <| pc (h20) <| pc (bs_ob 69 [(⟨v12, x14.domain, r18.1⟩ : Choose_Lead)]) <| pc (app_ob 69 (n := (List.length l11)) (l := l11) (xs := [(⟨v12, x14.domain, r18.1⟩ : Choose_Lead)]) h21) <| pc ((rfl : ((List.length [(⟨v12, x14.domain, r18.1⟩ : Choose_Lead)]) : Nat) = (List.length [(⟨v12, x14.domain, r18.1⟩ : Choose_Lead)]))) <| pn)
        · cases h
      · injection h with h; subst h; exact runLp_sound mixedOrders (live := [1, 2, 4, 5, 34, 35, 36]) (ids := [0, 1, 2]) (π := [.dec true, .row (c74 x14), .row (c56 x16), .callv (.tup [.v (.int .u32 r18.1), .v (.bool r18.2)]), .dec false]) (hx := by kernel_rfl) (hps := pc (h13) <| pc (ob74 h15) <| pc (ob56 h17) <| pc (k_choose_Address h19) <| pc (h20) <| pn)
    · injection h with h; subst h; exact runLp_sound mixedOrders (live := [4, 5]) (ids := [1, 2]) (π := [.dec false]) (hx := by kernel_rfl) (hps := pc (h13) <| pn)
  · exact Ex.noConfusion

theorem k_choose_Routes {a1 : Api_Net} {a2 : Int} {r : (List Choose_Lead)} (h : choose_Routes a1 a2 = some r) :
    CallsOK Try.prog UU 35 [.agg (c31 a1), .v (.int .i64 a2)] [] (.sl 69 r) [] := by
  unfold choose_Routes at h
  rcases ite_out h with ⟨h3, h⟩ | ⟨h3, h⟩
  · injection h with h; subst h; exact runFn_sound mixedOrders Try.func35 rfl (keep := none) (π := [.dec true]) (hrun := by kernel_rfl) (hps := pc (h3) <| pc ((rfl : (0 : Nat) = 0)) <| pn)
  · rcases ite_out h with ⟨h4, h⟩ | ⟨h4, h⟩
    · injection h with h; subst h; exact runFn_sound mixedOrders Try.func35 rfl (keep := none) (π := [.dec false, .dec true]) (hrun := by kernel_rfl) (hps := pc (h3) <| pc (h4) <| pc ((rfl : (0 : Nat) = 0)) <| pn)
    · obtain ⟨x5, h6, h⟩ := bind_out h
      rcases ite_out h with ⟨h7, h⟩ | ⟨h7, h⟩
      · injection h with h; subst h; exact runFn_sound mixedOrders Try.func35 rfl (keep := none) (π := [.dec false, .dec false, .row (c56 x5), .dec true]) (hrun := by kernel_rfl) (hps := pc (h3) <| pc (h4) <| pc (ob56 h6) <| pc (h7) <| pc ((rfl : (0 : Nat) = 0)) <| pn)
      · obtain ⟨r8, h9, h⟩ := bind_out h
        rcases ite_out h with ⟨h10, h⟩ | ⟨h10, h⟩
        · injection h with h; subst h; exact runFn_sound mixedOrders Try.func35 rfl (keep := none) (π := [.dec false, .dec false, .row (c56 x5), .dec false, .callv (.v (.bool r8)), .dec true]) (hrun := by kernel_rfl) (hps := pc (h3) <| pc (h4) <| pc (ob56 h6) <| pc (h7) <| pc (k_names_Right h9) <| pc (h10) <| pc ((rfl : (0 : Nat) = 0)) <| pn)
        · obtain ⟨l24, h25, h⟩ := bind_out h
          injection h with h; subst h; exact runFn_sound mixedOrders Try.func35 rfl (keep := none) (π := [.dec false, .dec false, .row (c56 x5), .dec false, .callv (.v (.bool r8)), .dec false, .sum [1, 2, 4, 5, 34, 35, 36] [0, 1, 2] (.exit 0) [(4, .os 0 0), (5, .os 1 (List.length l24))] [.arr 69 [] 0 false, .arr 69 l24 (List.length l24) false]]) (hrun := by kernel_rfl) (hps := pc (h3) <| pc (h4) <| pc (ob56 h6) <| pc (h7) <| pc (k_names_Right h9) <| pc (h10) <| pc (k_choose_Routes_L1 _ _ h25) <| pc ((rfl : ((List.length l24) : Nat) = (List.length l24))) <| pn)

end Go.Eng
