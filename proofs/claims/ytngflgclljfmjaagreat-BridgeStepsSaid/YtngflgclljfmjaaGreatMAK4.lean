/- Part of the proof of BridgeSteps: printed mirrors of the functions, or their contracts. No conditions. -/
import Derived.Test.YtngflgclljfmjaaGreatMAK3
set_option linter.unusedVariables false
set_option maxRecDepth 100000
namespace Go.Eng
open Go Go.Proofs
theorem k_palingref15_domains_L1 {a1 : Api_Net} : LoopOK Tryz.prog UU 0 120 (subC (codeOf Tryz.f62) [1, 0, 1, 0, 0]) (ρ := Unit ⊕ Unit) (palingref15_domains_L1 a1)
    (fun v2 : Int => ([(1, .op 0 1 0 0), (2, .v (.bool false)), (3, .j v2)] : Fr DD)) (fun v2 : Int => ([.box 31 (c31 a1) false] : Heap DD)) (fun r => match r with | Sum.inl _ => .ret | Sum.inr _ => .exit 0) (fun r => match r with | Sum.inl _ => [(2, .v (.bool false))] | Sum.inr _ => [(1, .op 0 1 0 0), (2, .v (.bool false))]) (fun r => match r with | Sum.inl _ => [] | Sum.inr _ => [.box 31 (c31 a1) false]) := by
  refine loop_sound3 (fun s q h => ?_) (fun r => ?_)
  · replace h : palingref15_domains_L1 a1 s = some q := h; revert h; revert s; intro v2 h
    unfold palingref15_domains_L1 at h
    obtain ⟨h3, h⟩|⟨h3, h⟩ := ite_out h
    · obtain ⟨x4, h5, h⟩ := bo h
      obtain ⟨r6, h7, h⟩ := bo h
      obtain ⟨h8, h⟩|⟨h8, h⟩ := ite_out h
      · injection h with h; subst h; exact rl [2] [] [.t, .row (c93 x4), .b r6, .t] (pc h3<|pc (ob93 h5)<|pc (k_palingref15_Place h7)<|pc h8<|pn)
      · obtain ⟨h9, h⟩|⟨h9, h⟩ := ite_out h
        · injection h with h; subst h; exact rl [2] [] [.t, .row (c93 x4), .b r6, .f, .t] (pc h3<|pc (ob93 h5)<|pc (k_palingref15_Place h7)<|pc h8<|pc h9<|pn)
        · obtain ⟨h10, h⟩|⟨h10, h⟩ := ite_out h
          · injection h with h; subst h; exact rl [2] [] [.t, .row (c93 x4), .b r6, .f, .f, .t] (pc h3<|pc (ob93 h5)<|pc (k_palingref15_Place h7)<|pc h8<|pc h9<|pc h10<|pn)
          · obtain ⟨h11, h⟩|⟨h11, h⟩ := ite_out h
            · injection h with h; subst h; exact rl [2] [] [.t, .row (c93 x4), .b r6, .f, .f, .f, .t] (pc h3<|pc (ob93 h5)<|pc (k_palingref15_Place h7)<|pc h8<|pc h9<|pc h10<|pc h11<|pn)
            · obtain ⟨h12, h⟩|⟨h12, h⟩ := ite_out h
              · injection h with h; subst h; exact rl [2] [] [.t, .row (c93 x4), .b r6, .f, .f, .f, .f, .t] (pc h3<|pc (ob93 h5)<|pc (k_palingref15_Place h7)<|pc h8<|pc h9<|pc h10<|pc h11<|pc h12<|pn)
              · obtain ⟨r13, h14, h⟩ := bo h
                obtain ⟨h15, h⟩|⟨h15, h⟩ := ite_out h
                · injection h with h; subst h; exact rl [2] [] [.t, .row (c93 x4), .b r6, .f, .f, .f, .f, .f, .callv (.j r13), .t] (pc h3<|pc (ob93 h5)<|pc (k_palingref15_Place h7)<|pc h8<|pc h9<|pc h10<|pc h11<|pc h12<|pc (k_palingref15_At h14)<|pc h15<|pn)
                · obtain ⟨h16, h⟩|⟨h16, h⟩ := ite_out h
                  · obtain ⟨r17, h18, h⟩ := bo h
                    obtain ⟨h19, h⟩|⟨h19, h⟩ := ite_out h
                    · injection h with h; subst h; exact rl [2] [] [.t, .row (c93 x4), .b r6, .f, .f, .f, .f, .f, .callv (.j r13), .f, .t, .b r17, .t] (pc h3<|pc (ob93 h5)<|pc (k_palingref15_Place h7)<|pc h8<|pc h9<|pc h10<|pc h11<|pc h12<|pc (k_palingref15_At h14)<|pc h15<|pc h16<|pc (k_palingref15_Place h18)<|pc h19<|pn)
                    · obtain ⟨x20, h21, h⟩ := bo h
                      obtain ⟨h22, h⟩|⟨h22, h⟩ := ite_out h
                      · injection h with h; subst h; exact rl [2] [] [.t, .row (c93 x4), .b r6, .f, .f, .f, .f, .f, .callv (.j r13), .f, .t, .b r17, .f, .row (c118 x20), .t] (pc h3<|pc (ob93 h5)<|pc (k_palingref15_Place h7)<|pc h8<|pc h9<|pc h10<|pc h11<|pc h12<|pc (k_palingref15_At h14)<|pc h15<|pc h16<|pc (k_palingref15_Place h18)<|pc h19<|pc (ob118 h21)<|pc h22<|pn)
                      · injection h with h; subst h; exact rl [1, 2, 3] [0] [.t, .row (c93 x4), .b r6, .f, .f, .f, .f, .f, .callv (.j r13), .f, .t, .b r17, .f, .row (c118 x20), .f] (pc h3<|pc (ob93 h5)<|pc (k_palingref15_Place h7)<|pc h8<|pc h9<|pc h10<|pc h11<|pc h12<|pc (k_palingref15_At h14)<|pc h15<|pc h16<|pc (k_palingref15_Place h18)<|pc h19<|pc (ob118 h21)<|pc h22<|pn)
                  · injection h with h; subst h; exact rl [1, 2, 3] [0] [.t, .row (c93 x4), .b r6, .f, .f, .f, .f, .f, .callv (.j r13), .f, .f] (pc h3<|pc (ob93 h5)<|pc (k_palingref15_Place h7)<|pc h8<|pc h9<|pc h10<|pc h11<|pc h12<|pc (k_palingref15_At h14)<|pc h15<|pc h16<|pn)
    · injection h with h; subst h; exact rl [1, 2] [0] [.f] (pc h3<|pn)
  · rcases r with _ | _ <;> exact Ex.noConfusion

theorem k_palingref15_domains_L3 {a1 : Api_Net} {v25 : Int} {x27 : Api_Domain} : LoopOK Tryz.prog UU 0 120 (subC (codeOf Tryz.f62) [1, 1, 0, 1, 0, 0, 1, 0, 0, 1, 1, 0, 0]) (ρ := Unit ⊕ Unit) (palingref15_domains_L3 a1 v25 x27)
    (fun v29 : Int => ([(1, .op 0 1 0 0), (2, .v (.bool false)), (5, .j v25), (6, .op 1 1 0 0), (7, .j v29)] : Fr DD)) (fun v29 : Int => ([.box 31 (c31 a1) false, .box 93 (c93 x27) false] : Heap DD)) (fun r => match r with | Sum.inl _ => .ret | Sum.inr _ => .exit 4) (fun r => match r with | Sum.inl _ => [(2, .v (.bool false))] | Sum.inr _ => [(1, .op 0 1 0 0), (2, .v (.bool false)), (5, .j v25)]) (fun r => match r with | Sum.inl _ => [] | Sum.inr _ => [.box 31 (c31 a1) false]) := by
  refine loop_sound3 (fun s q h => ?_) (fun r => ?_)
  · replace h : palingref15_domains_L3 a1 v25 x27 s = some q := h; revert h; revert s; intro v29 h
    unfold palingref15_domains_L3 at h
    obtain ⟨h30, h⟩|⟨h30, h⟩ := ite_out h
    · obtain ⟨x31, h32, h⟩ := bo h
      obtain ⟨r33, h34, h⟩ := bo h
      obtain ⟨h35, h⟩|⟨h35, h⟩ := ite_out h
      · injection h with h; subst h; exact rl [2] [] [.t, .row (c3 x31), .b r33, .t] (pc h30<|pc (ob3 h32)<|pc (k_palingref15_peer h34)<|pc h35<|pn)
      · obtain ⟨h36, h⟩|⟨h36, h⟩ := ite_out h
        · obtain ⟨x37, h38, h⟩ := bo h
          obtain ⟨r39, h40, h⟩ := bo h
          obtain ⟨h41, h⟩|⟨h41, h⟩ := ite_out h
          · injection h with h; subst h; exact rl [2] [] [.t, .row (c3 x31), .b r33, .f, .row (c3 x37), .b r39, .t] (pc h30<|pc (ob3 h32)<|pc (k_palingref15_peer h34)<|pc h35<|pc (sl_ob h36)<|pc (ob3 h38)<|pc (k_palingref15_In h40)<|pc h41<|pn)
          · injection h with h; subst h; exact rl [1, 2, 5, 6, 7] [0, 1] [.t, .row (c3 x31), .b r33, .f, .row (c3 x37), .b r39, .f] (pc h30<|pc (ob3 h32)<|pc (k_palingref15_peer h34)<|pc h35<|pc (sl_ob h36)<|pc (ob3 h38)<|pc (k_palingref15_In h40)<|pc h41<|pn)
        · cases h
    · injection h with h; subst h; exact rl [1, 2, 5] [0] [.f] (pc h30<|pn)
  · rcases r with _ | _ <;> exact Ex.noConfusion

theorem k_palingref15_domains_L2 {a1 : Api_Net} : LoopOK Tryz.prog UU 0 120 (subC (codeOf Tryz.f62) [1, 1, 0, 1, 0, 0]) (ρ := Unit ⊕ Unit) (palingref15_domains_L2 a1)
    (fun v25 : Int => ([(1, .op 0 1 0 0), (2, .v (.bool false)), (5, .j v25)] : Fr DD)) (fun v25 : Int => ([.box 31 (c31 a1) false] : Heap DD)) (fun r => match r with | Sum.inl _ => .ret | Sum.inr _ => .exit 2) (fun r => match r with | Sum.inl _ => [(2, .v (.bool false))] | Sum.inr _ => [(2, .v (.bool false))]) (fun r => match r with | Sum.inl _ => [] | Sum.inr _ => []) := by
  refine loop_sound3 (fun s q h => ?_) (fun r => ?_)
  · replace h : palingref15_domains_L2 a1 s = some q := h; revert h; revert s; intro v25 h
    unfold palingref15_domains_L2 at h
    obtain ⟨h26, h⟩|⟨h26, h⟩ := ite_out h
    · obtain ⟨x27, h28, h⟩ := bo h
      obtain ⟨r43, h42, h⟩ := bo h
      rcases r43 with _ | _
      · injection h with h; subst h; exact rl [2] [] [.t, .row (c93 x27), .sum [1, 2, 5, 6, 7] [0, 2] .ret [(2, .v (.bool false))] []] (pc h26<|pc (ob93 h28)<|pc (k_palingref15_domains_L3 _ _ h42)<|pn)
      · injection h with h; subst h; exact rl [1, 2, 5] [0] [.t, .row (c93 x27), .sum [1, 2, 5, 6, 7] [0, 2] (.exit 4) [(1, .op 0 1 0 0), (2, .v (.bool false)), (5, .j v25)] [.box 31 (c31 a1) false]] (pc h26<|pc (ob93 h28)<|pc (k_palingref15_domains_L3 _ _ h42)<|pn)
    · injection h with h; subst h; exact rl [2] [] [.f] (pc h26<|pn)
  · rcases r with _ | _ <;> exact Ex.noConfusion

theorem k_palingref15_domains {a1 : Api_Net} {r : Bool} (h : palingref15_domains a1 = some r) :
    CallsOK Tryz.prog UU 62 [.agg (c31 a1)] [] (.v (.bool r)) [] := by
  unfold palingref15_domains at h
  obtain ⟨r24, h23, h⟩ := bo h
  rcases r24 with _ | _
  · injection h with h; subst h; exact rf Tryz.func62 none [.sum [1, 2, 3] [0] .ret [(2, .v (.bool false))] []] (pc (k_palingref15_domains_L1 _ _ h23)<|pn)
  · obtain ⟨r45, h44, h⟩ := bo h
    rcases r45 with _ | _
    · injection h with h; subst h; exact rf Tryz.func62 none [.sum [1, 2, 3] [0] (.exit 0) [(1, .op 0 1 0 0), (2, .v (.bool false))] [.box 31 (c31 a1) false], .sum [1, 2, 5] [0] .ret [(2, .v (.bool false))] []] (pc (k_palingref15_domains_L1 _ _ h23)<|pc (k_palingref15_domains_L2 _ _ h44)<|pn)
    · injection h with h; subst h; exact rf Tryz.func62 none [.sum [1, 2, 3] [0] (.exit 0) [(1, .op 0 1 0 0), (2, .v (.bool false))] [.box 31 (c31 a1) false], .sum [1, 2, 5] [0] (.exit 2) [(2, .v (.bool false))] []] (pc (k_palingref15_domains_L1 _ _ h23)<|pc (k_palingref15_domains_L2 _ _ h44)<|pn)

theorem k_palingref03_Rising_L1 {a1 : List Int} {a2 : Int} {a3 : Int} : LoopOK Tryz.prog UU 0 52 (subC (codeOf Tryz.f220) [1, 1, 0, 1, 0, 0]) (ρ := Unit ⊕ Unit) (palingref03_Rising_L1 a1 a2 a3)
    (fun v6 : Int => ([(0, .sl 3 a1), (1, .j a2), (2, .j a3), (6, .v (.bool false)), (7, .j v6)] : Fr DD)) (fun v6 : Int => ([] : Heap DD)) (fun r => match r with | Sum.inl _ => .ret | Sum.inr _ => .exit 0) (fun r => match r with | Sum.inl _ => [(6, .v (.bool false))] | Sum.inr _ => [(6, .v (.bool false))]) (fun r => match r with | Sum.inl _ => [] | Sum.inr _ => []) := by
  refine loop_sound3 (fun s q h => ?_) (fun r => ?_)
  · replace h : palingref03_Rising_L1 a1 a2 a3 s = some q := h; revert h; revert s; intro v6 h
    unfold palingref03_Rising_L1 at h
    obtain ⟨h7, h⟩|⟨h7, h⟩ := ite_out h
    · obtain ⟨x8, h9, h⟩ := bo h
      obtain ⟨h10, h⟩|⟨h10, h⟩ := ite_out h
      · injection h with h; subst h; exact rl [6] [] [.t, .row (c3 x8), .t] (pc h7<|pc (ob3 h9)<|pc h10<|pn)
      · obtain ⟨x11, h12, h⟩ := bo h
        obtain ⟨h13, h⟩|⟨h13, h⟩ := ite_out h
        · injection h with h; subst h; exact rl [6] [] [.t, .row (c3 x8), .f, .row (c3 x11), .t] (pc h7<|pc (ob3 h9)<|pc h10<|pc (ob3 h12)<|pc h13<|pn)
        · obtain ⟨h14, h⟩|⟨h14, h⟩ := ite_out h
          · obtain ⟨x15, h16, h⟩ := bo h
            obtain ⟨x17, h18, h⟩ := bo h
            obtain ⟨h19, h⟩|⟨h19, h⟩ := ite_out h
            · injection h with h; subst h; exact rl [6] [] [.t, .row (c3 x8), .f, .row (c3 x11), .f, .t, .row (c3 x15), .row (c3 x17), .t] (pc h7<|pc (ob3 h9)<|pc h10<|pc (ob3 h12)<|pc h13<|pc h14<|pc (ob3 h16)<|pc (ob3 h18)<|pc h19<|pn)
            · injection h with h; subst h; exact rl [0, 1, 2, 6, 7] [] [.t, .row (c3 x8), .f, .row (c3 x11), .f, .t, .row (c3 x15), .row (c3 x17), .f] (pc h7<|pc (ob3 h9)<|pc h10<|pc (ob3 h12)<|pc h13<|pc h14<|pc (ob3 h16)<|pc (ob3 h18)<|pc h19<|pn)
          · injection h with h; subst h; exact rl [0, 1, 2, 6, 7] [] [.t, .row (c3 x8), .f, .row (c3 x11), .f, .f] (pc h7<|pc (ob3 h9)<|pc h10<|pc (ob3 h12)<|pc h13<|pc h14<|pn)
    · injection h with h; subst h; exact rl [6] [] [.f] (pc h7<|pn)
  · rcases r with _ | _ <;> exact Ex.noConfusion

theorem k_palingref03_Rising {a1 : List Int} {a2 : Int} {a3 : Int} {r : Bool} (h : palingref03_Rising a1 a2 a3 = some r) :
    CallsOK Tryz.prog UU 220 [.sl 3 a1, .j a2, .j a3] [] (.v (.bool r)) [] := by
  unfold palingref03_Rising at h
  obtain ⟨h4, h⟩|⟨h4, h⟩ := ite_out h
  · injection h with h; subst h; exact rf Tryz.func220 none [.t] (pc h4<|pn)
  · obtain ⟨h5, h⟩|⟨h5, h⟩ := ite_out h
    · injection h with h; subst h; exact rf Tryz.func220 none [.f, .t] (pc h4<|pc h5<|pn)
    · obtain ⟨r21, h20, h⟩ := bo h
      rcases r21 with _ | _
      · injection h with h; subst h; exact rf Tryz.func220 none [.f, .f, .sum [0, 1, 2, 6, 7] [] .ret [(6, .v (.bool false))] []] (pc h4<|pc h5<|pc (k_palingref03_Rising_L1 _ _ h20)<|pn)
      · injection h with h; subst h; exact rf Tryz.func220 none [.f, .f, .sum [0, 1, 2, 6, 7] [] (.exit 0) [(6, .v (.bool false))] []] (pc h4<|pc h5<|pc (k_palingref03_Rising_L1 _ _ h20)<|pn)

theorem k_palingref15_rising {a1 : List Int} {a2 : Int} {r : Bool} (h : palingref15_rising a1 a2 = some r) :
    CallsOK Tryz.prog UU 159 [.sl 3 a1, .j a2] [] (.v (.bool r)) [] := by
  unfold palingref15_rising at h
  obtain ⟨h3, h⟩|⟨h3, h⟩ := ite_out h
  · injection h with h; subst h; exact rf Tryz.func159 none [.t] (pc h3<|pn)
  · obtain ⟨r4, h5, h⟩ := bo h
    injection h with h; subst h; exact rf Tryz.func159 none [.f, .b r4] (pc h3<|pc (k_palingref03_Rising h5)<|pn)

theorem k_palingref15_ports_J2 {a1 : Api_Net} {v2 : Int} {x4 : Api_Port} {r : Unit ⊕ Unit} (h : palingref15_ports_J2 a1 v2 x4 = some r) :
    ExecOK Tryz.prog UU 0 120 (subC (codeOf Tryz.f63) [1, 0, 1, 0, 0, 1, 0, 0, 1, 1, 0]) [(1, .op 0 1 0 0), (2, .v (.bool false)), (3, .j v2), (4, .op 1 1 0 0)] [.box 31 (c31 a1) false, .box 56 (c56 x4) false] ((fun r => match r with | Sum.inl _ => .ret | Sum.inr _ => .nor) r) ((fun r => match r with | Sum.inl _ => [(2, .v (.bool false))] | Sum.inr _ => [(1, .op 0 1 0 0), (2, .v (.bool false)), (3, .j v2), (4, .op 1 1 0 0)]) r) ((fun r => match r with | Sum.inl _ => [] | Sum.inr _ => [.box 31 (c31 a1) false, .box 56 (c56 x4) false]) r) := by
  unfold palingref15_ports_J2 at h
  obtain ⟨h17, h⟩|⟨h17, h⟩ := ite_out h
  · obtain ⟨h18, h⟩|⟨h18, h⟩ := ite_out h
    · injection h with h; subst h; exact rl [2] [] [.t, .t] (pc h17<|pc h18<|pn)
    · obtain ⟨h19, h⟩|⟨h19, h⟩ := ite_out h
      · obtain ⟨r20, h21, h⟩ := bo h
        obtain ⟨h22, h⟩|⟨h22, h⟩ := ite_out h
        · injection h with h; subst h; exact rl [2] [] [.t, .f, .t, .callv (.j r20), .t] (pc h17<|pc h18<|pc h19<|pc (k_palingref15_At h21)<|pc h22<|pn)
        · injection h with h; subst h; exact rl [1, 2, 3, 4] [0, 1] [.t, .f, .t, .callv (.j r20), .f] (pc h17<|pc h18<|pc h19<|pc (k_palingref15_At h21)<|pc h22<|pn)
      · injection h with h; subst h; exact rl [1, 2, 3, 4] [0, 1] [.t, .f, .f] (pc h17<|pc h18<|pc h19<|pn)
  · obtain ⟨h23, h⟩|⟨h23, h⟩ := ite_out h
    · obtain ⟨r24, h25, h⟩ := bo h
      obtain ⟨h26, h⟩|⟨h26, h⟩ := ite_out h
      · injection h with h; subst h; exact rl [2] [] [.f, .t, .callv (.j r24), .t] (pc h17<|pc h23<|pc (k_palingref15_At h25)<|pc h26<|pn)
      · injection h with h; subst h; exact rl [1, 2, 3, 4] [0, 1] [.f, .t, .callv (.j r24), .f] (pc h17<|pc h23<|pc (k_palingref15_At h25)<|pc h26<|pn)
    · injection h with h; subst h; exact rl [1, 2, 3, 4] [0, 1] [.f, .f] (pc h17<|pc h23<|pn)

theorem k_palingref15_ports_L3 {a1 : Api_Net} {v2 : Int} {x4 : Api_Port} : LoopOK Tryz.prog UU 0 120 (subC (codeOf Tryz.f63) [1, 0, 1, 0, 0, 1, 0, 0, 1, 1, 1, 0, 1, 0, 0]) (ρ := Unit ⊕ Unit) (palingref15_ports_L3 a1 v2 x4)
    (fun v29 : Int => ([(1, .op 0 1 0 0), (2, .v (.bool false)), (3, .j v2), (4, .op 1 1 0 0), (5, .j v29)] : Fr DD)) (fun v29 : Int => ([.box 31 (c31 a1) false, .box 56 (c56 x4) false] : Heap DD)) (fun r => match r with | Sum.inl _ => .ret | Sum.inr _ => .exit 2) (fun r => match r with | Sum.inl _ => [(2, .v (.bool false))] | Sum.inr _ => [(1, .op 0 1 0 0), (2, .v (.bool false)), (3, .j v2), (4, .op 1 1 0 0)]) (fun r => match r with | Sum.inl _ => [] | Sum.inr _ => [.box 31 (c31 a1) false, .box 56 (c56 x4) false]) := by
  refine loop_sound3 (fun s q h => ?_) (fun r => ?_)
  · replace h : palingref15_ports_L3 a1 v2 x4 s = some q := h; revert h; revert s; intro v29 h
    unfold palingref15_ports_L3 at h
    obtain ⟨h30, h⟩|⟨h30, h⟩ := ite_out h
    · obtain ⟨x31, h32, h⟩ := bo h
      obtain ⟨r33, h34, h⟩ := bo h
      obtain ⟨h35, h⟩|⟨h35, h⟩ := ite_out h
      · injection h with h; subst h; exact rl [2] [] [.t, .row (c3 x31), .callv (.j r33), .t] (pc h30<|pc (ob3 h32)<|pc (k_palingref15_At h34)<|pc h35<|pn)
      · injection h with h; subst h; exact rl [1, 2, 3, 4, 5] [0, 1] [.t, .row (c3 x31), .callv (.j r33), .f] (pc h30<|pc (ob3 h32)<|pc (k_palingref15_At h34)<|pc h35<|pn)
    · injection h with h; subst h; exact rl [1, 2, 3, 4] [0, 1] [.f] (pc h30<|pn)
  · rcases r with _ | _ <;> exact Ex.noConfusion

theorem k_palingref15_ports_L1 {a1 : Api_Net} : LoopOK Tryz.prog UU 0 120 (subC (codeOf Tryz.f63) [1, 0, 1, 0, 0]) (ρ := Unit ⊕ Unit) (palingref15_ports_L1 a1)
    (fun v2 : Int => ([(1, .op 0 1 0 0), (2, .v (.bool false)), (3, .j v2)] : Fr DD)) (fun v2 : Int => ([.box 31 (c31 a1) false] : Heap DD)) (fun r => match r with | Sum.inl _ => .ret | Sum.inr _ => .exit 0) (fun r => match r with | Sum.inl _ => [(2, .v (.bool false))] | Sum.inr _ => [(2, .v (.bool false))]) (fun r => match r with | Sum.inl _ => [] | Sum.inr _ => []) := by
  refine loop_sound3 (fun s q h => ?_) (fun r => ?_)
  · replace h : palingref15_ports_L1 a1 s = some q := h; revert h; revert s; intro v2 h
    unfold palingref15_ports_L1 at h
    obtain ⟨h3, h⟩|⟨h3, h⟩ := ite_out h
    · obtain ⟨x4, h5, h⟩ := bo h
      obtain ⟨r6, h7, h⟩ := bo h
      obtain ⟨h8, h⟩|⟨h8, h⟩ := ite_out h
      · injection h with h; subst h; exact rl [2] [] [.t, .row (c56 x4), .b r6, .t] (pc h3<|pc (ob56 h5)<|pc (k_palingref15_Place h7)<|pc h8<|pn)
      · obtain ⟨h9, h⟩|⟨h9, h⟩ := ite_out h
        · injection h with h; subst h; exact rl [2] [] [.t, .row (c56 x4), .b r6, .f, .t] (pc h3<|pc (ob56 h5)<|pc (k_palingref15_Place h7)<|pc h8<|pc h9<|pn)
        · obtain ⟨h10, h⟩|⟨h10, h⟩ := ite_out h
          · injection h with h; subst h; exact rl [2] [] [.t, .row (c56 x4), .b r6, .f, .f, .t] (pc h3<|pc (ob56 h5)<|pc (k_palingref15_Place h7)<|pc h8<|pc h9<|pc h10<|pn)
          · obtain ⟨r11, h12, h⟩ := bo h
            obtain ⟨h13, h⟩|⟨h13, h⟩ := ite_out h
            · injection h with h; subst h; exact rl [2] [] [.t, .row (c56 x4), .b r6, .f, .f, .f, .b r11, .t] (pc h3<|pc (ob56 h5)<|pc (k_palingref15_Place h7)<|pc h8<|pc h9<|pc h10<|pc (k_palingref15_rising h12)<|pc h13<|pn)
            · obtain ⟨r14, h15, h⟩ := bo h
              obtain ⟨h16, h⟩|⟨h16, h⟩ := ite_out h
              · injection h with h; subst h; exact rl [2] [] [.t, .row (c56 x4), .b r6, .f, .f, .f, .b r11, .f, .b r14, .t] (pc h3<|pc (ob56 h5)<|pc (k_palingref15_Place h7)<|pc h8<|pc h9<|pc h10<|pc (k_palingref15_rising h12)<|pc h13<|pc (k_palingref15_In h15)<|pc h16<|pn)
              · obtain ⟨r28, h27, h⟩ := bo h
                rcases r28 with _ | _
                · injection h with h; subst h; exact rl [2] [] [.t, .row (c56 x4), .b r6, .f, .f, .f, .b r11, .f, .b r14, .f, .cut [1, 2, 3, 4] [0, 2] .ret [(2, .v (.bool false))] []] (pc h3<|pc (ob56 h5)<|pc (k_palingref15_Place h7)<|pc h8<|pc h9<|pc h10<|pc (k_palingref15_rising h12)<|pc h13<|pc (k_palingref15_In h15)<|pc h16<|pc (k_palingref15_ports_J2 h27)<|pn)
                · obtain ⟨r37, h36, h⟩ := bo h
                  rcases r37 with _ | _
                  · injection h with h; subst h; exact rl [2] [] [.t, .row (c56 x4), .b r6, .f, .f, .f, .b r11, .f, .b r14, .f, .cut [1, 2, 3, 4] [0, 2] .nor [(1, .op 0 1 0 0), (2, .v (.bool false)), (3, .j v2), (4, .op 1 1 0 0)] [.box 31 (c31 a1) false, .box 56 (c56 x4) false], .sum [1, 2, 3, 4, 5] [0, 1] .ret [(2, .v (.bool false))] []] (pc h3<|pc (ob56 h5)<|pc (k_palingref15_Place h7)<|pc h8<|pc h9<|pc h10<|pc (k_palingref15_rising h12)<|pc h13<|pc (k_palingref15_In h15)<|pc h16<|pc (k_palingref15_ports_J2 h27)<|pc (k_palingref15_ports_L3 _ _ h36)<|pn)
                  · obtain ⟨h38, h⟩|⟨h38, h⟩ := ite_out h
                    · injection h with h; subst h; exact rl [1, 2, 3] [0] [.t, .row (c56 x4), .b r6, .f, .f, .f, .b r11, .f, .b r14, .f, .cut [1, 2, 3, 4] [0, 2] .nor [(1, .op 0 1 0 0), (2, .v (.bool false)), (3, .j v2), (4, .op 1 1 0 0)] [.box 31 (c31 a1) false, .box 56 (c56 x4) false], .sum [1, 2, 3, 4, 5] [0, 1] (.exit 2) [(1, .op 0 1 0 0), (2, .v (.bool false)), (3, .j v2), (4, .op 1 1 0 0)] [.box 31 (c31 a1) false, .box 56 (c56 x4) false], .t] (pc h3<|pc (ob56 h5)<|pc (k_palingref15_Place h7)<|pc h8<|pc h9<|pc h10<|pc (k_palingref15_rising h12)<|pc h13<|pc (k_palingref15_In h15)<|pc h16<|pc (k_palingref15_ports_J2 h27)<|pc (k_palingref15_ports_L3 _ _ h36)<|pc h38<|pn)
                    · obtain ⟨r39, h40, h⟩ := bo h
                      obtain ⟨h41, h⟩|⟨h41, h⟩ := ite_out h
                      · injection h with h; subst h; exact rl [2] [] [.t, .row (c56 x4), .b r6, .f, .f, .f, .b r11, .f, .b r14, .f, .cut [1, 2, 3, 4] [0, 2] .nor [(1, .op 0 1 0 0), (2, .v (.bool false)), (3, .j v2), (4, .op 1 1 0 0)] [.box 31 (c31 a1) false, .box 56 (c56 x4) false], .sum [1, 2, 3, 4, 5] [0, 1] (.exit 2) [(1, .op 0 1 0 0), (2, .v (.bool false)), (3, .j v2), (4, .op 1 1 0 0)] [.box 31 (c31 a1) false, .box 56 (c56 x4) false], .f, .b r39, .t] (pc h3<|pc (ob56 h5)<|pc (k_palingref15_Place h7)<|pc h8<|pc h9<|pc h10<|pc (k_palingref15_rising h12)<|pc h13<|pc (k_palingref15_In h15)<|pc h16<|pc (k_palingref15_ports_J2 h27)<|pc (k_palingref15_ports_L3 _ _ h36)<|pc h38<|pc (k_palingref15_Place h40)<|pc h41<|pn)
                      · obtain ⟨x42, h43, h⟩ := bo h
                        obtain ⟨h44, h⟩|⟨h44, h⟩ := ite_out h
                        · obtain ⟨x45, h46, h⟩ := bo h
                          obtain ⟨h47, h⟩|⟨h47, h⟩ := ite_out h
                          · injection h with h; subst h; exact rl [2] [] [.t, .row (c56 x4), .b r6, .f, .f, .f, .b r11, .f, .b r14, .f, .cut [1, 2, 3, 4] [0, 2] .nor [(1, .op 0 1 0 0), (2, .v (.bool false)), (3, .j v2), (4, .op 1 1 0 0)] [.box 31 (c31 a1) false, .box 56 (c56 x4) false], .sum [1, 2, 3, 4, 5] [0, 1] (.exit 2) [(1, .op 0 1 0 0), (2, .v (.bool false)), (3, .j v2), (4, .op 1 1 0 0)] [.box 31 (c31 a1) false, .box 56 (c56 x4) false], .f, .b r39, .f, .row (c112 x42), .t, .row (c112 x45), .t] (pc h3<|pc (ob56 h5)<|pc (k_palingref15_Place h7)<|pc h8<|pc h9<|pc h10<|pc (k_palingref15_rising h12)<|pc h13<|pc (k_palingref15_In h15)<|pc h16<|pc (k_palingref15_ports_J2 h27)<|pc (k_palingref15_ports_L3 _ _ h36)<|pc h38<|pc (k_palingref15_Place h40)<|pc h41<|pc (ob112 h43)<|pc h44<|pc (ob112 h46)<|pc h47<|pn)
                          · injection h with h; subst h; exact rl [1, 2, 3] [0] [.t, .row (c56 x4), .b r6, .f, .f, .f, .b r11, .f, .b r14, .f, .cut [1, 2, 3, 4] [0, 2] .nor [(1, .op 0 1 0 0), (2, .v (.bool false)), (3, .j v2), (4, .op 1 1 0 0)] [.box 31 (c31 a1) false, .box 56 (c56 x4) false], .sum [1, 2, 3, 4, 5] [0, 1] (.exit 2) [(1, .op 0 1 0 0), (2, .v (.bool false)), (3, .j v2), (4, .op 1 1 0 0)] [.box 31 (c31 a1) false, .box 56 (c56 x4) false], .f, .b r39, .f, .row (c112 x42), .t, .row (c112 x45), .f] (pc h3<|pc (ob56 h5)<|pc (k_palingref15_Place h7)<|pc h8<|pc h9<|pc h10<|pc (k_palingref15_rising h12)<|pc h13<|pc (k_palingref15_In h15)<|pc h16<|pc (k_palingref15_ports_J2 h27)<|pc (k_palingref15_ports_L3 _ _ h36)<|pc h38<|pc (k_palingref15_Place h40)<|pc h41<|pc (ob112 h43)<|pc h44<|pc (ob112 h46)<|pc h47<|pn)
                        · injection h with h; subst h; exact rl [1, 2, 3] [0] [.t, .row (c56 x4), .b r6, .f, .f, .f, .b r11, .f, .b r14, .f, .cut [1, 2, 3, 4] [0, 2] .nor [(1, .op 0 1 0 0), (2, .v (.bool false)), (3, .j v2), (4, .op 1 1 0 0)] [.box 31 (c31 a1) false, .box 56 (c56 x4) false], .sum [1, 2, 3, 4, 5] [0, 1] (.exit 2) [(1, .op 0 1 0 0), (2, .v (.bool false)), (3, .j v2), (4, .op 1 1 0 0)] [.box 31 (c31 a1) false, .box 56 (c56 x4) false], .f, .b r39, .f, .row (c112 x42), .f] (pc h3<|pc (ob56 h5)<|pc (k_palingref15_Place h7)<|pc h8<|pc h9<|pc h10<|pc (k_palingref15_rising h12)<|pc h13<|pc (k_palingref15_In h15)<|pc h16<|pc (k_palingref15_ports_J2 h27)<|pc (k_palingref15_ports_L3 _ _ h36)<|pc h38<|pc (k_palingref15_Place h40)<|pc h41<|pc (ob112 h43)<|pc h44<|pn)
    · injection h with h; subst h; exact rl [2] [] [.f] (pc h3<|pn)
  · rcases r with _ | _ <;> exact Ex.noConfusion

theorem k_palingref15_ports {a1 : Api_Net} {r : Bool} (h : palingref15_ports a1 = some r) :
    CallsOK Tryz.prog UU 63 [.agg (c31 a1)] [] (.v (.bool r)) [] := by
  unfold palingref15_ports at h
  obtain ⟨r49, h48, h⟩ := bo h
  rcases r49 with _ | _
  · injection h with h; subst h; exact rf Tryz.func63 none [.sum [1, 2, 3] [0] .ret [(2, .v (.bool false))] []] (pc (k_palingref15_ports_L1 _ _ h48)<|pn)
  · injection h with h; subst h; exact rf Tryz.func63 none [.sum [1, 2, 3] [0] (.exit 0) [(2, .v (.bool false))] []] (pc (k_palingref15_ports_L1 _ _ h48)<|pn)

theorem k_palingref15_links_L1 {a1 : Api_Net} : LoopOK Tryz.prog UU 0 70 (subC (codeOf Tryz.f64) [1, 0, 1, 0, 0]) (ρ := Unit ⊕ Unit) (palingref15_links_L1 a1)
    (fun v2 : Int => ([(1, .op 0 1 0 0), (2, .v (.bool false)), (3, .j v2)] : Fr DD)) (fun v2 : Int => ([.box 31 (c31 a1) false] : Heap DD)) (fun r => match r with | Sum.inl _ => .ret | Sum.inr _ => .exit 0) (fun r => match r with | Sum.inl _ => [(2, .v (.bool false))] | Sum.inr _ => [(2, .v (.bool false))]) (fun r => match r with | Sum.inl _ => [] | Sum.inr _ => []) := by
  refine loop_sound3 (fun s q h => ?_) (fun r => ?_)
  · replace h : palingref15_links_L1 a1 s = some q := h; revert h; revert s; intro v2 h
    unfold palingref15_links_L1 at h
    obtain ⟨h3, h⟩|⟨h3, h⟩ := ite_out h
    · obtain ⟨x4, h5, h⟩ := bo h
      obtain ⟨r6, h7, h⟩ := bo h
      obtain ⟨h8, h⟩|⟨h8, h⟩ := ite_out h
      · injection h with h; subst h; exact rl [2] [] [.t, .row (c112 x4), .b r6, .t] (pc h3<|pc (ob112 h5)<|pc (k_palingref15_Place h7)<|pc h8<|pn)
      · obtain ⟨r9, h10, h⟩ := bo h
        obtain ⟨h11, h⟩|⟨h11, h⟩ := ite_out h
        · injection h with h; subst h; exact rl [2] [] [.t, .row (c112 x4), .b r6, .f, .b r9, .t] (pc h3<|pc (ob112 h5)<|pc (k_palingref15_Place h7)<|pc h8<|pc (k_palingref15_Place h10)<|pc h11<|pn)
        · obtain ⟨x12, h13, h⟩ := bo h
          obtain ⟨x14, h15, h⟩ := bo h
          obtain ⟨h16, h⟩|⟨h16, h⟩ := ite_out h
          · injection h with h; subst h; exact rl [2] [] [.t, .row (c112 x4), .b r6, .f, .b r9, .f, .row (c56 x12), .row (c56 x14), .t] (pc h3<|pc (ob112 h5)<|pc (k_palingref15_Place h7)<|pc h8<|pc (k_palingref15_Place h10)<|pc h11<|pc (ob56 h13)<|pc (ob56 h15)<|pc h16<|pn)
          · obtain ⟨x17, h18, h⟩ := bo h
            obtain ⟨h19, h⟩|⟨h19, h⟩ := ite_out h
            · injection h with h; subst h; exact rl [2] [] [.t, .row (c112 x4), .b r6, .f, .b r9, .f, .row (c56 x12), .row (c56 x14), .f, .row (c56 x17), .t] (pc h3<|pc (ob112 h5)<|pc (k_palingref15_Place h7)<|pc h8<|pc (k_palingref15_Place h10)<|pc h11<|pc (ob56 h13)<|pc (ob56 h15)<|pc h16<|pc (ob56 h18)<|pc h19<|pn)
            · obtain ⟨x20, h21, h⟩ := bo h
              obtain ⟨h22, h⟩|⟨h22, h⟩ := ite_out h
              · injection h with h; subst h; exact rl [2] [] [.t, .row (c112 x4), .b r6, .f, .b r9, .f, .row (c56 x12), .row (c56 x14), .f, .row (c56 x17), .f, .row (c56 x20), .t] (pc h3<|pc (ob112 h5)<|pc (k_palingref15_Place h7)<|pc h8<|pc (k_palingref15_Place h10)<|pc h11<|pc (ob56 h13)<|pc (ob56 h15)<|pc h16<|pc (ob56 h18)<|pc h19<|pc (ob56 h21)<|pc h22<|pn)
              · injection h with h; subst h; exact rl [1, 2, 3] [0] [.t, .row (c112 x4), .b r6, .f, .b r9, .f, .row (c56 x12), .row (c56 x14), .f, .row (c56 x17), .f, .row (c56 x20), .f] (pc h3<|pc (ob112 h5)<|pc (k_palingref15_Place h7)<|pc h8<|pc (k_palingref15_Place h10)<|pc h11<|pc (ob56 h13)<|pc (ob56 h15)<|pc h16<|pc (ob56 h18)<|pc h19<|pc (ob56 h21)<|pc h22<|pn)
    · injection h with h; subst h; exact rl [2] [] [.f] (pc h3<|pn)
  · rcases r with _ | _ <;> exact Ex.noConfusion

theorem k_palingref15_links {a1 : Api_Net} {r : Bool} (h : palingref15_links a1 = some r) :
    CallsOK Tryz.prog UU 64 [.agg (c31 a1)] [] (.v (.bool r)) [] := by
  unfold palingref15_links at h
  obtain ⟨r24, h23, h⟩ := bo h
  rcases r24 with _ | _
  · injection h with h; subst h; exact rf Tryz.func64 none [.sum [1, 2, 3] [0] .ret [(2, .v (.bool false))] []] (pc (k_palingref15_links_L1 _ _ h23)<|pn)
  · injection h with h; subst h; exact rf Tryz.func64 none [.sum [1, 2, 3] [0] (.exit 0) [(2, .v (.bool false))] []] (pc (k_palingref15_links_L1 _ _ h23)<|pn)

theorem k_palingref15_Member {a1 : Api_Port} {a2 : Int} {r : Bool} (h : palingref15_Member a1 a2 = some r) :
    CallsOK Tryz.prog UU 54 [.agg (c56 a1), .j a2] [] (.v (.bool r)) [] := by
  unfold palingref15_Member at h
  obtain ⟨h3, h⟩|⟨h3, h⟩ := ite_out h
  · obtain ⟨h4, h⟩|⟨h4, h⟩ := ite_out h
    · injection h with h; subst h; exact rf Tryz.func54 none [.t, .t] (pc h3<|pc h4<|pn)
    · obtain ⟨r5, h6, h⟩ := bo h
      injection h with h; subst h; exact rf Tryz.func54 none [.t, .f, .b r5] (pc h3<|pc h4<|pc (k_palingref15_In h6)<|pn)
  · injection h with h; subst h; exact rf Tryz.func54 none [.f] (pc h3<|pn)

theorem k_palingref15_rest_L1 {a1 : Api_Net} : LoopOK Tryz.prog UU 0 192 (subC (codeOf Tryz.f65) [1, 0, 1, 0, 0]) (ρ := Unit ⊕ Unit) (palingref15_rest_L1 a1)
    (fun v2 : Int => ([(1, .op 0 1 0 0), (2, .v (.bool false)), (3, .j v2)] : Fr DD)) (fun v2 : Int => ([.box 31 (c31 a1) false] : Heap DD)) (fun r => match r with | Sum.inl _ => .ret | Sum.inr _ => .exit 0) (fun r => match r with | Sum.inl _ => [(2, .v (.bool false))] | Sum.inr _ => [(1, .op 0 1 0 0), (2, .v (.bool false))]) (fun r => match r with | Sum.inl _ => [] | Sum.inr _ => [.box 31 (c31 a1) false]) := by
  refine loop_sound3 (fun s q h => ?_) (fun r => ?_)
  · replace h : palingref15_rest_L1 a1 s = some q := h; revert h; revert s; intro v2 h
    unfold palingref15_rest_L1 at h
    obtain ⟨h3, h⟩|⟨h3, h⟩ := ite_out h
    · obtain ⟨x4, h5, h⟩ := bo h
      obtain ⟨r6, h7, h⟩ := bo h
      obtain ⟨h8, h⟩|⟨h8, h⟩ := ite_out h
      · injection h with h; subst h; exact rl [2] [] [.t, .row (c97 x4), .b r6, .t] (pc h3<|pc (ob97 h5)<|pc (k_palingref15_Place h7)<|pc h8<|pn)
      · obtain ⟨r9, h10, h⟩ := bo h
        obtain ⟨h11, h⟩|⟨h11, h⟩ := ite_out h
        · injection h with h; subst h; exact rl [2] [] [.t, .row (c97 x4), .b r6, .f, .b r9, .t] (pc h3<|pc (ob97 h5)<|pc (k_palingref15_Place h7)<|pc h8<|pc (k_palingref15_Place h10)<|pc h11<|pn)
        · obtain ⟨x12, h13, h⟩ := bo h
          obtain ⟨x14, h15, h⟩ := bo h
          obtain ⟨h16, h⟩|⟨h16, h⟩ := ite_out h
          · injection h with h; subst h; exact rl [2] [] [.t, .row (c97 x4), .b r6, .f, .b r9, .f, .row (c93 x12), .row (c56 x14), .t] (pc h3<|pc (ob97 h5)<|pc (k_palingref15_Place h7)<|pc h8<|pc (k_palingref15_Place h10)<|pc h11<|pc (ob93 h13)<|pc (ob56 h15)<|pc h16<|pn)
          · obtain ⟨x17, h18, h⟩ := bo h
            obtain ⟨r19, h20, h⟩ := bo h
            obtain ⟨h21, h⟩|⟨h21, h⟩ := ite_out h
            · injection h with h; subst h; exact rl [2] [] [.t, .row (c97 x4), .b r6, .f, .b r9, .f, .row (c93 x12), .row (c56 x14), .f, .row (c56 x17), .b r19, .t] (pc h3<|pc (ob97 h5)<|pc (k_palingref15_Place h7)<|pc h8<|pc (k_palingref15_Place h10)<|pc h11<|pc (ob93 h13)<|pc (ob56 h15)<|pc h16<|pc (ob56 h18)<|pc (k_palingref15_Member h20)<|pc h21<|pn)
            · injection h with h; subst h; exact rl [1, 2, 3] [0] [.t, .row (c97 x4), .b r6, .f, .b r9, .f, .row (c93 x12), .row (c56 x14), .f, .row (c56 x17), .b r19, .f] (pc h3<|pc (ob97 h5)<|pc (k_palingref15_Place h7)<|pc h8<|pc (k_palingref15_Place h10)<|pc h11<|pc (ob93 h13)<|pc (ob56 h15)<|pc h16<|pc (ob56 h18)<|pc (k_palingref15_Member h20)<|pc h21<|pn)
    · injection h with h; subst h; exact rl [1, 2] [0] [.f] (pc h3<|pn)
  · rcases r with _ | _ <;> exact Ex.noConfusion

theorem k_palingref15_rest_L2 {a1 : Api_Net} : LoopOK Tryz.prog UU 0 192 (subC (codeOf Tryz.f65) [1, 1, 0, 1, 0, 0]) (ρ := Unit ⊕ Unit) (palingref15_rest_L2 a1)
    (fun v24 : Int => ([(1, .op 0 1 0 0), (2, .v (.bool false)), (6, .j v24)] : Fr DD)) (fun v24 : Int => ([.box 31 (c31 a1) false] : Heap DD)) (fun r => match r with | Sum.inl _ => .ret | Sum.inr _ => .exit 2) (fun r => match r with | Sum.inl _ => [(2, .v (.bool false))] | Sum.inr _ => [(1, .op 0 1 0 0), (2, .v (.bool false))]) (fun r => match r with | Sum.inl _ => [] | Sum.inr _ => [.box 31 (c31 a1) false]) := by
  refine loop_sound3 (fun s q h => ?_) (fun r => ?_)
  · replace h : palingref15_rest_L2 a1 s = some q := h; revert h; revert s; intro v24 h
    unfold palingref15_rest_L2 at h
    obtain ⟨h25, h⟩|⟨h25, h⟩ := ite_out h
    · obtain ⟨x26, h27, h⟩ := bo h
      obtain ⟨r28, h29, h⟩ := bo h
      obtain ⟨h30, h⟩|⟨h30, h⟩ := ite_out h
      · injection h with h; subst h; exact rl [2] [] [.t, .row (c100 x26), .b r28, .t] (pc h25<|pc (ob100 h27)<|pc (k_palingref15_Place h29)<|pc h30<|pn)
      · obtain ⟨x31, h32, h⟩ := bo h
        obtain ⟨h33, h⟩|⟨h33, h⟩ := ite_out h
        · injection h with h; subst h; exact rl [2] [] [.t, .row (c100 x26), .b r28, .f, .row (c100 x31), .t] (pc h25<|pc (ob100 h27)<|pc (k_palingref15_Place h29)<|pc h30<|pc (ob100 h32)<|pc h33<|pn)
        · injection h with h; subst h; exact rl [1, 2, 6] [0] [.t, .row (c100 x26), .b r28, .f, .row (c100 x31), .f] (pc h25<|pc (ob100 h27)<|pc (k_palingref15_Place h29)<|pc h30<|pc (ob100 h32)<|pc h33<|pn)
    · injection h with h; subst h; exact rl [1, 2] [0] [.f] (pc h25<|pn)
  · rcases r with _ | _ <;> exact Ex.noConfusion

theorem k_palingref15_rest_L3 {a1 : Api_Net} : LoopOK Tryz.prog UU 0 192 (subC (codeOf Tryz.f65) [1, 1, 1, 0, 1, 0, 0]) (ρ := Unit ⊕ Unit) (palingref15_rest_L3 a1)
    (fun v36 : Int => ([(1, .op 0 1 0 0), (2, .v (.bool false)), (7, .j v36)] : Fr DD)) (fun v36 : Int => ([.box 31 (c31 a1) false] : Heap DD)) (fun r => match r with | Sum.inl _ => .ret | Sum.inr _ => .exit 4) (fun r => match r with | Sum.inl _ => [(2, .v (.bool false))] | Sum.inr _ => [(1, .op 0 1 0 0), (2, .v (.bool false))]) (fun r => match r with | Sum.inl _ => [] | Sum.inr _ => [.box 31 (c31 a1) false]) := by
  refine loop_sound3 (fun s q h => ?_) (fun r => ?_)
  · replace h : palingref15_rest_L3 a1 s = some q := h; revert h; revert s; intro v36 h
    unfold palingref15_rest_L3 at h
    obtain ⟨h37, h⟩|⟨h37, h⟩ := ite_out h
    · obtain ⟨x38, h39, h⟩ := bo h
      obtain ⟨r40, h41, h⟩ := bo h
      obtain ⟨h42, h⟩|⟨h42, h⟩ := ite_out h
      · injection h with h; subst h; exact rl [2] [] [.t, .row (c103 x38), .b r40, .t] (pc h37<|pc (ob103 h39)<|pc (k_palingref15_Place h41)<|pc h42<|pn)
      · obtain ⟨r43, h44, h⟩ := bo h
        obtain ⟨h45, h⟩|⟨h45, h⟩ := ite_out h
        · injection h with h; subst h; exact rl [2] [] [.t, .row (c103 x38), .b r40, .f, .b r43, .t] (pc h37<|pc (ob103 h39)<|pc (k_palingref15_Place h41)<|pc h42<|pc (k_palingref15_rising h44)<|pc h45<|pn)
        · obtain ⟨r46, h47, h⟩ := bo h
          obtain ⟨h48, h⟩|⟨h48, h⟩ := ite_out h
          · injection h with h; subst h; exact rl [2] [] [.t, .row (c103 x38), .b r40, .f, .b r43, .f, .b r46, .t] (pc h37<|pc (ob103 h39)<|pc (k_palingref15_Place h41)<|pc h42<|pc (k_palingref15_rising h44)<|pc h45<|pc (k_palingref15_rising h47)<|pc h48<|pn)
          · injection h with h; subst h; exact rl [1, 2, 7] [0] [.t, .row (c103 x38), .b r40, .f, .b r43, .f, .b r46, .f] (pc h37<|pc (ob103 h39)<|pc (k_palingref15_Place h41)<|pc h42<|pc (k_palingref15_rising h44)<|pc h45<|pc (k_palingref15_rising h47)<|pc h48<|pn)
    · injection h with h; subst h; exact rl [1, 2] [0] [.f] (pc h37<|pn)
  · rcases r with _ | _ <;> exact Ex.noConfusion

theorem k_palingref15_rest_L4 {a1 : Api_Net} : LoopOK Tryz.prog UU 0 192 (subC (codeOf Tryz.f65) [1, 1, 1, 1, 0, 1, 0, 0]) (ρ := Unit ⊕ Unit) (palingref15_rest_L4 a1)
    (fun v51 : Int => ([(1, .op 0 1 0 0), (2, .v (.bool false)), (9, .j v51)] : Fr DD)) (fun v51 : Int => ([.box 31 (c31 a1) false] : Heap DD)) (fun r => match r with | Sum.inl _ => .ret | Sum.inr _ => .exit 6) (fun r => match r with | Sum.inl _ => [(2, .v (.bool false))] | Sum.inr _ => [(2, .v (.bool false))]) (fun r => match r with | Sum.inl _ => [] | Sum.inr _ => []) := by
  refine loop_sound3 (fun s q h => ?_) (fun r => ?_)
  · replace h : palingref15_rest_L4 a1 s = some q := h; revert h; revert s; intro v51 h
    unfold palingref15_rest_L4 at h
    obtain ⟨h52, h⟩|⟨h52, h⟩ := ite_out h
    · obtain ⟨x53, h54, h⟩ := bo h
      obtain ⟨r55, h56, h⟩ := bo h
      obtain ⟨h57, h⟩|⟨h57, h⟩ := ite_out h
      · injection h with h; subst h; exact rl [2] [] [.t, .row (c118 x53), .b r55, .t] (pc h52<|pc (ob118 h54)<|pc (k_palingref15_Place h56)<|pc h57<|pn)
      · obtain ⟨r58, h59, h⟩ := bo h
        obtain ⟨h60, h⟩|⟨h60, h⟩ := ite_out h
        · injection h with h; subst h; exact rl [2] [] [.t, .row (c118 x53), .b r55, .f, .b r58, .t] (pc h52<|pc (ob118 h54)<|pc (k_palingref15_Place h56)<|pc h57<|pc (k_palingref15_Place h59)<|pc h60<|pn)
        · obtain ⟨h61, h⟩|⟨h61, h⟩ := ite_out h
          · injection h with h; subst h; exact rl [2] [] [.t, .row (c118 x53), .b r55, .f, .b r58, .f, .t] (pc h52<|pc (ob118 h54)<|pc (k_palingref15_Place h56)<|pc h57<|pc (k_palingref15_Place h59)<|pc h60<|pc h61<|pn)
          · obtain ⟨h62, h⟩|⟨h62, h⟩ := ite_out h
            · injection h with h; subst h; exact rl [2] [] [.t, .row (c118 x53), .b r55, .f, .b r58, .f, .f, .t] (pc h52<|pc (ob118 h54)<|pc (k_palingref15_Place h56)<|pc h57<|pc (k_palingref15_Place h59)<|pc h60<|pc h61<|pc h62<|pn)
            · obtain ⟨x63, h64, h⟩ := bo h
              obtain ⟨x65, h66, h⟩ := bo h
              obtain ⟨h67, h⟩|⟨h67, h⟩ := ite_out h
              · injection h with h; subst h; exact rl [2] [] [.t, .row (c118 x53), .b r55, .f, .b r58, .f, .f, .f, .row (c93 x63), .row (c103 x65), .t] (pc h52<|pc (ob118 h54)<|pc (k_palingref15_Place h56)<|pc h57<|pc (k_palingref15_Place h59)<|pc h60<|pc h61<|pc h62<|pc (ob93 h64)<|pc (ob103 h66)<|pc h67<|pn)
              · obtain ⟨x68, h69, h⟩ := bo h
                obtain ⟨h70, h⟩|⟨h70, h⟩ := ite_out h
                · injection h with h; subst h; exact rl [2] [] [.t, .row (c118 x53), .b r55, .f, .b r58, .f, .f, .f, .row (c93 x63), .row (c103 x65), .f, .row (c93 x68), .t] (pc h52<|pc (ob118 h54)<|pc (k_palingref15_Place h56)<|pc h57<|pc (k_palingref15_Place h59)<|pc h60<|pc h61<|pc h62<|pc (ob93 h64)<|pc (ob103 h66)<|pc h67<|pc (ob93 h69)<|pc h70<|pn)
                · injection h with h; subst h; exact rl [1, 2, 9] [0] [.t, .row (c118 x53), .b r55, .f, .b r58, .f, .f, .f, .row (c93 x63), .row (c103 x65), .f, .row (c93 x68), .f] (pc h52<|pc (ob118 h54)<|pc (k_palingref15_Place h56)<|pc h57<|pc (k_palingref15_Place h59)<|pc h60<|pc h61<|pc h62<|pc (ob93 h64)<|pc (ob103 h66)<|pc h67<|pc (ob93 h69)<|pc h70<|pn)
    · injection h with h; subst h; exact rl [2] [] [.f] (pc h52<|pn)
  · rcases r with _ | _ <;> exact Ex.noConfusion

theorem k_palingref15_rest {a1 : Api_Net} {r : Bool} (h : palingref15_rest a1 = some r) :
    CallsOK Tryz.prog UU 65 [.agg (c31 a1)] [] (.v (.bool r)) [] := by
  unfold palingref15_rest at h
  obtain ⟨r23, h22, h⟩ := bo h
  rcases r23 with _ | _
  · injection h with h; subst h; exact rf Tryz.func65 none [.sum [1, 2, 3] [0] .ret [(2, .v (.bool false))] []] (pc (k_palingref15_rest_L1 _ _ h22)<|pn)
  · obtain ⟨r35, h34, h⟩ := bo h
    rcases r35 with _ | _
    · injection h with h; subst h; exact rf Tryz.func65 none [.sum [1, 2, 3] [0] (.exit 0) [(1, .op 0 1 0 0), (2, .v (.bool false))] [.box 31 (c31 a1) false], .sum [1, 2, 6] [0] .ret [(2, .v (.bool false))] []] (pc (k_palingref15_rest_L1 _ _ h22)<|pc (k_palingref15_rest_L2 _ _ h34)<|pn)
    · obtain ⟨r50, h49, h⟩ := bo h
      rcases r50 with _ | _
      · injection h with h; subst h; exact rf Tryz.func65 none [.sum [1, 2, 3] [0] (.exit 0) [(1, .op 0 1 0 0), (2, .v (.bool false))] [.box 31 (c31 a1) false], .sum [1, 2, 6] [0] (.exit 2) [(1, .op 0 1 0 0), (2, .v (.bool false))] [.box 31 (c31 a1) false], .sum [1, 2, 7] [0] .ret [(2, .v (.bool false))] []] (pc (k_palingref15_rest_L1 _ _ h22)<|pc (k_palingref15_rest_L2 _ _ h34)<|pc (k_palingref15_rest_L3 _ _ h49)<|pn)
      · obtain ⟨r72, h71, h⟩ := bo h
        rcases r72 with _ | _
        · injection h with h; subst h; exact rf Tryz.func65 none [.sum [1, 2, 3] [0] (.exit 0) [(1, .op 0 1 0 0), (2, .v (.bool false))] [.box 31 (c31 a1) false], .sum [1, 2, 6] [0] (.exit 2) [(1, .op 0 1 0 0), (2, .v (.bool false))] [.box 31 (c31 a1) false], .sum [1, 2, 7] [0] (.exit 4) [(1, .op 0 1 0 0), (2, .v (.bool false))] [.box 31 (c31 a1) false], .sum [1, 2, 9] [0] .ret [(2, .v (.bool false))] []] (pc (k_palingref15_rest_L1 _ _ h22)<|pc (k_palingref15_rest_L2 _ _ h34)<|pc (k_palingref15_rest_L3 _ _ h49)<|pc (k_palingref15_rest_L4 _ _ h71)<|pn)
        · injection h with h; subst h; exact rf Tryz.func65 none [.sum [1, 2, 3] [0] (.exit 0) [(1, .op 0 1 0 0), (2, .v (.bool false))] [.box 31 (c31 a1) false], .sum [1, 2, 6] [0] (.exit 2) [(1, .op 0 1 0 0), (2, .v (.bool false))] [.box 31 (c31 a1) false], .sum [1, 2, 7] [0] (.exit 4) [(1, .op 0 1 0 0), (2, .v (.bool false))] [.box 31 (c31 a1) false], .sum [1, 2, 9] [0] (.exit 6) [(2, .v (.bool false))] []] (pc (k_palingref15_rest_L1 _ _ h22)<|pc (k_palingref15_rest_L2 _ _ h34)<|pc (k_palingref15_rest_L3 _ _ h49)<|pc (k_palingref15_rest_L4 _ _ h71)<|pn)

theorem k_palingref15_Right {a1 : Api_Net} {r : Bool} (h : palingref15_Right a1 = some r) :
    CallsOK Tryz.prog UU 19 [.agg (c31 a1)] [] (.v (.bool r)) [] := by
  unfold palingref15_Right at h
  obtain ⟨h2, h⟩|⟨h2, h⟩ := ite_out h
  · injection h with h; subst h; exact rf Tryz.func19 none [.t] (pc h2<|pn)
  · obtain ⟨h3, h⟩|⟨h3, h⟩ := ite_out h
    · injection h with h; subst h; exact rf Tryz.func19 none [.f, .t] (pc h2<|pc h3<|pn)
    · obtain ⟨h4, h⟩|⟨h4, h⟩ := ite_out h
      · injection h with h; subst h; exact rf Tryz.func19 none [.f, .f, .t] (pc h2<|pc h3<|pc h4<|pn)
      · obtain ⟨h5, h⟩|⟨h5, h⟩ := ite_out h
        · injection h with h; subst h; exact rf Tryz.func19 none [.f, .f, .f, .t] (pc h2<|pc h3<|pc h4<|pc h5<|pn)
        · obtain ⟨h6, h⟩|⟨h6, h⟩ := ite_out h
          · injection h with h; subst h; exact rf Tryz.func19 none [.f, .f, .f, .f, .t] (pc h2<|pc h3<|pc h4<|pc h5<|pc h6<|pn)
          · obtain ⟨h7, h⟩|⟨h7, h⟩ := ite_out h
            · injection h with h; subst h; exact rf Tryz.func19 none [.f, .f, .f, .f, .f, .t] (pc h2<|pc h3<|pc h4<|pc h5<|pc h6<|pc h7<|pn)
            · obtain ⟨h8, h⟩|⟨h8, h⟩ := ite_out h
              · injection h with h; subst h; exact rf Tryz.func19 none [.f, .f, .f, .f, .f, .f, .t] (pc h2<|pc h3<|pc h4<|pc h5<|pc h6<|pc h7<|pc h8<|pn)
              · obtain ⟨h9, h⟩|⟨h9, h⟩ := ite_out h
                · injection h with h; subst h; exact rf Tryz.func19 none [.f, .f, .f, .f, .f, .f, .f, .t] (pc h2<|pc h3<|pc h4<|pc h5<|pc h6<|pc h7<|pc h8<|pc h9<|pn)
                · obtain ⟨r10, h11, h⟩ := bo h
                  obtain ⟨h12, h⟩|⟨h12, h⟩ := ite_out h
                  · obtain ⟨r13, h14, h⟩ := bo h
                    obtain ⟨h15, h⟩|⟨h15, h⟩ := ite_out h
                    · obtain ⟨r16, h17, h⟩ := bo h
                      obtain ⟨h18, h⟩|⟨h18, h⟩ := ite_out h
                      · obtain ⟨r19, h20, h⟩ := bo h
                        injection h with h; subst h; exact rf Tryz.func19 none [.f, .f, .f, .f, .f, .f, .f, .f, .b r10, .t, .b r13, .t, .b r16, .t, .b r19] (pc h2<|pc h3<|pc h4<|pc h5<|pc h6<|pc h7<|pc h8<|pc h9<|pc (k_palingref15_domains h11)<|pc h12<|pc (k_palingref15_ports h14)<|pc h15<|pc (k_palingref15_links h17)<|pc h18<|pc (k_palingref15_rest h20)<|pn)
                      · injection h with h; subst h; exact rf Tryz.func19 none [.f, .f, .f, .f, .f, .f, .f, .f, .b r10, .t, .b r13, .t, .b r16, .f] (pc h2<|pc h3<|pc h4<|pc h5<|pc h6<|pc h7<|pc h8<|pc h9<|pc (k_palingref15_domains h11)<|pc h12<|pc (k_palingref15_ports h14)<|pc h15<|pc (k_palingref15_links h17)<|pc h18<|pn)
                    · injection h with h; subst h; exact rf Tryz.func19 none [.f, .f, .f, .f, .f, .f, .f, .f, .b r10, .t, .b r13, .f] (pc h2<|pc h3<|pc h4<|pc h5<|pc h6<|pc h7<|pc h8<|pc h9<|pc (k_palingref15_domains h11)<|pc h12<|pc (k_palingref15_ports h14)<|pc h15<|pn)
                  · injection h with h; subst h; exact rf Tryz.func19 none [.f, .f, .f, .f, .f, .f, .f, .f, .b r10, .f] (pc h2<|pc h3<|pc h4<|pc h5<|pc h6<|pc h7<|pc h8<|pc h9<|pc (k_palingref15_domains h11)<|pc h12<|pn)

theorem k_palingref15_Members_L1 {a1 : Api_Net} {x6 : Api_Domain} : LoopOK Tryz.prog UU 0 50 (subC (codeOf Tryz.f66) [1, 1, 1, 1, 0, 1, 0, 0]) (fun s : (List Int) × Int => match s with | (l8, v9) => palingref15_Members_L1 a1 x6 l8 v9)
    (fun s : (List Int) × Int => (match s with | (l8, v9) => [(2, .op 0 1 0 0), (4, .os 1 0), (5, .os 2 l8.length), (6, .op 3 1 0 0), (7, .j v9)] : Fr DD)) (fun s : (List Int) × Int => (match s with | (l8, v9) => [.box 31 (c31 a1) false, .n 3, .arr 3 l8 l8.length false, .box 93 (c93 x6) false] : Heap DD)) (fun r => match r with | l22 => .exit 0) (fun r => match r with | l22 => [(4, .os 0 0), (5, .os 1 l22.length)]) (fun r => match r with | l22 => [.n 3, .arr 3 l22 l22.length false]) := by
  refine loop_sound3 (fun s q h => ?_) (fun r => ?_)
  · obtain ⟨l8, v9⟩ := s; replace h : palingref15_Members_L1 a1 x6 l8 v9 = some q := h
    unfold palingref15_Members_L1 at h
    obtain ⟨h10, h⟩|⟨h10, h⟩ := ite_out h
    · obtain ⟨x11, h12, h⟩ := bo h
      obtain ⟨h13, h⟩|⟨h13, h⟩ := ite_out h
      · obtain ⟨x14, h15, h⟩ := bo h
        obtain ⟨r16, h17, h⟩ := bo h
        obtain ⟨h18, h⟩|⟨h18, h⟩ := ite_out h
        · obtain ⟨h19, h⟩|⟨h19, h⟩ := ite_out h
          · injection h with h; subst h; exact rl [2, 4, 5, 6, 7] [0, 1, 2, 3] [.t, .row (c56 x11), .t, .row (c56 x14), .b r16, .t, .obj [] (.arr 3 [v9] (List.length [v9]) false), .obj [] (.arr 3 (l8 ++ [v9]) (List.length (l8 ++ [v9])) false)] (pc h10<|pc (ob56 h12)<|pc h13<|pc (ob56 h15)<|pc (k_palingref15_Member h17)<|pc h18<|pc (bs_ob 3 [v9])<|pc (app_ob 3 (n := l8.length) (l := l8) (xs := [v9]) h19)<|pc ((rn (List.length [v9])))<|pn)
          · cases h
        · injection h with h; subst h; exact rl [2, 4, 5, 6, 7] [0, 1, 2, 3] [.t, .row (c56 x11), .t, .row (c56 x14), .b r16, .f] (pc h10<|pc (ob56 h12)<|pc h13<|pc (ob56 h15)<|pc (k_palingref15_Member h17)<|pc h18<|pn)
      · injection h with h; subst h; exact rl [2, 4, 5, 6, 7] [0, 1, 2, 3] [.t, .row (c56 x11), .f] (pc h10<|pc (ob56 h12)<|pc h13<|pn)
    · injection h with h; subst h; exact rl [4, 5] [1, 2] [.f] (pc h10<|pn)
  · exact Ex.noConfusion

theorem k_palingref15_Members {a1 : Api_Net} {a2 : Int} {r : ((List Int))} (h : palingref15_Members a1 a2 = some r) :
    CallsOK Tryz.prog UU 66 [.agg (c31 a1), .j a2] [] ((fun r => match r with | l25 => .os 0 l25.length) r) ((fun r => match r with | l25 => [.arr 3 l25 l25.length false]) r) := by
  unfold palingref15_Members at h
  obtain ⟨r3, h4, h⟩ := bo h
  obtain ⟨h5, h⟩|⟨h5, h⟩ := ite_out h
  · injection h with h; subst h; exact rf Tryz.func66 (some [3]) [.b r3, .t] (pc (k_palingref15_Place h4)<|pc h5<|pn)
  · obtain ⟨x6, h7, h⟩ := bo h
    obtain ⟨l22, h23, h⟩ := bo h
    injection h with h; subst h; exact rf Tryz.func66 (some [1]) [.b r3, .f, .row (c93 x6), .sum [2, 4, 5, 6, 7] [0, 1, 2, 4] (.exit 0) [(4, .os 0 0), (5, .os 1 l22.length)] [.n 3, .arr 3 l22 l22.length false]] (pc (k_palingref15_Place h4)<|pc h5<|pc (ob93 h7)<|pc (k_palingref15_Members_L1 _ _ h23)<|pn)

theorem k_palingref29_fits {a1 : Api_Net} {a2 : List Bool} {a3 : Int} {a4 : Int} {r : Bool} (h : palingref29_fits a1 a2 a3 a4 = some r) :
    CallsOK Tryz.prog UU 184 [.agg (c31 a1), .sl 4 a2, .j a3, .j a4] [] (.v (.bool r)) [] := by
  unfold palingref29_fits at h
  obtain ⟨r5, h6, h⟩ := bo h
  obtain ⟨h7, h⟩|⟨h7, h⟩ := ite_out h
  · injection h with h; subst h; exact rf Tryz.func184 none [.b r5, .t] (pc (k_palingref15_Right h6)<|pc h7<|pn)
  · obtain ⟨h8, h⟩|⟨h8, h⟩ := ite_out h
    · injection h with h; subst h; exact rf Tryz.func184 none [.b r5, .f, .t] (pc (k_palingref15_Right h6)<|pc h7<|pc h8<|pn)
    · obtain ⟨r9, h10, h⟩ := bo h
      obtain ⟨h11, h⟩|⟨h11, h⟩ := ite_out h
      · injection h with h; subst h; exact rf Tryz.func184 none [.b r5, .f, .f, .b r9, .t] (pc (k_palingref15_Right h6)<|pc h7<|pc h8<|pc (k_palingref15_Place h10)<|pc h11<|pn)
      · obtain ⟨h12, h⟩|⟨h12, h⟩ := ite_out h
        · injection h with h; subst h; exact rf Tryz.func184 none [.b r5, .f, .f, .b r9, .f, .t] (pc (k_palingref15_Right h6)<|pc h7<|pc h8<|pc (k_palingref15_Place h10)<|pc h11<|pc h12<|pn)
        · obtain ⟨h13, h⟩|⟨h13, h⟩ := ite_out h
          · injection h with h; subst h; exact rf Tryz.func184 none [.b r5, .f, .f, .b r9, .f, .f, .t] (pc (k_palingref15_Right h6)<|pc h7<|pc h8<|pc (k_palingref15_Place h10)<|pc h11<|pc h12<|pc h13<|pn)
          · obtain ⟨l16, h15, h⟩ := bo h
            obtain ⟨r17, h18, h⟩ := bo h
            injection h with h; subst h; exact rf Tryz.func184 none [.b r5, .f, .f, .b r9, .f, .f, .f, .callo (.os 0 l16.length) [.arr 3 l16 l16.length false], .b r17] (pc (k_palingref15_Right h6)<|pc h7<|pc h8<|pc (k_palingref15_Place h10)<|pc h11<|pc h12<|pc h13<|pc (k_palingref15_Members h15)<|pc (im3 l16)<|pc (k_palingref15_In h18)<|pc (rn l16.length)<|pn)

theorem k_palingref29_Usable {a1 : Api_Net} {a2 : List Bool} {a3 : Int} {r : Bool} (h : palingref29_Usable a1 a2 a3 = some r) :
    CallsOK Tryz.prog UU 185 [.agg (c31 a1), .sl 4 a2, .j a3] [] (.v (.bool r)) [] := by
  unfold palingref29_Usable at h
  obtain ⟨r4, h5, h⟩ := bo h
  obtain ⟨h6, h⟩|⟨h6, h⟩ := ite_out h
  · obtain ⟨x7, h8, h⟩ := bo h
    obtain ⟨h9, h⟩|⟨h9, h⟩ := ite_out h
    · injection h with h; subst h; exact rf Tryz.func185 none [.b r4, .t, .row (c56 x7), .t] (pc (k_palingref15_Place h5)<|pc h6<|pc (ob56 h8)<|pc h9<|pn)
    · obtain ⟨x10, h11, h⟩ := bo h
      obtain ⟨x12, h13, h⟩ := bo h
      injection h with h; subst h; exact rf Tryz.func185 none [.b r4, .t, .row (c56 x7), .f, .row (c56 x10), .row (c4 x12)] (pc (k_palingref15_Place h5)<|pc h6<|pc (ob56 h8)<|pc h9<|pc (ob56 h11)<|pc (ob4 h13)<|pn)
  · injection h with h; subst h; exact rf Tryz.func185 none [.b r4, .f] (pc (k_palingref15_Place h5)<|pc h6<|pn)

theorem k_palingref29_Flood_L1 {a1 : Api_Net} {a2 : List Bool} {a3 : Int} {a4 : Int} {l10 : List Int} : LoopOK Tryz.prog UU 0 61 (subC (codeOf Tryz.f112) [1, 1, 1, 1, 0, 1, 0, 0]) (fun s : (List Int) × Int => match s with | (l11, v12) => palingref29_Flood_L1 a1 a2 a3 a4 l10 l11 v12)
    (fun s : (List Int) × Int => (match s with | (l11, v12) => [(1, .sl 4 a2), (2, .j a3), (3, .j a4), (4, .op 0 1 0 0), (8, .os 1 0), (9, .os 2 0), (10, .z), (11, .os 3 l11.length), (12, .os 4 l10.length), (13, .j v12)] : Fr DD)) (fun s : (List Int) × Int => (match s with | (l11, v12) => [.box 31 (c31 a1) false, .n 3, .n 3, .arr 3 l11 l11.length false, .arr 3 l10 l10.length false] : Heap DD)) (fun r => match r with | l33 => .exit 0) (fun r => match r with | l33 => [(2, .j a3), (3, .j a4), (4, .op 0 1 0 0), (8, .os 1 0), (9, .os 2 0), (10, .z), (11, .os 3 l33.length)]) (fun r => match r with | l33 => [.box 31 (c31 a1) false, .n 3, .n 3, .arr 3 l33 l33.length false]) := by
  refine loop_sound3 (fun s q h => ?_) (fun r => ?_)
  · obtain ⟨l11, v12⟩ := s; replace h : palingref29_Flood_L1 a1 a2 a3 a4 l10 l11 v12 = some q := h
    unfold palingref29_Flood_L1 at h
    obtain ⟨h13, h⟩|⟨h13, h⟩ := ite_out h
    · obtain ⟨h14, h⟩|⟨h14, h⟩ := ite_out h
      · obtain ⟨x15, h16, h⟩ := bo h
        obtain ⟨h17, h⟩|⟨h17, h⟩ := ite_out h
        · obtain ⟨x18, h19, h⟩ := bo h
          obtain ⟨r20, h21, h⟩ := bo h
          obtain ⟨h22, h⟩|⟨h22, h⟩ := ite_out h
          · obtain ⟨x23, h24, h⟩ := bo h
            obtain ⟨h25, h⟩|⟨h25, h⟩ := ite_out h
            · injection h with h; subst h; exact rl [1, 2, 3, 4, 8, 9, 10, 11, 12, 13] [0, 1, 2, 3, 4] [.t, .row (c3 x15), .t, .row (c3 x18), .b r20, .t, .row (c3 x23), .obj [] (.arr 3 [x23] (List.length [x23]) false), .obj [] (.arr 3 (l11 ++ [x23]) (List.length (l11 ++ [x23])) false)] (pc (rn l10.length)<|pc h13<|pc (an l10.length (lin_ob h14))<|pc (an l10.length (obn3 h16))<|pc h17<|pc (an l10.length (lin_ob h14))<|pc (an l10.length (obn3 h19))<|pc (k_palingref29_Usable h21)<|pc h22<|pc (an l10.length (lin_ob h14))<|pc (an l10.length (obn3 h24))<|pc (bs_ob 3 [x23])<|pc (app_ob 3 (n := l11.length) (l := l11) (xs := [x23]) h25)<|pc ((rn (List.length [x23])))<|pn)
            · cases h
          · injection h with h; subst h; exact rl [1, 2, 3, 4, 8, 9, 10, 11, 12, 13] [0, 1, 2, 3, 4] [.t, .row (c3 x15), .t, .row (c3 x18), .b r20, .f] (pc (rn l10.length)<|pc h13<|pc (an l10.length (lin_ob h14))<|pc (an l10.length (obn3 h16))<|pc h17<|pc (an l10.length (lin_ob h14))<|pc (an l10.length (obn3 h19))<|pc (k_palingref29_Usable h21)<|pc h22<|pn)
        · injection h with h; subst h; exact rl [1, 2, 3, 4, 8, 9, 10, 11, 12, 13] [0, 1, 2, 3, 4] [.t, .row (c3 x15), .f] (pc (rn l10.length)<|pc h13<|pc (an l10.length (lin_ob h14))<|pc (an l10.length (obn3 h16))<|pc h17<|pn)
      · cases h
    · injection h with h; subst h; exact rl [2, 3, 4, 8, 9, 10, 11] [0, 1, 2, 3] [.f] (pc (rn l10.length)<|pc h13<|pn)
  · exact Ex.noConfusion

theorem k_palingref29_Flood {a1 : Api_Net} {a2 : List Bool} {a3 : Int} {a4 : Int} {r : ((List Int) × (List Int) × Int)} (h : palingref29_Flood a1 a2 a3 a4 = some r) :
    CallsOK Tryz.prog UU 112 [.agg (c31 a1), .sl 4 a2, .j a3, .j a4] [] ((fun r => match r with | (r39, r40, r41) => .tup [.sl 3 r39, .sl 3 r40, .j r41]) r) ((fun r => match r with | (r39, r40, r41) => []) r) := by
  unfold palingref29_Flood at h
  obtain ⟨r5, h6, h⟩ := bo h
  obtain ⟨h7, h⟩|⟨h7, h⟩ := ite_out h
  · injection h with h; subst h; exact runFz_sound mixedOrders Tryz.func112 rfl (ids := []) (fz := [3, 4]) (π := [.b r5, .t]) (hrun := by kernel_rfl) (hps := pc (k_palingref29_fits h6)<|pc h7<|pc (rn 0)<|pc (rn 0)<|pn)
  · obtain ⟨l10, h9, h⟩ := bo h
    obtain ⟨l33, h34, h⟩ := bo h
    obtain ⟨h36, h⟩|⟨h36, h⟩ := ite_out h
    · injection h with h; subst h; exact runFz_sound mixedOrders Tryz.func112 rfl (ids := []) (fz := [3, 4]) (π := [.b r5, .f, .callo (.os 0 l10.length) [.arr 3 l10 l10.length false], .sum [1, 2, 3, 4, 8, 9, 10, 11, 12, 13] [0, 1, 2, 3, 4] (.exit 0) [(2, .j a3), (3, .j a4), (4, .op 0 1 0 0), (8, .os 1 0), (9, .os 2 0), (10, .z), (11, .os 3 l33.length)] [.box 31 (c31 a1) false, .n 3, .n 3, .arr 3 l33 l33.length false], .t]) (hrun := by kernel_rfl) (hps := pc (k_palingref29_fits h6)<|pc h7<|pc (k_palingref15_Members h9)<|pc (im3 l10)<|pc (k_palingref29_Flood_L1 _ _ h34)<|pc h36<|pc (rn l33.length)<|pc (rn 0)<|pn)
    · obtain ⟨x37, h38, h⟩ := bo h
      injection h with h; subst h; exact runFz_sound mixedOrders Tryz.func112 rfl (ids := []) (fz := [3]) (π := [.b r5, .f, .callo (.os 0 l10.length) [.arr 3 l10 l10.length false], .sum [1, 2, 3, 4, 8, 9, 10, 11, 12, 13] [0, 1, 2, 3, 4] (.exit 0) [(2, .j a3), (3, .j a4), (4, .op 0 1 0 0), (8, .os 1 0), (9, .os 2 0), (10, .z), (11, .os 3 l33.length)] [.box 31 (c31 a1) false, .n 3, .n 3, .arr 3 l33 l33.length false], .f, .row (c93 x37)]) (hrun := by kernel_rfl) (hps := pc (k_palingref29_fits h6)<|pc h7<|pc (k_palingref15_Members h9)<|pc (im3 l10)<|pc (k_palingref29_Flood_L1 _ _ h34)<|pc h36<|pc (ob93 h38)<|pc (rn l33.length)<|pn)

theorem k_palingref01_Bytes_L2 {a1 : Int} {l2 : List Int} {v3 : Int} : LoopOK Tryz.prog UU 0 26 (subC (codeOf Tryz.f248) [1, 1, 0, 1, 0, 0, 1, 0, 0, 1, 0, 1, 0, 0]) (fun s : Int × Int => match s with | (v5, v6) => palingref01_Bytes_L2 a1 l2 v3 v5 v6)
    (fun s : Int × Int => (match s with | (v5, v6) => [(0, .v (.int .u64 a1)), (2, .os 0 0), (3, .os 1 l2.length), (4, .j v3), (5, .v (.int .u64 v5)), (6, .j v6)] : Fr DD)) (fun s : Int × Int => (match s with | (v5, v6) => [.n 5, .arr 5 l2 l2.length false] : Heap DD)) (fun r => match r with | v9 => .exit 2) (fun r => match r with | v9 => [(0, .v (.int .u64 a1)), (2, .os 0 0), (3, .os 1 l2.length), (4, .j v3), (5, .v (.int .u64 v9))]) (fun r => match r with | v9 => [.n 5, .arr 5 l2 l2.length false]) := by
  refine loop_sound3 (fun s q h => ?_) (fun r => ?_)
  · obtain ⟨v5, v6⟩ := s; replace h : palingref01_Bytes_L2 a1 l2 v3 v5 v6 = some q := h
    unfold palingref01_Bytes_L2 at h
    obtain ⟨h7, h⟩|⟨h7, h⟩ := ite_out h
    · injection h with h; subst h; exact rl [0, 2, 3, 4, 5, 6] [0, 1] [.t] (pc h7<|pc ((show (256 : Int) ≠ 0 from by decide))<|pn)
    · injection h with h; subst h; exact rl [0, 2, 3, 4, 5] [0, 1] [.f] (pc h7<|pn)
  · exact Ex.noConfusion

theorem k_palingref01_Bytes_L1 {a1 : Int} : LoopOK Tryz.prog UU 0 26 (subC (codeOf Tryz.f248) [1, 1, 0, 1, 0, 0]) (fun s : (List Int) × Int => match s with | (l2, v3) => palingref01_Bytes_L1 a1 l2 v3)
    (fun s : (List Int) × Int => (match s with | (l2, v3) => [(0, .v (.int .u64 a1)), (2, .os 0 0), (3, .os 1 l2.length), (4, .j v3)] : Fr DD)) (fun s : (List Int) × Int => (match s with | (l2, v3) => [.n 5, .arr 5 l2 l2.length false] : Heap DD)) (fun r => match r with | l15 => .exit 0) (fun r => match r with | l15 => [(2, .os 0 0), (3, .os 1 l15.length)]) (fun r => match r with | l15 => [.n 5, .arr 5 l15 l15.length false]) := by
  refine loop_sound3 (fun s q h => ?_) (fun r => ?_)
  · obtain ⟨l2, v3⟩ := s; replace h : palingref01_Bytes_L1 a1 l2 v3 = some q := h
    unfold palingref01_Bytes_L1 at h
    obtain ⟨h4, h⟩|⟨h4, h⟩ := ite_out h
    · obtain ⟨v9, h10, h⟩ := bo h
      obtain ⟨h12, h⟩|⟨h12, h⟩ := ite_out h
      · injection h with h; subst h; exact rl [0, 2, 3, 4] [0, 1] [.t, .sum [0, 2, 3, 4, 5, 6] [0, 1] (.exit 2) [(0, .v (.int .u64 a1)), (2, .os 0 0), (3, .os 1 l2.length), (4, .j v3), (5, .v (.int .u64 v9))] [.n 5, .arr 5 l2 l2.length false], .obj [] (.arr 5 [(wr_u8 (Int.tmod v9 256) : Int)] (List.length [(wr_u8 (Int.tmod v9 256) : Int)]) false), .obj [] (.arr 5 (l2 ++ [(wr_u8 (Int.tmod v9 256) : Int)]) (List.length (l2 ++ [(wr_u8 (Int.tmod v9 256) : Int)])) false)] (pc h4<|pc (k_palingref01_Bytes_L2 _ _ h10)<|pc ((show (256 : Int) ≠ 0 from by decide))<|pc (bs_ob 5 [(wr_u8 (Int.tmod v9 256) : Int)])<|pc (app_ob 5 (n := l2.length) (l := l2) (xs := [(wr_u8 (Int.tmod v9 256) : Int)]) h12)<|pc ((rn (List.length [(wr_u8 (Int.tmod v9 256) : Int)])))<|pn)
      · cases h
    · injection h with h; subst h; exact rl [2, 3] [0, 1] [.f] (pc h4<|pn)
  · exact Ex.noConfusion

theorem k_palingref01_Bytes {a1 : Int} {r : ((List Int))} (h : palingref01_Bytes a1 = some r) :
    CallsOK Tryz.prog UU 248 [.v (.int .u64 a1)] [] ((fun r => match r with | l18 => .os 0 l18.length) r) ((fun r => match r with | l18 => [.arr 5 l18 l18.length false]) r) := by
  unfold palingref01_Bytes at h
  obtain ⟨l15, h16, h⟩ := bo h
  injection h with h; subst h; exact rf Tryz.func248 (some [1]) [.sum [0, 2, 3, 4] [0, 1] (.exit 0) [(2, .os 0 0), (3, .os 1 l15.length)] [.n 5, .arr 5 l15 l15.length false]] (pc (k_palingref01_Bytes_L1 _ _ h16)<|pn)

theorem k_palingref01_Group {a1 : Int} {r : Bool} (h : palingref01_Group a1 = some r) :
    CallsOK Tryz.prog UU 194 [.v (.int .u64 a1)] [] (.v (.bool r)) [] := by
  unfold palingref01_Group at h
  obtain ⟨l4, h3, h⟩ := bo h
  obtain ⟨h5, h⟩|⟨h5, h⟩ := ite_out h
  · obtain ⟨x6, h7, h⟩ := bo h
    injection h with h; subst h; exact rf Tryz.func194 none [.callo (.os 0 l4.length) [.arr 5 l4 l4.length false], .row (c5 x6)] (pc (k_palingref01_Bytes h3)<|pc (im5 l4)<|pc (an l4.length (lin_ob h5))<|pc (an l4.length (obn5 h7))<|pc ((show (2 : Int) ≠ 0 from by decide))<|pn)
  · cases h

theorem k_palingref26_station {a1 : Int} {r : Bool} (h : palingref26_station a1 = some r) :
    CallsOK Tryz.prog UU 186 [.v (.int .u64 a1)] [] (.v (.bool r)) [] := by
  unfold palingref26_station at h
  obtain ⟨h2, h⟩|⟨h2, h⟩ := ite_out h
  · obtain ⟨r3, h4, h⟩ := bo h
    injection h with h; subst h; exact rf Tryz.func186 none [.t, .b r3] (pc h2<|pc (k_palingref01_Group h4)<|pn)
  · injection h with h; subst h; exact rf Tryz.func186 none [.f] (pc h2<|pn)

theorem k_palingref26_timely {a1 : Int} {r : Bool} (h : palingref26_timely a1 = some r) :
    CallsOK Tryz.prog UU 187 [.j a1] [] (.v (.bool r)) [] := by
  unfold palingref26_timely at h
  obtain ⟨h2, h⟩|⟨h2, h⟩ := ite_out h
  · injection h with h; subst h; exact rf Tryz.func187 none [.t] (pc h2<|pn)
  · injection h with h; subst h; exact rf Tryz.func187 none [.f] (pc h2<|pn)

theorem k_palingref26_Right_L2 {a1 : List Api_Entry} {v3 : Int} : LoopOK Tryz.prog UU 0 46 (subC (codeOf Tryz.f113) [1, 1, 0, 1, 0, 0, 1, 0, 0, 1, 1, 0, 0]) (ρ := Unit ⊕ Unit) (palingref26_Right_L2 a1 v3)
    (fun v15 : Int => ([(0, .sl 84 a1), (2, .v (.bool false)), (3, .j v3), (4, .j v15)] : Fr DD)) (fun v15 : Int => ([] : Heap DD)) (fun r => match r with | Sum.inl _ => .ret | Sum.inr _ => .exit 2) (fun r => match r with | Sum.inl _ => [(2, .v (.bool false))] | Sum.inr _ => [(0, .sl 84 a1), (2, .v (.bool false)), (3, .j v3)]) (fun r => match r with | Sum.inl _ => [] | Sum.inr _ => []) := by
  refine loop_sound3 (fun s q h => ?_) (fun r => ?_)
  · replace h : palingref26_Right_L2 a1 v3 s = some q := h; revert h; revert s; intro v15 h
    unfold palingref26_Right_L2 at h
    obtain ⟨h16, h⟩|⟨h16, h⟩ := ite_out h
    · obtain ⟨x17, h18, h⟩ := bo h
      obtain ⟨x19, h20, h⟩ := bo h
      obtain ⟨h21, h⟩|⟨h21, h⟩ := ite_out h
      · injection h with h; subst h; exact rl [2] [] [.t, .row (c84 x17), .row (c84 x19), .t] (pc h16<|pc (ob84 h18)<|pc (ob84 h20)<|pc h21<|pn)
      · injection h with h; subst h; exact rl [0, 2, 3, 4] [] [.t, .row (c84 x17), .row (c84 x19), .f] (pc h16<|pc (ob84 h18)<|pc (ob84 h20)<|pc h21<|pn)
    · injection h with h; subst h; exact rl [0, 2, 3] [] [.f] (pc h16<|pn)
  · rcases r with _ | _ <;> exact Ex.noConfusion

theorem k_palingref26_Right_L1 {a1 : List Api_Entry} : LoopOK Tryz.prog UU 0 46 (subC (codeOf Tryz.f113) [1, 1, 0, 1, 0, 0]) (ρ := Unit ⊕ Unit) (palingref26_Right_L1 a1)
    (fun v3 : Int => ([(0, .sl 84 a1), (2, .v (.bool false)), (3, .j v3)] : Fr DD)) (fun v3 : Int => ([] : Heap DD)) (fun r => match r with | Sum.inl _ => .ret | Sum.inr _ => .exit 0) (fun r => match r with | Sum.inl _ => [(2, .v (.bool false))] | Sum.inr _ => [(2, .v (.bool false))]) (fun r => match r with | Sum.inl _ => [] | Sum.inr _ => []) := by
  refine loop_sound3 (fun s q h => ?_) (fun r => ?_)
  · replace h : palingref26_Right_L1 a1 s = some q := h; revert h; revert s; intro v3 h
    unfold palingref26_Right_L1 at h
    obtain ⟨h4, h⟩|⟨h4, h⟩ := ite_out h
    · obtain ⟨x5, h6, h⟩ := bo h
      obtain ⟨r7, h8, h⟩ := bo h
      obtain ⟨h9, h⟩|⟨h9, h⟩ := ite_out h
      · injection h with h; subst h; exact rl [2] [] [.t, .row (c84 x5), .b r7, .t] (pc h4<|pc (ob84 h6)<|pc (k_palingref26_station h8)<|pc h9<|pn)
      · obtain ⟨x10, h11, h⟩ := bo h
        obtain ⟨r12, h13, h⟩ := bo h
        obtain ⟨h14, h⟩|⟨h14, h⟩ := ite_out h
        · injection h with h; subst h; exact rl [2] [] [.t, .row (c84 x5), .b r7, .f, .row (c84 x10), .b r12, .t] (pc h4<|pc (ob84 h6)<|pc (k_palingref26_station h8)<|pc h9<|pc (ob84 h11)<|pc (k_palingref26_timely h13)<|pc h14<|pn)
        · obtain ⟨r23, h22, h⟩ := bo h
          rcases r23 with _ | _
          · injection h with h; subst h; exact rl [2] [] [.t, .row (c84 x5), .b r7, .f, .row (c84 x10), .b r12, .f, .sum [0, 2, 3, 4] [] .ret [(2, .v (.bool false))] []] (pc h4<|pc (ob84 h6)<|pc (k_palingref26_station h8)<|pc h9<|pc (ob84 h11)<|pc (k_palingref26_timely h13)<|pc h14<|pc (k_palingref26_Right_L2 _ _ h22)<|pn)
          · injection h with h; subst h; exact rl [0, 2, 3] [] [.t, .row (c84 x5), .b r7, .f, .row (c84 x10), .b r12, .f, .sum [0, 2, 3, 4] [] (.exit 2) [(0, .sl 84 a1), (2, .v (.bool false)), (3, .j v3)] []] (pc h4<|pc (ob84 h6)<|pc (k_palingref26_station h8)<|pc h9<|pc (ob84 h11)<|pc (k_palingref26_timely h13)<|pc h14<|pc (k_palingref26_Right_L2 _ _ h22)<|pn)
    · injection h with h; subst h; exact rl [2] [] [.f] (pc h4<|pn)
  · rcases r with _ | _ <;> exact Ex.noConfusion

theorem k_palingref26_Right {a1 : List Api_Entry} {r : Bool} (h : palingref26_Right a1 = some r) :
    CallsOK Tryz.prog UU 113 [.sl 84 a1] [] (.v (.bool r)) [] := by
  unfold palingref26_Right at h
  obtain ⟨h2, h⟩|⟨h2, h⟩ := ite_out h
  · injection h with h; subst h; exact rf Tryz.func113 none [.t] (pc h2<|pn)
  · obtain ⟨r25, h24, h⟩ := bo h
    rcases r25 with _ | _
    · injection h with h; subst h; exact rf Tryz.func113 none [.f, .sum [0, 2, 3] [] .ret [(2, .v (.bool false))] []] (pc h2<|pc (k_palingref26_Right_L1 _ _ h24)<|pn)
    · injection h with h; subst h; exact rf Tryz.func113 none [.f, .sum [0, 2, 3] [] (.exit 0) [(2, .v (.bool false))] []] (pc h2<|pc (k_palingref26_Right_L1 _ _ h24)<|pn)

theorem k_palingref26_Find_L1 {a1 : List Api_Entry} {a2 : Int} : LoopOK Tryz.prog UU 0 25 (subC (codeOf Tryz.f188) [1, 0, 1, 0, 0]) (ρ := Int ⊕ Unit) (palingref26_Find_L1 a1 a2)
    (fun v3 : Int => ([(0, .sl 84 a1), (1, .v (.int .u64 a2)), (4, .z), (5, .v (.bool false)), (6, .j v3)] : Fr DD)) (fun v3 : Int => ([] : Heap DD)) (fun r => match r with | Sum.inl v11 => .ret | Sum.inr _ => .exit 0) (fun r => match r with | Sum.inl v11 => [(4, .j v11), (5, .v (.bool true))] | Sum.inr _ => [(4, .z), (5, .v (.bool false))]) (fun r => match r with | Sum.inl v11 => [] | Sum.inr _ => []) := by
  refine loop_sound3 (fun s q h => ?_) (fun r => ?_)
  · replace h : palingref26_Find_L1 a1 a2 s = some q := h; revert h; revert s; intro v3 h
    unfold palingref26_Find_L1 at h
    obtain ⟨h4, h⟩|⟨h4, h⟩ := ite_out h
    · obtain ⟨x5, h6, h⟩ := bo h
      obtain ⟨h7, h⟩|⟨h7, h⟩ := ite_out h
      · obtain ⟨x8, h9, h⟩ := bo h
        injection h with h; subst h; exact rl [4, 5] [] [.t, .row (c84 x5), .t, .row (c84 x8)] (pc h4<|pc (ob84 h6)<|pc h7<|pc (ob84 h9)<|pn)
      · injection h with h; subst h; exact rl [0, 1, 4, 5, 6] [] [.t, .row (c84 x5), .f] (pc h4<|pc (ob84 h6)<|pc h7<|pn)
    · injection h with h; subst h; exact rl [4, 5] [] [.f] (pc h4<|pn)
  · rcases r with _ | _ <;> exact Ex.noConfusion

theorem k_palingref26_Find {a1 : List Api_Entry} {a2 : Int} {r : Int × Bool} (h : palingref26_Find a1 a2 = some r) :
    CallsOK Tryz.prog UU 188 [.sl 84 a1, .v (.int .u64 a2)] [] (.tup [.v (.int .i64 r.1), .v (.bool r.2)]) [] := by
  unfold palingref26_Find at h
  obtain ⟨r13, h12, h⟩ := bo h
  rcases r13 with v11 | _
  · injection h with h; subst h; exact rf Tryz.func188 none [.sum [0, 1, 4, 5, 6] [] .ret [(4, .j v11), (5, .v (.bool true))] []] (pc (k_palingref26_Find_L1 _ _ h12)<|pn)
  · injection h with h; subst h; exact rf Tryz.func188 none [.sum [0, 1, 4, 5, 6] [] (.exit 0) [(4, .z), (5, .v (.bool false))] []] (pc (k_palingref26_Find_L1 _ _ h12)<|pn)

theorem k_palingref26_Learn_L1 {a1 : List Api_Entry} {a2 : Int} {a3 : Int} {a4 : Int} {r17 : Int × Bool} : LoopOK Tryz.prog UU 0 108 (subC (codeOf Tryz.f114) [1, 1, 1, 1, 0, 1, 0, 0]) (fun s : Int × Int => match s with | (v19, v20) => palingref26_Learn_L1 a1 a2 a3 a4 r17 v19 v20)
    (fun s : Int × Int => (match s with | (v19, v20) => [(0, .sl 84 a1), (1, .v (.int .u64 a2)), (2, .j a3), (3, .j a4), (8, .os 0 0), (10, .v (.bool r17.2)), (11, .j v19), (12, .j v20)] : Fr DD)) (fun s : Int × Int => (match s with | (v19, v20) => [.n 84] : Heap DD)) (fun r => match r with | v31 => .exit 0) (fun r => match r with | v31 => [(0, .sl 84 a1), (1, .v (.int .u64 a2)), (2, .j a3), (3, .j a4), (8, .os 0 0), (10, .v (.bool r17.2)), (11, .j v31)]) (fun r => match r with | v31 => [.n 84]) := by
  refine loop_sound3 (fun s q h => ?_) (fun r => ?_)
  · obtain ⟨v19, v20⟩ := s; replace h : palingref26_Learn_L1 a1 a2 a3 a4 r17 v19 v20 = some q := h
    unfold palingref26_Learn_L1 at h
    obtain ⟨h21, h⟩|⟨h21, h⟩ := ite_out h
    · obtain ⟨h22, h⟩|⟨h22, h⟩ := ite_out h
      · obtain ⟨h23, h⟩|⟨h23, h⟩ := ite_out h
        · obtain ⟨h24, h⟩|⟨h24, h⟩ := ite_out h
          · injection h with h; subst h; exact rl [0, 1, 2, 3, 8, 10, 11, 12] [0] [.t, .t, .t, .t] (pc h21<|pc h22<|pc h23<|pc h24<|pn)
          · obtain ⟨x25, h26, h⟩ := bo h
            obtain ⟨x27, h28, h⟩ := bo h
            obtain ⟨h29, h⟩|⟨h29, h⟩ := ite_out h
            · injection h with h; subst h; exact rl [0, 1, 2, 3, 8, 10, 11, 12] [0] [.t, .t, .t, .f, .row (c84 x25), .row (c84 x27), .t] (pc h21<|pc h22<|pc h23<|pc h24<|pc (ob84 h26)<|pc (ob84 h28)<|pc h29<|pn)
            · injection h with h; subst h; exact rl [0, 1, 2, 3, 8, 10, 11, 12] [0] [.t, .t, .t, .f, .row (c84 x25), .row (c84 x27), .f] (pc h21<|pc h22<|pc h23<|pc h24<|pc (ob84 h26)<|pc (ob84 h28)<|pc h29<|pn)
        · injection h with h; subst h; exact rl [0, 1, 2, 3, 8, 10, 11] [0] [.t, .t, .f] (pc h21<|pc h22<|pc h23<|pn)
      · injection h with h; subst h; exact rl [0, 1, 2, 3, 8, 10, 11] [0] [.t, .f] (pc h21<|pc h22<|pn)
    · injection h with h; subst h; exact rl [0, 1, 2, 3, 8, 10, 11] [0] [.f] (pc h21<|pn)
  · exact Ex.noConfusion

theorem k_palingref26_Learn_L2 {a1 : List Api_Entry} {a2 : Int} {a3 : Int} {a4 : Int} {r17 : Int × Bool} {v31 : Int} : LoopOK Tryz.prog UU 0 108 (subC (codeOf Tryz.f114) [1, 1, 1, 1, 1, 1, 0, 1, 0, 0]) (fun s : (List Api_Entry) × Int => match s with | (l34, v35) => palingref26_Learn_L2 a1 a2 a3 a4 r17 v31 l34 v35)
    (fun s : (List Api_Entry) × Int => (match s with | (l34, v35) => [(0, .sl 84 a1), (1, .v (.int .u64 a2)), (2, .j a3), (3, .j a4), (8, .os 0 0), (10, .v (.bool r17.2)), (11, .j v31), (13, .os 1 l34.length), (14, .j v35)] : Fr DD)) (fun s : (List Api_Entry) × Int => (match s with | (l34, v35) => [.n 84, .arr 84 l34 l34.length false] : Heap DD)) (fun r => match r with | l51 => .exit 2) (fun r => match r with | l51 => [(1, .v (.int .u64 a2)), (2, .j a3), (3, .j a4), (8, .os 0 0), (10, .v (.bool r17.2)), (13, .os 1 l51.length)]) (fun r => match r with | l51 => [.n 84, .arr 84 l51 l51.length false]) := by
  refine loop_sound3 (fun s q h => ?_) (fun r => ?_)
  · obtain ⟨l34, v35⟩ := s; replace h : palingref26_Learn_L2 a1 a2 a3 a4 r17 v31 l34 v35 = some q := h
    unfold palingref26_Learn_L2 at h
    obtain ⟨h36, h⟩|⟨h36, h⟩ := ite_out h
    · obtain ⟨x37, h38, h⟩ := bo h
      obtain ⟨h39, h⟩|⟨h39, h⟩ := ite_out h
      · obtain ⟨h40, h⟩|⟨h40, h⟩ := ite_out h
        · injection h with h; subst h; exact rl [0, 1, 2, 3, 8, 10, 11, 13, 14] [0, 1] [.t, .row (c84 x37), .t, .obj [] (.arr 84 [(⟨a2, a3, a4⟩ : Api_Entry)] (List.length [(⟨a2, a3, a4⟩ : Api_Entry)]) false), .obj [] (.arr 84 (l34 ++ [(⟨a2, a3, a4⟩ : Api_Entry)]) (List.length (l34 ++ [(⟨a2, a3, a4⟩ : Api_Entry)])) false)] (pc h36<|pc (ob84 h38)<|pc h39<|pc (bs_ob 84 [(⟨a2, a3, a4⟩ : Api_Entry)])<|pc (app_ob 84 (n := l34.length) (l := l34) (xs := [(⟨a2, a3, a4⟩ : Api_Entry)]) h40)<|pc ((rn (List.length [(⟨a2, a3, a4⟩ : Api_Entry)])))<|pn)
        · cases h
      · obtain ⟨h41, h⟩|⟨h41, h⟩ := ite_out h
        · obtain ⟨x42, h43, h⟩ := bo h
          obtain ⟨h44, h⟩|⟨h44, h⟩ := ite_out h
          · injection h with h; subst h; exact rl [0, 1, 2, 3, 8, 10, 11, 13, 14] [0, 1] [.t, .row (c84 x37), .f, .t, .row (c84 x42), .obj [] (.arr 84 [x42] (List.length [x42]) false), .obj [] (.arr 84 (l34 ++ [x42]) (List.length (l34 ++ [x42])) false)] (pc h36<|pc (ob84 h38)<|pc h39<|pc h41<|pc (ob84 h43)<|pc (bs_ob 84 [x42])<|pc (app_ob 84 (n := l34.length) (l := l34) (xs := [x42]) h44)<|pc ((rn (List.length [x42])))<|pn)
          · cases h
        · injection h with h; subst h; exact rl [0, 1, 2, 3, 8, 10, 11, 13, 14] [0, 1] [.t, .row (c84 x37), .f, .f] (pc h36<|pc (ob84 h38)<|pc h39<|pc h41<|pn)
    · injection h with h; subst h; exact rl [1, 2, 3, 8, 10, 13] [0, 1] [.f] (pc h36<|pn)
  · exact Ex.noConfusion

theorem k_palingref26_Learn {a1 : List Api_Entry} {a2 : Int} {a3 : Int} {a4 : Int} {r : ((List Api_Entry))} (h : palingref26_Learn a1 a2 a3 a4 = some r) :
    CallsOK Tryz.prog UU 114 [.sl 84 a1, .v (.int .u64 a2), .j a3, .j a4] [] ((fun r => match r with | l56 => .os 0 l56.length) r) ((fun r => match r with | l56 => [.arr 84 l56 l56.length false]) r) := by
  unfold palingref26_Learn at h
  obtain ⟨r5, h6, h⟩ := bo h
  obtain ⟨h7, h⟩|⟨h7, h⟩ := ite_out h
  · obtain ⟨h8, h⟩|⟨h8, h⟩ := ite_out h
    · injection h with h; subst h; exact rf Tryz.func114 (some [1]) [.b r5, .t, .obj [] (.n 84), .obj [] (.arr 84 (a1) a1.length false)] (pc (k_palingref26_Right h6)<|pc h7<|pc (bs_ob 84 [])<|pc (app_ob 84 (n := 0) (l := []) (xs := a1) h8)<|pn)
    · cases h
  · obtain ⟨r9, h10, h⟩ := bo h
    obtain ⟨h11, h⟩|⟨h11, h⟩ := ite_out h
    · obtain ⟨h12, h⟩|⟨h12, h⟩ := ite_out h
      · injection h with h; subst h; exact rf Tryz.func114 (some [1]) [.b r5, .f, .b r9, .t, .obj [] (.n 84), .obj [] (.arr 84 (a1) a1.length false)] (pc (k_palingref26_Right h6)<|pc h7<|pc (k_palingref26_station h10)<|pc h11<|pc (bs_ob 84 [])<|pc (app_ob 84 (n := 0) (l := []) (xs := a1) h12)<|pn)
      · cases h
    · obtain ⟨r13, h14, h⟩ := bo h
      obtain ⟨h15, h⟩|⟨h15, h⟩ := ite_out h
      · obtain ⟨h16, h⟩|⟨h16, h⟩ := ite_out h
        · injection h with h; subst h; exact rf Tryz.func114 (some [1]) [.b r5, .f, .b r9, .f, .b r13, .t, .obj [] (.n 84), .obj [] (.arr 84 (a1) a1.length false)] (pc (k_palingref26_Right h6)<|pc h7<|pc (k_palingref26_station h10)<|pc h11<|pc (k_palingref26_timely h14)<|pc h15<|pc (bs_ob 84 [])<|pc (app_ob 84 (n := 0) (l := []) (xs := a1) h16)<|pn)
        · cases h
      · obtain ⟨r17, h18, h⟩ := bo h
        obtain ⟨v31, h32, h⟩ := bo h
        obtain ⟨l51, h52, h⟩ := bo h
        obtain ⟨h54, h⟩|⟨h54, h⟩ := ite_out h
        · obtain ⟨h55, h⟩|⟨h55, h⟩ := ite_out h
          · injection h with h; subst h; exact rf Tryz.func114 (some [1]) [.b r5, .f, .b r9, .f, .b r13, .f, .callv (.tup [.v (.int .i64 r17.1), .v (.bool r17.2)]), .sum [0, 1, 2, 3, 8, 10, 11, 12] [0] (.exit 0) [(0, .sl 84 a1), (1, .v (.int .u64 a2)), (2, .j a3), (3, .j a4), (8, .os 0 0), (10, .v (.bool r17.2)), (11, .j v31)] [.n 84], .sum [0, 1, 2, 3, 8, 10, 11, 13, 14] [0, 1] (.exit 2) [(1, .v (.int .u64 a2)), (2, .j a3), (3, .j a4), (8, .os 0 0), (10, .v (.bool r17.2)), (13, .os 1 l51.length)] [.n 84, .arr 84 l51 l51.length false], .t, .obj [] (.arr 84 [(⟨a2, a3, a4⟩ : Api_Entry)] (List.length [(⟨a2, a3, a4⟩ : Api_Entry)]) false), .obj [] (.arr 84 (l51 ++ [(⟨a2, a3, a4⟩ : Api_Entry)]) (List.length (l51 ++ [(⟨a2, a3, a4⟩ : Api_Entry)])) false)] (pc (k_palingref26_Right h6)<|pc h7<|pc (k_palingref26_station h10)<|pc h11<|pc (k_palingref26_timely h14)<|pc h15<|pc (k_palingref26_Find h18)<|pc (k_palingref26_Learn_L1 _ _ h32)<|pc (k_palingref26_Learn_L2 _ _ h52)<|pc h54<|pc (bs_ob 84 [(⟨a2, a3, a4⟩ : Api_Entry)])<|pc (app_ob 84 (n := l51.length) (l := l51) (xs := [(⟨a2, a3, a4⟩ : Api_Entry)]) h55)<|pc ((rn (List.length [(⟨a2, a3, a4⟩ : Api_Entry)])))<|pn)
          · cases h
        · injection h with h; subst h; exact rf Tryz.func114 (some [1]) [.b r5, .f, .b r9, .f, .b r13, .f, .callv (.tup [.v (.int .i64 r17.1), .v (.bool r17.2)]), .sum [0, 1, 2, 3, 8, 10, 11, 12] [0] (.exit 0) [(0, .sl 84 a1), (1, .v (.int .u64 a2)), (2, .j a3), (3, .j a4), (8, .os 0 0), (10, .v (.bool r17.2)), (11, .j v31)] [.n 84], .sum [0, 1, 2, 3, 8, 10, 11, 13, 14] [0, 1] (.exit 2) [(1, .v (.int .u64 a2)), (2, .j a3), (3, .j a4), (8, .os 0 0), (10, .v (.bool r17.2)), (13, .os 1 l51.length)] [.n 84, .arr 84 l51 l51.length false], .f] (pc (k_palingref26_Right h6)<|pc h7<|pc (k_palingref26_station h10)<|pc h11<|pc (k_palingref26_timely h14)<|pc h15<|pc (k_palingref26_Find h18)<|pc (k_palingref26_Learn_L1 _ _ h32)<|pc (k_palingref26_Learn_L2 _ _ h52)<|pc h54<|pn)

theorem k_palingref01_Host {a1 : Int} {r : Int} (h : palingref01_Host a1 = some r) :
    CallsOK Tryz.prog UU 189 [.v (.int .u32 a1)] [] (.v (.int .u64 r)) [] := by
  unfold palingref01_Host at h
  injection h with h; subst h; exact rf Tryz.func189 none [] (pn)

theorem k_palingref20_Router_L1 {a1 : Api_Net} {a2 : Int} {a3 : Int} : LoopOK Tryz.prog UU 0 37 (subC (codeOf Tryz.f115) [1, 0, 1, 0, 0]) (ρ := Int ⊕ Unit) (palingref20_Router_L1 a1 a2 a3)
    (fun v4 : Int => ([(1, .j a2), (2, .v (.int .u64 a3)), (3, .op 0 1 0 0), (6, .z), (7, .v (.bool false)), (8, .j v4)] : Fr DD)) (fun v4 : Int => ([.box 31 (c31 a1) false] : Heap DD)) (fun r => match r with | Sum.inl v15 => .ret | Sum.inr _ => .exit 0) (fun r => match r with | Sum.inl v15 => [(6, .j v15), (7, .v (.bool true))] | Sum.inr _ => [(6, .z), (7, .v (.bool false))]) (fun r => match r with | Sum.inl v15 => [] | Sum.inr _ => []) := by
  refine loop_sound3 (fun s q h => ?_) (fun r => ?_)
  · replace h : palingref20_Router_L1 a1 a2 a3 s = some q := h; revert h; revert s; intro v4 h
    unfold palingref20_Router_L1 at h
    obtain ⟨h5, h⟩|⟨h5, h⟩ := ite_out h
    · obtain ⟨x6, h7, h⟩ := bo h
      obtain ⟨h8, h⟩|⟨h8, h⟩ := ite_out h
      · obtain ⟨x9, h10, h⟩ := bo h
        obtain ⟨r11, h12, h⟩ := bo h
        obtain ⟨h13, h⟩|⟨h13, h⟩ := ite_out h
        · injection h with h; subst h; exact rl [6, 7] [] [.t, .row (c118 x6), .t, .row (c118 x9), .callv (.v (.int .u64 r11)), .t] (pc h5<|pc (ob118 h7)<|pc h8<|pc (ob118 h10)<|pc (k_palingref01_Host h12)<|pc h13<|pn)
        · injection h with h; subst h; exact rl [1, 2, 3, 6, 7, 8] [0] [.t, .row (c118 x6), .t, .row (c118 x9), .callv (.v (.int .u64 r11)), .f] (pc h5<|pc (ob118 h7)<|pc h8<|pc (ob118 h10)<|pc (k_palingref01_Host h12)<|pc h13<|pn)
      · injection h with h; subst h; exact rl [1, 2, 3, 6, 7, 8] [0] [.t, .row (c118 x6), .f] (pc h5<|pc (ob118 h7)<|pc h8<|pn)
    · injection h with h; subst h; exact rl [6, 7] [] [.f] (pc h5<|pn)
  · rcases r with _ | _ <;> exact Ex.noConfusion

theorem k_palingref20_Router {a1 : Api_Net} {a2 : Int} {a3 : Int} {r : Int × Bool} (h : palingref20_Router a1 a2 a3 = some r) :
    CallsOK Tryz.prog UU 115 [.agg (c31 a1), .j a2, .v (.int .u64 a3)] [] (.tup [.v (.int .i64 r.1), .v (.bool r.2)]) [] := by
  unfold palingref20_Router at h
  obtain ⟨r17, h16, h⟩ := bo h
  rcases r17 with v15 | _
  · injection h with h; subst h; exact rf Tryz.func115 none [.sum [1, 2, 3, 6, 7, 8] [0] .ret [(6, .j v15), (7, .v (.bool true))] []] (pc (k_palingref20_Router_L1 _ _ h16)<|pn)
  · injection h with h; subst h; exact rf Tryz.func115 none [.sum [1, 2, 3, 6, 7, 8] [0] (.exit 0) [(6, .z), (7, .v (.bool false))] []] (pc (k_palingref20_Router_L1 _ _ h16)<|pn)

theorem k_palingref07_number_L1 {a1 : List Int} : LoopOK Tryz.prog UU 0 20 (subC (codeOf Tryz.f239) [1, 1, 0, 1, 0, 0]) (fun s : Int × Int => match s with | (v2, v3) => palingref07_number_L1 a1 v2 v3)
    (fun s : Int × Int => (match s with | (v2, v3) => [(0, .sl 5 a1), (2, .z), (3, .j v2), (4, .j v3)] : Fr DD)) (fun s : Int × Int => (match s with | (v2, v3) => [] : Heap DD)) (fun r => match r with | v8 => .exit 0) (fun r => match r with | v8 => [(2, .z), (3, .j v8)]) (fun r => match r with | v8 => []) := by
  refine loop_sound3 (fun s q h => ?_) (fun r => ?_)
  · obtain ⟨v2, v3⟩ := s; replace h : palingref07_number_L1 a1 v2 v3 = some q := h
    unfold palingref07_number_L1 at h
    obtain ⟨h4, h⟩|⟨h4, h⟩ := ite_out h
    · obtain ⟨x5, h6, h⟩ := bo h
      injection h with h; subst h; exact rl [0, 2, 3, 4] [] [.t, .row (c5 x5)] (pc h4<|pc (ob5 h6)<|pn)
    · injection h with h; subst h; exact rl [2, 3] [] [.f] (pc h4<|pn)
  · exact Ex.noConfusion

theorem k_palingref07_number {a1 : List Int} {r : Int} (h : palingref07_number a1 = some r) :
    CallsOK Tryz.prog UU 239 [.sl 5 a1] [] (.j r) [] := by
  unfold palingref07_number at h
  obtain ⟨v8, h9, h⟩ := bo h
  injection h with h; subst h; exact rf Tryz.func239 none [.sum [0, 2, 3, 4] [] (.exit 0) [(2, .z), (3, .j v8)] []] (pc (k_palingref07_number_L1 _ _ h9)<|pn)

theorem k_palingref06_Sum_L1 {a1 : List Int} : LoopOK Tryz.prog UU 0 39 (subC (codeOf Tryz.f271) [1, 1, 0, 1, 0, 0]) (fun s : Int × Int => match s with | (v2, v3) => palingref06_Sum_L1 a1 v2 v3)
    (fun s : Int × Int => (match s with | (v2, v3) => [(0, .sl 5 a1), (2, .z), (3, .j v2), (4, .j v3)] : Fr DD)) (fun s : Int × Int => (match s with | (v2, v3) => [] : Heap DD)) (fun r => match r with | v13 => .exit 0) (fun r => match r with | v13 => [(2, .z), (3, .j v13)]) (fun r => match r with | v13 => []) := by
  refine loop_sound3 (fun s q h => ?_) (fun r => ?_)
  · obtain ⟨v2, v3⟩ := s; replace h : palingref06_Sum_L1 a1 v2 v3 = some q := h
    unfold palingref06_Sum_L1 at h
    obtain ⟨h4, h⟩|⟨h4, h⟩ := ite_out h
    · obtain ⟨x5, h6, h⟩ := bo h
      obtain ⟨h7, h⟩|⟨h7, h⟩ := ite_out h
      · obtain ⟨x8, h9, h⟩ := bo h
        obtain ⟨h10, h⟩|⟨h10, h⟩ := ite_out h
        · injection h with h; subst h; exact rl [0, 2, 3, 4] [] [.t, .row (c5 x5), .t, .row (c5 x8), .t] (pc h4<|pc (ob5 h6)<|pc h7<|pc (ob5 h9)<|pc h10<|pn)
        · injection h with h; subst h; exact rl [0, 2, 3, 4] [] [.t, .row (c5 x5), .t, .row (c5 x8), .f] (pc h4<|pc (ob5 h6)<|pc h7<|pc (ob5 h9)<|pc h10<|pn)
      · obtain ⟨h11, h⟩|⟨h11, h⟩ := ite_out h
        · injection h with h; subst h; exact rl [0, 2, 3, 4] [] [.t, .row (c5 x5), .f, .t] (pc h4<|pc (ob5 h6)<|pc h7<|pc h11<|pn)
        · injection h with h; subst h; exact rl [0, 2, 3, 4] [] [.t, .row (c5 x5), .f, .f] (pc h4<|pc (ob5 h6)<|pc h7<|pc h11<|pn)
    · injection h with h; subst h; exact rl [2, 3] [] [.f] (pc h4<|pn)
  · exact Ex.noConfusion

theorem k_palingref06_Sum {a1 : List Int} {r : Int} (h : palingref06_Sum a1 = some r) :
    CallsOK Tryz.prog UU 271 [.sl 5 a1] [] (.j r) [] := by
  unfold palingref06_Sum at h
  obtain ⟨v13, h14, h⟩ := bo h
  injection h with h; subst h; exact rf Tryz.func271 none [.sum [0, 2, 3, 4] [] (.exit 0) [(2, .z), (3, .j v13)] []] (pc (k_palingref06_Sum_L1 _ _ h14)<|pn)

theorem k_palingref06_Right {a1 : List Int} {r : Bool} (h : palingref06_Right a1 = some r) :
    CallsOK Tryz.prog UU 240 [.sl 5 a1] [] (.v (.bool r)) [] := by
  unfold palingref06_Right at h
  obtain ⟨r2, h3, h⟩ := bo h
  injection h with h; subst h; exact rf Tryz.func240 none [.callv (.j r2)] (pc (k_palingref06_Sum h3)<|pn)

theorem k_palingref07_Take {a1 : List Int} {r : ((List Int) × Int × Int × Int × Int × Int × Int × Int)} (h : palingref07_Take a1 = some r) :
    CallsOK Tryz.prog UU 190 [.sl 5 a1] [] ((fun r => match r with | (l36, v37, v38, v39, v40, v41, v42, v43) => .tup [.agg [.j v37, .j v38, .j v39, .j v40, .v (.int .u32 v41), .v (.int .u32 v42), .os 0 l36.length], .j v43]) r) ((fun r => match r with | (l36, v37, v38, v39, v40, v41, v42, v43) => [.arr 5 l36 l36.length false]) r) := by
  unfold palingref07_Take at h
  obtain ⟨h2, h⟩|⟨h2, h⟩ := ite_out h
  · injection h with h; subst h; exact rf Tryz.func190 (some [2]) [.t] (pc h2<|pn)
  · obtain ⟨h3, h⟩|⟨h3, h⟩ := ite_out h
    · obtain ⟨r4, h5, h⟩ := bo h
      obtain ⟨x6, h7, h⟩ := bo h
      obtain ⟨h8, h⟩|⟨h8, h⟩ := ite_out h
      · injection h with h; subst h; exact rf Tryz.func190 (some [2]) [.f, .callv (.j r4), .row (c5 x6), .t] (pc h2<|pc (sl_ob h3)<|pc (k_palingref07_number h5)<|pc (ob5 h7)<|pc h8<|pn)
      · obtain ⟨h9, h⟩|⟨h9, h⟩ := ite_out h
        · injection h with h; subst h; exact rf Tryz.func190 (some [2]) [.f, .callv (.j r4), .row (c5 x6), .f, .t] (pc h2<|pc (sl_ob h3)<|pc (k_palingref07_number h5)<|pc (ob5 h7)<|pc h8<|pc h9<|pn)
        · obtain ⟨h10, h⟩|⟨h10, h⟩ := ite_out h
          · injection h with h; subst h; exact rf Tryz.func190 (some [2]) [.f, .callv (.j r4), .row (c5 x6), .f, .f, .t] (pc h2<|pc (sl_ob h3)<|pc (k_palingref07_number h5)<|pc (ob5 h7)<|pc h8<|pc h9<|pc h10<|pn)
          · obtain ⟨h11, h⟩|⟨h11, h⟩ := ite_out h
            · obtain ⟨r12, h13, h⟩ := bo h
              obtain ⟨h14, h⟩|⟨h14, h⟩ := ite_out h
              · injection h with h; subst h; exact rf Tryz.func190 (some [2]) [.f, .callv (.j r4), .row (c5 x6), .f, .f, .f, .callv (.j r12), .t] (pc h2<|pc (sl_ob h3)<|pc (k_palingref07_number h5)<|pc (ob5 h7)<|pc h8<|pc h9<|pc h10<|pc (sl_ob h11)<|pc (k_palingref07_number h13)<|pc h14<|pn)
              · obtain ⟨h15, h⟩|⟨h15, h⟩ := ite_out h
                · obtain ⟨r16, h17, h⟩ := bo h
                  obtain ⟨h18, h⟩|⟨h18, h⟩ := ite_out h
                  · injection h with h; subst h; exact rf Tryz.func190 (some [2]) [.f, .callv (.j r4), .row (c5 x6), .f, .f, .f, .callv (.j r12), .f, .b r16, .t] (pc h2<|pc (sl_ob h3)<|pc (k_palingref07_number h5)<|pc (ob5 h7)<|pc h8<|pc h9<|pc h10<|pc (sl_ob h11)<|pc (k_palingref07_number h13)<|pc h14<|pc (sl_ob h15)<|pc (k_palingref06_Right h17)<|pc h18<|pn)
                  · obtain ⟨x19, h20, h⟩ := bo h
                    obtain ⟨h21, h⟩|⟨h21, h⟩ := ite_out h
                    · obtain ⟨r22, h23, h⟩ := bo h
                      obtain ⟨x24, h25, h⟩ := bo h
                      obtain ⟨x26, h27, h⟩ := bo h
                      obtain ⟨h28, h⟩|⟨h28, h⟩ := ite_out h
                      · obtain ⟨r29, h30, h⟩ := bo h
                        obtain ⟨h31, h⟩|⟨h31, h⟩ := ite_out h
                        · obtain ⟨r32, h33, h⟩ := bo h
                          obtain ⟨h34, h⟩|⟨h34, h⟩ := ite_out h
                          · obtain ⟨h35, h⟩|⟨h35, h⟩ := ite_out h
                            · injection h with h; subst h; exact rf Tryz.func190 (some [5]) [.f, .callv (.j r4), .row (c5 x6), .f, .f, .f, .callv (.j r12), .f, .b r16, .f, .row (c5 x19), .callv (.j r22), .row (c5 x24), .row (c5 x26), .callv (.j r29), .callv (.j r32), .obj [] (.n 5), .obj [] (.arr 5 (List.drop (Int.toNat 20) (List.take r4.toNat a1)) (List.length (List.drop (Int.toNat 20) (List.take r4.toNat a1))) false)] (pc h2<|pc (sl_ob h3)<|pc (k_palingref07_number h5)<|pc (ob5 h7)<|pc h8<|pc h9<|pc h10<|pc (sl_ob h11)<|pc (k_palingref07_number h13)<|pc h14<|pc (sl_ob h15)<|pc (k_palingref06_Right h17)<|pc h18<|pc (ob5 h20)<|pc (sl_ob h21)<|pc (k_palingref07_number h23)<|pc (ob5 h25)<|pc (ob5 h27)<|pc (sl_ob h28)<|pc (k_palingref07_number h30)<|pc (sl_ob h31)<|pc (k_palingref07_number h33)<|pc (bs_ob 5 [])<|pc (sl_ob h34)<|pc (app_ob 5 (n := 0) (l := []) (xs := List.drop (Int.toNat 20) (List.take r4.toNat a1)) h35)<|pn)
                            · cases h
                          · cases h
                        · cases h
                      · cases h
                    · cases h
                · cases h
            · cases h
    · cases h

theorem k_palingref07_Hop {a1 : Api_Packet} {r : (Api_Packet × Int)} (h : palingref07_Hop a1 = some r) :
    CallsOK Tryz.prog UU 191 [.agg (c224 a1)] [] ((fun r => match r with | (r3, r4) => .tup [.agg (c224 r3), .j r4]) r) ((fun r => match r with | (r3, r4) => []) r) := by
  unfold palingref07_Hop at h
  obtain ⟨h2, h⟩|⟨h2, h⟩ := ite_out h
  · injection h with h; subst h; exact runFz_sound mixedOrders Tryz.func191 rfl (ids := []) (fz := [3]) (π := [.t]) (hrun := by kernel_rfl) (hps := pc h2<|pc (rn 0)<|pn)
  · injection h with h; subst h; exact runFz_sound mixedOrders Tryz.func191 rfl (ids := []) (fz := []) (π := [.f]) (hrun := by kernel_rfl) (hps := pc h2<|pn)

theorem k_palingref30_device {a1 : Api_Net} {a2 : Int} {r : Int} (h : palingref30_device a1 a2 = some r) :
    CallsOK Tryz.prog UU 241 [.agg (c31 a1), .j a2] [] (.j r) [] := by
  unfold palingref30_device at h
  obtain ⟨x3, h4, h⟩ := bo h
  obtain ⟨x5, h6, h⟩ := bo h
  injection h with h; subst h; exact rf Tryz.func241 none [.row (c118 x3), .row (c93 x5)] (pc (ob118 h4)<|pc (ob93 h6)<|pn)

theorem k_palingref02_Right {a1 : Api_Prefix} {r : Bool} (h : palingref02_Right a1 = some r) :
    CallsOK Tryz.prog UU 272 [.agg (c116 a1)] [] (.v (.bool r)) [] := by
  unfold palingref02_Right at h
  obtain ⟨h2, h⟩|⟨h2, h⟩ := ite_out h
  · injection h with h; subst h; exact rf Tryz.func272 none [.t] (pc h2<|pn)
  · injection h with h; subst h; exact rf Tryz.func272 none [.f] (pc h2<|pn)

end Go.Eng
