/- Part of the proof of LinksAdds: printed mirrors of the functions, or their contracts. No conditions. -/
import Derived.Test.YtgnkkbimeghieaaGreatMAK6
set_option linter.unusedVariables false
set_option maxRecDepth 100000
namespace Go.Eng
open Go Go.Proofs
theorem k_palingref15_domains_L1 {a1 : Api_Net} : LoopOK Tryz.prog UU 0 120 (subC (codeOf Tryz.f92) [1, 0, 1, 0, 0]) (ρ := Unit ⊕ Unit) (palingref15_domains_L1 a1)
    (fun v2 : Int => ([(1, .op 0 1 0 0), (2, .v (.bool false)), (3, .j v2)] : Fr DD)) (fun v2 : Int => ([.box 31 (c31 a1) false] : Heap DD)) (fun r => match r with | Sum.inl _ => .ret | Sum.inr _ => .exit 0) (fun r => match r with | Sum.inl _ => [(2, .v (.bool false))] | Sum.inr _ => [(1, .op 0 1 0 0), (2, .v (.bool false))]) (fun r => match r with | Sum.inl _ => [] | Sum.inr _ => [.box 31 (c31 a1) false]) := by
  refine loop_sound3 (fun s q h => ?_) (fun r => ?_)
  · replace h : palingref15_domains_L1 a1 s = some q := h; revert h; revert s; intro v2 h
    unfold palingref15_domains_L1 at h
    rcases ite_out h with ⟨h3, h⟩ | ⟨h3, h⟩
    · obtain ⟨x4, h5, h⟩ := bind_out h
      obtain ⟨r6, h7, h⟩ := bind_out h
      rcases ite_out h with ⟨h8, h⟩ | ⟨h8, h⟩
      · injection h with h; subst h; exact rl [2] [] [.dec true, .row (c56 x4), .callv (.v (.bool r6)), .dec true] (by kernel_rfl) (pc (h3) <| pc (ob56 h5) <| pc (k_palingref15_Place h7) <| pc (h8) <| pn)
      · rcases ite_out h with ⟨h9, h⟩ | ⟨h9, h⟩
        · injection h with h; subst h; exact rl [2] [] [.dec true, .row (c56 x4), .callv (.v (.bool r6)), .dec false, .dec true] (by kernel_rfl) (pc (h3) <| pc (ob56 h5) <| pc (k_palingref15_Place h7) <| pc (h8) <| pc (h9) <| pn)
        · rcases ite_out h with ⟨h10, h⟩ | ⟨h10, h⟩
          · injection h with h; subst h; exact rl [2] [] [.dec true, .row (c56 x4), .callv (.v (.bool r6)), .dec false, .dec false, .dec true] (by kernel_rfl) (pc (h3) <| pc (ob56 h5) <| pc (k_palingref15_Place h7) <| pc (h8) <| pc (h9) <| pc (h10) <| pn)
          · rcases ite_out h with ⟨h11, h⟩ | ⟨h11, h⟩
            · injection h with h; subst h; exact rl [2] [] [.dec true, .row (c56 x4), .callv (.v (.bool r6)), .dec false, .dec false, .dec false, .dec true] (by kernel_rfl) (pc (h3) <| pc (ob56 h5) <| pc (k_palingref15_Place h7) <| pc (h8) <| pc (h9) <| pc (h10) <| pc (h11) <| pn)
            · rcases ite_out h with ⟨h12, h⟩ | ⟨h12, h⟩
              · injection h with h; subst h; exact rl [2] [] [.dec true, .row (c56 x4), .callv (.v (.bool r6)), .dec false, .dec false, .dec false, .dec false, .dec true] (by kernel_rfl) (pc (h3) <| pc (ob56 h5) <| pc (k_palingref15_Place h7) <| pc (h8) <| pc (h9) <| pc (h10) <| pc (h11) <| pc (h12) <| pn)
              · obtain ⟨r13, h14, h⟩ := bind_out h
                rcases ite_out h with ⟨h15, h⟩ | ⟨h15, h⟩
                · injection h with h; subst h; exact rl [2] [] [.dec true, .row (c56 x4), .callv (.v (.bool r6)), .dec false, .dec false, .dec false, .dec false, .dec false, .callv (.j r13), .dec true] (by kernel_rfl) (pc (h3) <| pc (ob56 h5) <| pc (k_palingref15_Place h7) <| pc (h8) <| pc (h9) <| pc (h10) <| pc (h11) <| pc (h12) <| pc (k_palingref15_At h14) <| pc (h15) <| pn)
                · rcases ite_out h with ⟨h16, h⟩ | ⟨h16, h⟩
                  · obtain ⟨r17, h18, h⟩ := bind_out h
                    rcases ite_out h with ⟨h19, h⟩ | ⟨h19, h⟩
                    · injection h with h; subst h; exact rl [2] [] [.dec true, .row (c56 x4), .callv (.v (.bool r6)), .dec false, .dec false, .dec false, .dec false, .dec false, .callv (.j r13), .dec false, .dec true, .callv (.v (.bool r17)), .dec true] (by kernel_rfl) (pc (h3) <| pc (ob56 h5) <| pc (k_palingref15_Place h7) <| pc (h8) <| pc (h9) <| pc (h10) <| pc (h11) <| pc (h12) <| pc (k_palingref15_At h14) <| pc (h15) <| pc (h16) <| pc (k_palingref15_Place h18) <| pc (h19) <| pn)
                    · obtain ⟨x20, h21, h⟩ := bind_out h
                      rcases ite_out h with ⟨h22, h⟩ | ⟨h22, h⟩
                      · injection h with h; subst h; exact rl [2] [] [.dec true, .row (c56 x4), .callv (.v (.bool r6)), .dec false, .dec false, .dec false, .dec false, .dec false, .callv (.j r13), .dec false, .dec true, .callv (.v (.bool r17)), .dec false, .row (c101 x20), .dec true] (by kernel_rfl) (pc (h3) <| pc (ob56 h5) <| pc (k_palingref15_Place h7) <| pc (h8) <| pc (h9) <| pc (h10) <| pc (h11) <| pc (h12) <| pc (k_palingref15_At h14) <| pc (h15) <| pc (h16) <| pc (k_palingref15_Place h18) <| pc (h19) <| pc (ob101 h21) <| pc (h22) <| pn)
                      · injection h with h; subst h; exact rl [1, 2, 3] [0] [.dec true, .row (c56 x4), .callv (.v (.bool r6)), .dec false, .dec false, .dec false, .dec false, .dec false, .callv (.j r13), .dec false, .dec true, .callv (.v (.bool r17)), .dec false, .row (c101 x20), .dec false] (by kernel_rfl) (pc (h3) <| pc (ob56 h5) <| pc (k_palingref15_Place h7) <| pc (h8) <| pc (h9) <| pc (h10) <| pc (h11) <| pc (h12) <| pc (k_palingref15_At h14) <| pc (h15) <| pc (h16) <| pc (k_palingref15_Place h18) <| pc (h19) <| pc (ob101 h21) <| pc (h22) <| pn)
                  · injection h with h; subst h; exact rl [1, 2, 3] [0] [.dec true, .row (c56 x4), .callv (.v (.bool r6)), .dec false, .dec false, .dec false, .dec false, .dec false, .callv (.j r13), .dec false, .dec false] (by kernel_rfl) (pc (h3) <| pc (ob56 h5) <| pc (k_palingref15_Place h7) <| pc (h8) <| pc (h9) <| pc (h10) <| pc (h11) <| pc (h12) <| pc (k_palingref15_At h14) <| pc (h15) <| pc (h16) <| pn)
    · injection h with h; subst h; exact rl [1, 2] [0] [.dec false] (by kernel_rfl) (pc (h3) <| pn)
  · rcases r with _ | _ <;> exact Ex.noConfusion

theorem k_palingref15_domains_L3 {a1 : Api_Net} {v25 : Int} {x27 : Api_Domain} : LoopOK Tryz.prog UU 0 120 (subC (codeOf Tryz.f92) [1, 1, 0, 1, 0, 0, 1, 0, 0, 1, 1, 0, 0]) (ρ := Unit ⊕ Unit) (palingref15_domains_L3 a1 v25 x27)
    (fun v29 : Int => ([(1, .op 0 1 0 0), (2, .v (.bool false)), (5, .j v25), (6, .op 1 1 0 0), (7, .j v29)] : Fr DD)) (fun v29 : Int => ([.box 31 (c31 a1) false, .box 56 (c56 x27) false] : Heap DD)) (fun r => match r with | Sum.inl _ => .ret | Sum.inr _ => .exit 4) (fun r => match r with | Sum.inl _ => [(2, .v (.bool false))] | Sum.inr _ => [(1, .op 0 1 0 0), (2, .v (.bool false)), (5, .j v25)]) (fun r => match r with | Sum.inl _ => [] | Sum.inr _ => [.box 31 (c31 a1) false]) := by
  refine loop_sound3 (fun s q h => ?_) (fun r => ?_)
  · replace h : palingref15_domains_L3 a1 v25 x27 s = some q := h; revert h; revert s; intro v29 h
    unfold palingref15_domains_L3 at h
    rcases ite_out h with ⟨h30, h⟩ | ⟨h30, h⟩
    · obtain ⟨x31, h32, h⟩ := bind_out h
      obtain ⟨r33, h34, h⟩ := bind_out h
      rcases ite_out h with ⟨h35, h⟩ | ⟨h35, h⟩
      · injection h with h; subst h; exact rl [2] [] [.dec true, .row (c3 x31), .callv (.v (.bool r33)), .dec true] (by kernel_rfl) (pc (h30) <| pc (ob3 h32) <| pc (k_palingref15_peer h34) <| pc (h35) <| pn)
      · rcases ite_out h with ⟨h36, h⟩ | ⟨h36, h⟩
        · obtain ⟨x37, h38, h⟩ := bind_out h
          obtain ⟨r39, h40, h⟩ := bind_out h
          rcases ite_out h with ⟨h41, h⟩ | ⟨h41, h⟩
          · injection h with h; subst h; exact rl [2] [] [.dec true, .row (c3 x31), .callv (.v (.bool r33)), .dec false, .row (c3 x37), .callv (.v (.bool r39)), .dec true] (by kernel_rfl) (pc (h30) <| pc (ob3 h32) <| pc (k_palingref15_peer h34) <| pc (h35) <| pc (sl_ob h36) <| pc (ob3 h38) <| pc (k_palingref15_In h40) <| pc (h41) <| pn)
          · injection h with h; subst h; exact rl [1, 2, 5, 6, 7] [0, 1] [.dec true, .row (c3 x31), .callv (.v (.bool r33)), .dec false, .row (c3 x37), .callv (.v (.bool r39)), .dec false] (by kernel_rfl) (pc (h30) <| pc (ob3 h32) <| pc (k_palingref15_peer h34) <| pc (h35) <| pc (sl_ob h36) <| pc (ob3 h38) <| pc (k_palingref15_In h40) <| pc (h41) <| pn)
        · cases h
    · injection h with h; subst h; exact rl [1, 2, 5] [0] [.dec false] (by kernel_rfl) (pc (h30) <| pn)
  · rcases r with _ | _ <;> exact Ex.noConfusion

theorem k_palingref15_domains_L2 {a1 : Api_Net} : LoopOK Tryz.prog UU 0 120 (subC (codeOf Tryz.f92) [1, 1, 0, 1, 0, 0]) (ρ := Unit ⊕ Unit) (palingref15_domains_L2 a1)
    (fun v25 : Int => ([(1, .op 0 1 0 0), (2, .v (.bool false)), (5, .j v25)] : Fr DD)) (fun v25 : Int => ([.box 31 (c31 a1) false] : Heap DD)) (fun r => match r with | Sum.inl _ => .ret | Sum.inr _ => .exit 2) (fun r => match r with | Sum.inl _ => [(2, .v (.bool false))] | Sum.inr _ => [(2, .v (.bool false))]) (fun r => match r with | Sum.inl _ => [] | Sum.inr _ => []) := by
  refine loop_sound3 (fun s q h => ?_) (fun r => ?_)
  · replace h : palingref15_domains_L2 a1 s = some q := h; revert h; revert s; intro v25 h
    unfold palingref15_domains_L2 at h
    rcases ite_out h with ⟨h26, h⟩ | ⟨h26, h⟩
    · obtain ⟨x27, h28, h⟩ := bind_out h
      obtain ⟨r43, h42, h⟩ := bind_out h
      rcases r43 with _ | _
      · injection h with h; subst h; exact rl [2] [] [.dec true, .row (c56 x27), .sum [1, 2, 5, 6, 7] [0, 2] .ret [(2, .v (.bool false))] []] (by kernel_rfl) (pc (h26) <| pc (ob56 h28) <| pc (k_palingref15_domains_L3 _ _ h42) <| pn)
      · injection h with h; subst h; exact rl [1, 2, 5] [0] [.dec true, .row (c56 x27), .sum [1, 2, 5, 6, 7] [0, 2] (.exit 4) [(1, .op 0 1 0 0), (2, .v (.bool false)), (5, .j v25)] [.box 31 (c31 a1) false]] (by kernel_rfl) (pc (h26) <| pc (ob56 h28) <| pc (k_palingref15_domains_L3 _ _ h42) <| pn)
    · injection h with h; subst h; exact rl [2] [] [.dec false] (by kernel_rfl) (pc (h26) <| pn)
  · rcases r with _ | _ <;> exact Ex.noConfusion

theorem k_palingref15_domains {a1 : Api_Net} {r : Bool} (h : palingref15_domains a1 = some r) :
    CallsOK Tryz.prog UU 92 [.agg (c31 a1)] [] (.v (.bool r)) [] := by
  unfold palingref15_domains at h
  obtain ⟨r24, h23, h⟩ := bind_out h
  rcases r24 with _ | _
  · injection h with h; subst h; exact rf Tryz.func92 rfl none [.sum [1, 2, 3] [0] .ret [(2, .v (.bool false))] []] (by kernel_rfl) (pc (k_palingref15_domains_L1 _ _ h23) <| pn)
  · obtain ⟨r45, h44, h⟩ := bind_out h
    rcases r45 with _ | _
    · injection h with h; subst h; exact rf Tryz.func92 rfl none [.sum [1, 2, 3] [0] (.exit 0) [(1, .op 0 1 0 0), (2, .v (.bool false))] [.box 31 (c31 a1) false], .sum [1, 2, 5] [0] .ret [(2, .v (.bool false))] []] (by kernel_rfl) (pc (k_palingref15_domains_L1 _ _ h23) <| pc (k_palingref15_domains_L2 _ _ h44) <| pn)
    · injection h with h; subst h; exact rf Tryz.func92 rfl none [.sum [1, 2, 3] [0] (.exit 0) [(1, .op 0 1 0 0), (2, .v (.bool false))] [.box 31 (c31 a1) false], .sum [1, 2, 5] [0] (.exit 2) [(2, .v (.bool false))] []] (by kernel_rfl) (pc (k_palingref15_domains_L1 _ _ h23) <| pc (k_palingref15_domains_L2 _ _ h44) <| pn)

theorem k_palingref15_rising {a1 : List Int} {a2 : Int} {r : Bool} (h : palingref15_rising a1 a2 = some r) :
    CallsOK Tryz.prog UU 119 [.sl 3 a1, .j a2] [] (.v (.bool r)) [] := by
  unfold palingref15_rising at h
  rcases ite_out h with ⟨h3, h⟩ | ⟨h3, h⟩
  · injection h with h; subst h; exact rf Tryz.func119 rfl none [.dec true] (by kernel_rfl) (pc (h3) <| pn)
  · obtain ⟨r4, h5, h⟩ := bind_out h
    injection h with h; subst h; exact rf Tryz.func119 rfl none [.dec false, .callv (.v (.bool r4))] (by kernel_rfl) (pc (h3) <| pc (k_palingref03_Rising h5) <| pn)

theorem k_palingref15_ports_J2 {a1 : Api_Net} {v2 : Int} {x4 : Api_Port} {r : Unit ⊕ Unit} (h : palingref15_ports_J2 a1 v2 x4 = some r) :
    ExecOK Tryz.prog UU 0 120 (subC (codeOf Tryz.f93) [1, 0, 1, 0, 0, 1, 0, 0, 1, 1, 0]) [(1, .op 0 1 0 0), (2, .v (.bool false)), (3, .j v2), (4, .op 1 1 0 0)] [.box 31 (c31 a1) false, .box 52 (c52 x4) false] ((fun r => match r with | Sum.inl _ => .ret | Sum.inr _ => .nor) r) ((fun r => match r with | Sum.inl _ => [(2, .v (.bool false))] | Sum.inr _ => [(1, .op 0 1 0 0), (2, .v (.bool false)), (3, .j v2), (4, .op 1 1 0 0)]) r) ((fun r => match r with | Sum.inl _ => [] | Sum.inr _ => [.box 31 (c31 a1) false, .box 52 (c52 x4) false]) r) := by
  unfold palingref15_ports_J2 at h
  rcases ite_out h with ⟨h17, h⟩ | ⟨h17, h⟩
  · rcases ite_out h with ⟨h18, h⟩ | ⟨h18, h⟩
    · injection h with h; subst h; exact rl [2] [] [.dec true, .dec true] (by kernel_rfl) (pc (h17) <| pc (h18) <| pn)
    · rcases ite_out h with ⟨h19, h⟩ | ⟨h19, h⟩
      · obtain ⟨r20, h21, h⟩ := bind_out h
        rcases ite_out h with ⟨h22, h⟩ | ⟨h22, h⟩
        · injection h with h; subst h; exact rl [2] [] [.dec true, .dec false, .dec true, .callv (.j r20), .dec true] (by kernel_rfl) (pc (h17) <| pc (h18) <| pc (h19) <| pc (k_palingref15_At h21) <| pc (h22) <| pn)
        · injection h with h; subst h; exact rl [1, 2, 3, 4] [0, 1] [.dec true, .dec false, .dec true, .callv (.j r20), .dec false] (by kernel_rfl) (pc (h17) <| pc (h18) <| pc (h19) <| pc (k_palingref15_At h21) <| pc (h22) <| pn)
      · injection h with h; subst h; exact rl [1, 2, 3, 4] [0, 1] [.dec true, .dec false, .dec false] (by kernel_rfl) (pc (h17) <| pc (h18) <| pc (h19) <| pn)
  · rcases ite_out h with ⟨h23, h⟩ | ⟨h23, h⟩
    · obtain ⟨r24, h25, h⟩ := bind_out h
      rcases ite_out h with ⟨h26, h⟩ | ⟨h26, h⟩
      · injection h with h; subst h; exact rl [2] [] [.dec false, .dec true, .callv (.j r24), .dec true] (by kernel_rfl) (pc (h17) <| pc (h23) <| pc (k_palingref15_At h25) <| pc (h26) <| pn)
      · injection h with h; subst h; exact rl [1, 2, 3, 4] [0, 1] [.dec false, .dec true, .callv (.j r24), .dec false] (by kernel_rfl) (pc (h17) <| pc (h23) <| pc (k_palingref15_At h25) <| pc (h26) <| pn)
    · injection h with h; subst h; exact rl [1, 2, 3, 4] [0, 1] [.dec false, .dec false] (by kernel_rfl) (pc (h17) <| pc (h23) <| pn)

theorem k_palingref15_ports_L3 {a1 : Api_Net} {v2 : Int} {x4 : Api_Port} : LoopOK Tryz.prog UU 0 120 (subC (codeOf Tryz.f93) [1, 0, 1, 0, 0, 1, 0, 0, 1, 1, 1, 0, 1, 0, 0]) (ρ := Unit ⊕ Unit) (palingref15_ports_L3 a1 v2 x4)
    (fun v29 : Int => ([(1, .op 0 1 0 0), (2, .v (.bool false)), (3, .j v2), (4, .op 1 1 0 0), (5, .j v29)] : Fr DD)) (fun v29 : Int => ([.box 31 (c31 a1) false, .box 52 (c52 x4) false] : Heap DD)) (fun r => match r with | Sum.inl _ => .ret | Sum.inr _ => .exit 2) (fun r => match r with | Sum.inl _ => [(2, .v (.bool false))] | Sum.inr _ => [(1, .op 0 1 0 0), (2, .v (.bool false)), (3, .j v2), (4, .op 1 1 0 0)]) (fun r => match r with | Sum.inl _ => [] | Sum.inr _ => [.box 31 (c31 a1) false, .box 52 (c52 x4) false]) := by
  refine loop_sound3 (fun s q h => ?_) (fun r => ?_)
  · replace h : palingref15_ports_L3 a1 v2 x4 s = some q := h; revert h; revert s; intro v29 h
    unfold palingref15_ports_L3 at h
    rcases ite_out h with ⟨h30, h⟩ | ⟨h30, h⟩
    · obtain ⟨x31, h32, h⟩ := bind_out h
      obtain ⟨r33, h34, h⟩ := bind_out h
      rcases ite_out h with ⟨h35, h⟩ | ⟨h35, h⟩
      · injection h with h; subst h; exact rl [2] [] [.dec true, .row (c3 x31), .callv (.j r33), .dec true] (by kernel_rfl) (pc (h30) <| pc (ob3 h32) <| pc (k_palingref15_At h34) <| pc (h35) <| pn)
      · injection h with h; subst h; exact rl [1, 2, 3, 4, 5] [0, 1] [.dec true, .row (c3 x31), .callv (.j r33), .dec false] (by kernel_rfl) (pc (h30) <| pc (ob3 h32) <| pc (k_palingref15_At h34) <| pc (h35) <| pn)
    · injection h with h; subst h; exact rl [1, 2, 3, 4] [0, 1] [.dec false] (by kernel_rfl) (pc (h30) <| pn)
  · rcases r with _ | _ <;> exact Ex.noConfusion

theorem k_palingref15_ports_L1 {a1 : Api_Net} : LoopOK Tryz.prog UU 0 120 (subC (codeOf Tryz.f93) [1, 0, 1, 0, 0]) (ρ := Unit ⊕ Unit) (palingref15_ports_L1 a1)
    (fun v2 : Int => ([(1, .op 0 1 0 0), (2, .v (.bool false)), (3, .j v2)] : Fr DD)) (fun v2 : Int => ([.box 31 (c31 a1) false] : Heap DD)) (fun r => match r with | Sum.inl _ => .ret | Sum.inr _ => .exit 0) (fun r => match r with | Sum.inl _ => [(2, .v (.bool false))] | Sum.inr _ => [(2, .v (.bool false))]) (fun r => match r with | Sum.inl _ => [] | Sum.inr _ => []) := by
  refine loop_sound3 (fun s q h => ?_) (fun r => ?_)
  · replace h : palingref15_ports_L1 a1 s = some q := h; revert h; revert s; intro v2 h
    unfold palingref15_ports_L1 at h
    rcases ite_out h with ⟨h3, h⟩ | ⟨h3, h⟩
    · obtain ⟨x4, h5, h⟩ := bind_out h
      obtain ⟨r6, h7, h⟩ := bind_out h
      rcases ite_out h with ⟨h8, h⟩ | ⟨h8, h⟩
      · injection h with h; subst h; exact rl [2] [] [.dec true, .row (c52 x4), .callv (.v (.bool r6)), .dec true] (by kernel_rfl) (pc (h3) <| pc (ob52 h5) <| pc (k_palingref15_Place h7) <| pc (h8) <| pn)
      · rcases ite_out h with ⟨h9, h⟩ | ⟨h9, h⟩
        · injection h with h; subst h; exact rl [2] [] [.dec true, .row (c52 x4), .callv (.v (.bool r6)), .dec false, .dec true] (by kernel_rfl) (pc (h3) <| pc (ob52 h5) <| pc (k_palingref15_Place h7) <| pc (h8) <| pc (h9) <| pn)
        · rcases ite_out h with ⟨h10, h⟩ | ⟨h10, h⟩
          · injection h with h; subst h; exact rl [2] [] [.dec true, .row (c52 x4), .callv (.v (.bool r6)), .dec false, .dec false, .dec true] (by kernel_rfl) (pc (h3) <| pc (ob52 h5) <| pc (k_palingref15_Place h7) <| pc (h8) <| pc (h9) <| pc (h10) <| pn)
          · obtain ⟨r11, h12, h⟩ := bind_out h
            rcases ite_out h with ⟨h13, h⟩ | ⟨h13, h⟩
            · injection h with h; subst h; exact rl [2] [] [.dec true, .row (c52 x4), .callv (.v (.bool r6)), .dec false, .dec false, .dec false, .callv (.v (.bool r11)), .dec true] (by kernel_rfl) (pc (h3) <| pc (ob52 h5) <| pc (k_palingref15_Place h7) <| pc (h8) <| pc (h9) <| pc (h10) <| pc (k_palingref15_rising h12) <| pc (h13) <| pn)
            · obtain ⟨r14, h15, h⟩ := bind_out h
              rcases ite_out h with ⟨h16, h⟩ | ⟨h16, h⟩
              · injection h with h; subst h; exact rl [2] [] [.dec true, .row (c52 x4), .callv (.v (.bool r6)), .dec false, .dec false, .dec false, .callv (.v (.bool r11)), .dec false, .callv (.v (.bool r14)), .dec true] (by kernel_rfl) (pc (h3) <| pc (ob52 h5) <| pc (k_palingref15_Place h7) <| pc (h8) <| pc (h9) <| pc (h10) <| pc (k_palingref15_rising h12) <| pc (h13) <| pc (k_palingref15_In h15) <| pc (h16) <| pn)
              · obtain ⟨r28, h27, h⟩ := bind_out h
                rcases r28 with _ | _
                · injection h with h; subst h; exact rl [2] [] [.dec true, .row (c52 x4), .callv (.v (.bool r6)), .dec false, .dec false, .dec false, .callv (.v (.bool r11)), .dec false, .callv (.v (.bool r14)), .dec false, .cut [1, 2, 3, 4] [0, 2] .ret [(2, .v (.bool false))] []] (by kernel_rfl) (pc (h3) <| pc (ob52 h5) <| pc (k_palingref15_Place h7) <| pc (h8) <| pc (h9) <| pc (h10) <| pc (k_palingref15_rising h12) <| pc (h13) <| pc (k_palingref15_In h15) <| pc (h16) <| pc (k_palingref15_ports_J2 h27) <| pn)
                · obtain ⟨r37, h36, h⟩ := bind_out h
                  rcases r37 with _ | _
                  · injection h with h; subst h; exact rl [2] [] [.dec true, .row (c52 x4), .callv (.v (.bool r6)), .dec false, .dec false, .dec false, .callv (.v (.bool r11)), .dec false, .callv (.v (.bool r14)), .dec false, .cut [1, 2, 3, 4] [0, 2] .nor [(1, .op 0 1 0 0), (2, .v (.bool false)), (3, .j v2), (4, .op 1 1 0 0)] [.box 31 (c31 a1) false, .box 52 (c52 x4) false], .sum [1, 2, 3, 4, 5] [0, 1] .ret [(2, .v (.bool false))] []] (by kernel_rfl) (pc (h3) <| pc (ob52 h5) <| pc (k_palingref15_Place h7) <| pc (h8) <| pc (h9) <| pc (h10) <| pc (k_palingref15_rising h12) <| pc (h13) <| pc (k_palingref15_In h15) <| pc (h16) <| pc (k_palingref15_ports_J2 h27) <| pc (k_palingref15_ports_L3 _ _ h36) <| pn)
                  · rcases ite_out h with ⟨h38, h⟩ | ⟨h38, h⟩
                    · injection h with h; subst h; exact rl [1, 2, 3] [0] [.dec true, .row (c52 x4), .callv (.v (.bool r6)), .dec false, .dec false, .dec false, .callv (.v (.bool r11)), .dec false, .callv (.v (.bool r14)), .dec false, .cut [1, 2, 3, 4] [0, 2] .nor [(1, .op 0 1 0 0), (2, .v (.bool false)), (3, .j v2), (4, .op 1 1 0 0)] [.box 31 (c31 a1) false, .box 52 (c52 x4) false], .sum [1, 2, 3, 4, 5] [0, 1] (.exit 2) [(1, .op 0 1 0 0), (2, .v (.bool false)), (3, .j v2), (4, .op 1 1 0 0)] [.box 31 (c31 a1) false, .box 52 (c52 x4) false], .dec true] (by kernel_rfl) (pc (h3) <| pc (ob52 h5) <| pc (k_palingref15_Place h7) <| pc (h8) <| pc (h9) <| pc (h10) <| pc (k_palingref15_rising h12) <| pc (h13) <| pc (k_palingref15_In h15) <| pc (h16) <| pc (k_palingref15_ports_J2 h27) <| pc (k_palingref15_ports_L3 _ _ h36) <| pc (h38) <| pn)
                    · obtain ⟨r39, h40, h⟩ := bind_out h
                      rcases ite_out h with ⟨h41, h⟩ | ⟨h41, h⟩
                      · injection h with h; subst h; exact rl [2] [] [.dec true, .row (c52 x4), .callv (.v (.bool r6)), .dec false, .dec false, .dec false, .callv (.v (.bool r11)), .dec false, .callv (.v (.bool r14)), .dec false, .cut [1, 2, 3, 4] [0, 2] .nor [(1, .op 0 1 0 0), (2, .v (.bool false)), (3, .j v2), (4, .op 1 1 0 0)] [.box 31 (c31 a1) false, .box 52 (c52 x4) false], .sum [1, 2, 3, 4, 5] [0, 1] (.exit 2) [(1, .op 0 1 0 0), (2, .v (.bool false)), (3, .j v2), (4, .op 1 1 0 0)] [.box 31 (c31 a1) false, .box 52 (c52 x4) false], .dec false, .callv (.v (.bool r39)), .dec true] (by kernel_rfl) (pc (h3) <| pc (ob52 h5) <| pc (k_palingref15_Place h7) <| pc (h8) <| pc (h9) <| pc (h10) <| pc (k_palingref15_rising h12) <| pc (h13) <| pc (k_palingref15_In h15) <| pc (h16) <| pc (k_palingref15_ports_J2 h27) <| pc (k_palingref15_ports_L3 _ _ h36) <| pc (h38) <| pc (k_palingref15_Place h40) <| pc (h41) <| pn)
                      · obtain ⟨x42, h43, h⟩ := bind_out h
                        rcases ite_out h with ⟨h44, h⟩ | ⟨h44, h⟩
                        · obtain ⟨x45, h46, h⟩ := bind_out h
                          rcases ite_out h with ⟨h47, h⟩ | ⟨h47, h⟩
                          · injection h with h; subst h; exact rl [2] [] [.dec true, .row (c52 x4), .callv (.v (.bool r6)), .dec false, .dec false, .dec false, .callv (.v (.bool r11)), .dec false, .callv (.v (.bool r14)), .dec false, .cut [1, 2, 3, 4] [0, 2] .nor [(1, .op 0 1 0 0), (2, .v (.bool false)), (3, .j v2), (4, .op 1 1 0 0)] [.box 31 (c31 a1) false, .box 52 (c52 x4) false], .sum [1, 2, 3, 4, 5] [0, 1] (.exit 2) [(1, .op 0 1 0 0), (2, .v (.bool false)), (3, .j v2), (4, .op 1 1 0 0)] [.box 31 (c31 a1) false, .box 52 (c52 x4) false], .dec false, .callv (.v (.bool r39)), .dec false, .row (c54 x42), .dec true, .row (c54 x45), .dec true] (by kernel_rfl) (pc (h3) <| pc (ob52 h5) <| pc (k_palingref15_Place h7) <| pc (h8) <| pc (h9) <| pc (h10) <| pc (k_palingref15_rising h12) <| pc (h13) <| pc (k_palingref15_In h15) <| pc (h16) <| pc (k_palingref15_ports_J2 h27) <| pc (k_palingref15_ports_L3 _ _ h36) <| pc (h38) <| pc (k_palingref15_Place h40) <| pc (h41) <| pc (ob54 h43) <| pc (h44) <| pc (ob54 h46) <| pc (h47) <| pn)
                          · injection h with h; subst h; exact rl [1, 2, 3] [0] [.dec true, .row (c52 x4), .callv (.v (.bool r6)), .dec false, .dec false, .dec false, .callv (.v (.bool r11)), .dec false, .callv (.v (.bool r14)), .dec false, .cut [1, 2, 3, 4] [0, 2] .nor [(1, .op 0 1 0 0), (2, .v (.bool false)), (3, .j v2), (4, .op 1 1 0 0)] [.box 31 (c31 a1) false, .box 52 (c52 x4) false], .sum [1, 2, 3, 4, 5] [0, 1] (.exit 2) [(1, .op 0 1 0 0), (2, .v (.bool false)), (3, .j v2), (4, .op 1 1 0 0)] [.box 31 (c31 a1) false, .box 52 (c52 x4) false], .dec false, .callv (.v (.bool r39)), .dec false, .row (c54 x42), .dec true, .row (c54 x45), .dec false] (by kernel_rfl) (pc (h3) <| pc (ob52 h5) <| pc (k_palingref15_Place h7) <| pc (h8) <| pc (h9) <| pc (h10) <| pc (k_palingref15_rising h12) <| pc (h13) <| pc (k_palingref15_In h15) <| pc (h16) <| pc (k_palingref15_ports_J2 h27) <| pc (k_palingref15_ports_L3 _ _ h36) <| pc (h38) <| pc (k_palingref15_Place h40) <| pc (h41) <| pc (ob54 h43) <| pc (h44) <| pc (ob54 h46) <| pc (h47) <| pn)
                        · injection h with h; subst h; exact rl [1, 2, 3] [0] [.dec true, .row (c52 x4), .callv (.v (.bool r6)), .dec false, .dec false, .dec false, .callv (.v (.bool r11)), .dec false, .callv (.v (.bool r14)), .dec false, .cut [1, 2, 3, 4] [0, 2] .nor [(1, .op 0 1 0 0), (2, .v (.bool false)), (3, .j v2), (4, .op 1 1 0 0)] [.box 31 (c31 a1) false, .box 52 (c52 x4) false], .sum [1, 2, 3, 4, 5] [0, 1] (.exit 2) [(1, .op 0 1 0 0), (2, .v (.bool false)), (3, .j v2), (4, .op 1 1 0 0)] [.box 31 (c31 a1) false, .box 52 (c52 x4) false], .dec false, .callv (.v (.bool r39)), .dec false, .row (c54 x42), .dec false] (by kernel_rfl) (pc (h3) <| pc (ob52 h5) <| pc (k_palingref15_Place h7) <| pc (h8) <| pc (h9) <| pc (h10) <| pc (k_palingref15_rising h12) <| pc (h13) <| pc (k_palingref15_In h15) <| pc (h16) <| pc (k_palingref15_ports_J2 h27) <| pc (k_palingref15_ports_L3 _ _ h36) <| pc (h38) <| pc (k_palingref15_Place h40) <| pc (h41) <| pc (ob54 h43) <| pc (h44) <| pn)
    · injection h with h; subst h; exact rl [2] [] [.dec false] (by kernel_rfl) (pc (h3) <| pn)
  · rcases r with _ | _ <;> exact Ex.noConfusion

theorem k_palingref15_ports {a1 : Api_Net} {r : Bool} (h : palingref15_ports a1 = some r) :
    CallsOK Tryz.prog UU 93 [.agg (c31 a1)] [] (.v (.bool r)) [] := by
  unfold palingref15_ports at h
  obtain ⟨r49, h48, h⟩ := bind_out h
  rcases r49 with _ | _
  · injection h with h; subst h; exact rf Tryz.func93 rfl none [.sum [1, 2, 3] [0] .ret [(2, .v (.bool false))] []] (by kernel_rfl) (pc (k_palingref15_ports_L1 _ _ h48) <| pn)
  · injection h with h; subst h; exact rf Tryz.func93 rfl none [.sum [1, 2, 3] [0] (.exit 0) [(2, .v (.bool false))] []] (by kernel_rfl) (pc (k_palingref15_ports_L1 _ _ h48) <| pn)

theorem k_palingref15_links_L1 {a1 : Api_Net} : LoopOK Tryz.prog UU 0 70 (subC (codeOf Tryz.f94) [1, 0, 1, 0, 0]) (ρ := Unit ⊕ Unit) (palingref15_links_L1 a1)
    (fun v2 : Int => ([(1, .op 0 1 0 0), (2, .v (.bool false)), (3, .j v2)] : Fr DD)) (fun v2 : Int => ([.box 31 (c31 a1) false] : Heap DD)) (fun r => match r with | Sum.inl _ => .ret | Sum.inr _ => .exit 0) (fun r => match r with | Sum.inl _ => [(2, .v (.bool false))] | Sum.inr _ => [(2, .v (.bool false))]) (fun r => match r with | Sum.inl _ => [] | Sum.inr _ => []) := by
  refine loop_sound3 (fun s q h => ?_) (fun r => ?_)
  · replace h : palingref15_links_L1 a1 s = some q := h; revert h; revert s; intro v2 h
    unfold palingref15_links_L1 at h
    rcases ite_out h with ⟨h3, h⟩ | ⟨h3, h⟩
    · obtain ⟨x4, h5, h⟩ := bind_out h
      obtain ⟨r6, h7, h⟩ := bind_out h
      rcases ite_out h with ⟨h8, h⟩ | ⟨h8, h⟩
      · injection h with h; subst h; exact rl [2] [] [.dec true, .row (c54 x4), .callv (.v (.bool r6)), .dec true] (by kernel_rfl) (pc (h3) <| pc (ob54 h5) <| pc (k_palingref15_Place h7) <| pc (h8) <| pn)
      · obtain ⟨r9, h10, h⟩ := bind_out h
        rcases ite_out h with ⟨h11, h⟩ | ⟨h11, h⟩
        · injection h with h; subst h; exact rl [2] [] [.dec true, .row (c54 x4), .callv (.v (.bool r6)), .dec false, .callv (.v (.bool r9)), .dec true] (by kernel_rfl) (pc (h3) <| pc (ob54 h5) <| pc (k_palingref15_Place h7) <| pc (h8) <| pc (k_palingref15_Place h10) <| pc (h11) <| pn)
        · obtain ⟨x12, h13, h⟩ := bind_out h
          obtain ⟨x14, h15, h⟩ := bind_out h
          rcases ite_out h with ⟨h16, h⟩ | ⟨h16, h⟩
          · injection h with h; subst h; exact rl [2] [] [.dec true, .row (c54 x4), .callv (.v (.bool r6)), .dec false, .callv (.v (.bool r9)), .dec false, .row (c52 x12), .row (c52 x14), .dec true] (by kernel_rfl) (pc (h3) <| pc (ob54 h5) <| pc (k_palingref15_Place h7) <| pc (h8) <| pc (k_palingref15_Place h10) <| pc (h11) <| pc (ob52 h13) <| pc (ob52 h15) <| pc (h16) <| pn)
          · obtain ⟨x17, h18, h⟩ := bind_out h
            rcases ite_out h with ⟨h19, h⟩ | ⟨h19, h⟩
            · injection h with h; subst h; exact rl [2] [] [.dec true, .row (c54 x4), .callv (.v (.bool r6)), .dec false, .callv (.v (.bool r9)), .dec false, .row (c52 x12), .row (c52 x14), .dec false, .row (c52 x17), .dec true] (by kernel_rfl) (pc (h3) <| pc (ob54 h5) <| pc (k_palingref15_Place h7) <| pc (h8) <| pc (k_palingref15_Place h10) <| pc (h11) <| pc (ob52 h13) <| pc (ob52 h15) <| pc (h16) <| pc (ob52 h18) <| pc (h19) <| pn)
            · obtain ⟨x20, h21, h⟩ := bind_out h
              rcases ite_out h with ⟨h22, h⟩ | ⟨h22, h⟩
              · injection h with h; subst h; exact rl [2] [] [.dec true, .row (c54 x4), .callv (.v (.bool r6)), .dec false, .callv (.v (.bool r9)), .dec false, .row (c52 x12), .row (c52 x14), .dec false, .row (c52 x17), .dec false, .row (c52 x20), .dec true] (by kernel_rfl) (pc (h3) <| pc (ob54 h5) <| pc (k_palingref15_Place h7) <| pc (h8) <| pc (k_palingref15_Place h10) <| pc (h11) <| pc (ob52 h13) <| pc (ob52 h15) <| pc (h16) <| pc (ob52 h18) <| pc (h19) <| pc (ob52 h21) <| pc (h22) <| pn)
              · injection h with h; subst h; exact rl [1, 2, 3] [0] [.dec true, .row (c54 x4), .callv (.v (.bool r6)), .dec false, .callv (.v (.bool r9)), .dec false, .row (c52 x12), .row (c52 x14), .dec false, .row (c52 x17), .dec false, .row (c52 x20), .dec false] (by kernel_rfl) (pc (h3) <| pc (ob54 h5) <| pc (k_palingref15_Place h7) <| pc (h8) <| pc (k_palingref15_Place h10) <| pc (h11) <| pc (ob52 h13) <| pc (ob52 h15) <| pc (h16) <| pc (ob52 h18) <| pc (h19) <| pc (ob52 h21) <| pc (h22) <| pn)
    · injection h with h; subst h; exact rl [2] [] [.dec false] (by kernel_rfl) (pc (h3) <| pn)
  · rcases r with _ | _ <;> exact Ex.noConfusion

theorem k_palingref15_links {a1 : Api_Net} {r : Bool} (h : palingref15_links a1 = some r) :
    CallsOK Tryz.prog UU 94 [.agg (c31 a1)] [] (.v (.bool r)) [] := by
  unfold palingref15_links at h
  obtain ⟨r24, h23, h⟩ := bind_out h
  rcases r24 with _ | _
  · injection h with h; subst h; exact rf Tryz.func94 rfl none [.sum [1, 2, 3] [0] .ret [(2, .v (.bool false))] []] (by kernel_rfl) (pc (k_palingref15_links_L1 _ _ h23) <| pn)
  · injection h with h; subst h; exact rf Tryz.func94 rfl none [.sum [1, 2, 3] [0] (.exit 0) [(2, .v (.bool false))] []] (by kernel_rfl) (pc (k_palingref15_links_L1 _ _ h23) <| pn)

theorem k_palingref15_Member {a1 : Api_Port} {a2 : Int} {r : Bool} (h : palingref15_Member a1 a2 = some r) :
    CallsOK Tryz.prog UU 120 [.agg (c52 a1), .j a2] [] (.v (.bool r)) [] := by
  unfold palingref15_Member at h
  rcases ite_out h with ⟨h3, h⟩ | ⟨h3, h⟩
  · rcases ite_out h with ⟨h4, h⟩ | ⟨h4, h⟩
    · injection h with h; subst h; exact rf Tryz.func120 rfl none [.dec true, .dec true] (by kernel_rfl) (pc (h3) <| pc (h4) <| pn)
    · obtain ⟨r5, h6, h⟩ := bind_out h
      injection h with h; subst h; exact rf Tryz.func120 rfl none [.dec true, .dec false, .callv (.v (.bool r5))] (by kernel_rfl) (pc (h3) <| pc (h4) <| pc (k_palingref15_In h6) <| pn)
  · injection h with h; subst h; exact rf Tryz.func120 rfl none [.dec false] (by kernel_rfl) (pc (h3) <| pn)

theorem k_palingref15_rest_L1 {a1 : Api_Net} : LoopOK Tryz.prog UU 0 192 (subC (codeOf Tryz.f95) [1, 0, 1, 0, 0]) (ρ := Unit ⊕ Unit) (palingref15_rest_L1 a1)
    (fun v2 : Int => ([(1, .op 0 1 0 0), (2, .v (.bool false)), (3, .j v2)] : Fr DD)) (fun v2 : Int => ([.box 31 (c31 a1) false] : Heap DD)) (fun r => match r with | Sum.inl _ => .ret | Sum.inr _ => .exit 0) (fun r => match r with | Sum.inl _ => [(2, .v (.bool false))] | Sum.inr _ => [(1, .op 0 1 0 0), (2, .v (.bool false))]) (fun r => match r with | Sum.inl _ => [] | Sum.inr _ => [.box 31 (c31 a1) false]) := by
  refine loop_sound3 (fun s q h => ?_) (fun r => ?_)
  · replace h : palingref15_rest_L1 a1 s = some q := h; revert h; revert s; intro v2 h
    unfold palingref15_rest_L1 at h
    rcases ite_out h with ⟨h3, h⟩ | ⟨h3, h⟩
    · obtain ⟨x4, h5, h⟩ := bind_out h
      obtain ⟨r6, h7, h⟩ := bind_out h
      rcases ite_out h with ⟨h8, h⟩ | ⟨h8, h⟩
      · injection h with h; subst h; exact rl [2] [] [.dec true, .row (c90 x4), .callv (.v (.bool r6)), .dec true] (by kernel_rfl) (pc (h3) <| pc (ob90 h5) <| pc (k_palingref15_Place h7) <| pc (h8) <| pn)
      · obtain ⟨r9, h10, h⟩ := bind_out h
        rcases ite_out h with ⟨h11, h⟩ | ⟨h11, h⟩
        · injection h with h; subst h; exact rl [2] [] [.dec true, .row (c90 x4), .callv (.v (.bool r6)), .dec false, .callv (.v (.bool r9)), .dec true] (by kernel_rfl) (pc (h3) <| pc (ob90 h5) <| pc (k_palingref15_Place h7) <| pc (h8) <| pc (k_palingref15_Place h10) <| pc (h11) <| pn)
        · obtain ⟨x12, h13, h⟩ := bind_out h
          obtain ⟨x14, h15, h⟩ := bind_out h
          rcases ite_out h with ⟨h16, h⟩ | ⟨h16, h⟩
          · injection h with h; subst h; exact rl [2] [] [.dec true, .row (c90 x4), .callv (.v (.bool r6)), .dec false, .callv (.v (.bool r9)), .dec false, .row (c56 x12), .row (c52 x14), .dec true] (by kernel_rfl) (pc (h3) <| pc (ob90 h5) <| pc (k_palingref15_Place h7) <| pc (h8) <| pc (k_palingref15_Place h10) <| pc (h11) <| pc (ob56 h13) <| pc (ob52 h15) <| pc (h16) <| pn)
          · obtain ⟨x17, h18, h⟩ := bind_out h
            obtain ⟨r19, h20, h⟩ := bind_out h
            rcases ite_out h with ⟨h21, h⟩ | ⟨h21, h⟩
            · injection h with h; subst h; exact rl [2] [] [.dec true, .row (c90 x4), .callv (.v (.bool r6)), .dec false, .callv (.v (.bool r9)), .dec false, .row (c56 x12), .row (c52 x14), .dec false, .row (c52 x17), .callv (.v (.bool r19)), .dec true] (by kernel_rfl) (pc (h3) <| pc (ob90 h5) <| pc (k_palingref15_Place h7) <| pc (h8) <| pc (k_palingref15_Place h10) <| pc (h11) <| pc (ob56 h13) <| pc (ob52 h15) <| pc (h16) <| pc (ob52 h18) <| pc (k_palingref15_Member h20) <| pc (h21) <| pn)
            · injection h with h; subst h; exact rl [1, 2, 3] [0] [.dec true, .row (c90 x4), .callv (.v (.bool r6)), .dec false, .callv (.v (.bool r9)), .dec false, .row (c56 x12), .row (c52 x14), .dec false, .row (c52 x17), .callv (.v (.bool r19)), .dec false] (by kernel_rfl) (pc (h3) <| pc (ob90 h5) <| pc (k_palingref15_Place h7) <| pc (h8) <| pc (k_palingref15_Place h10) <| pc (h11) <| pc (ob56 h13) <| pc (ob52 h15) <| pc (h16) <| pc (ob52 h18) <| pc (k_palingref15_Member h20) <| pc (h21) <| pn)
    · injection h with h; subst h; exact rl [1, 2] [0] [.dec false] (by kernel_rfl) (pc (h3) <| pn)
  · rcases r with _ | _ <;> exact Ex.noConfusion

theorem k_palingref15_rest_L2 {a1 : Api_Net} : LoopOK Tryz.prog UU 0 192 (subC (codeOf Tryz.f95) [1, 1, 0, 1, 0, 0]) (ρ := Unit ⊕ Unit) (palingref15_rest_L2 a1)
    (fun v24 : Int => ([(1, .op 0 1 0 0), (2, .v (.bool false)), (6, .j v24)] : Fr DD)) (fun v24 : Int => ([.box 31 (c31 a1) false] : Heap DD)) (fun r => match r with | Sum.inl _ => .ret | Sum.inr _ => .exit 2) (fun r => match r with | Sum.inl _ => [(2, .v (.bool false))] | Sum.inr _ => [(1, .op 0 1 0 0), (2, .v (.bool false))]) (fun r => match r with | Sum.inl _ => [] | Sum.inr _ => [.box 31 (c31 a1) false]) := by
  refine loop_sound3 (fun s q h => ?_) (fun r => ?_)
  · replace h : palingref15_rest_L2 a1 s = some q := h; revert h; revert s; intro v24 h
    unfold palingref15_rest_L2 at h
    rcases ite_out h with ⟨h25, h⟩ | ⟨h25, h⟩
    · obtain ⟨x26, h27, h⟩ := bind_out h
      obtain ⟨r28, h29, h⟩ := bind_out h
      rcases ite_out h with ⟨h30, h⟩ | ⟨h30, h⟩
      · injection h with h; subst h; exact rl [2] [] [.dec true, .row (c69 x26), .callv (.v (.bool r28)), .dec true] (by kernel_rfl) (pc (h25) <| pc (ob69 h27) <| pc (k_palingref15_Place h29) <| pc (h30) <| pn)
      · obtain ⟨x31, h32, h⟩ := bind_out h
        rcases ite_out h with ⟨h33, h⟩ | ⟨h33, h⟩
        · injection h with h; subst h; exact rl [2] [] [.dec true, .row (c69 x26), .callv (.v (.bool r28)), .dec false, .row (c69 x31), .dec true] (by kernel_rfl) (pc (h25) <| pc (ob69 h27) <| pc (k_palingref15_Place h29) <| pc (h30) <| pc (ob69 h32) <| pc (h33) <| pn)
        · injection h with h; subst h; exact rl [1, 2, 6] [0] [.dec true, .row (c69 x26), .callv (.v (.bool r28)), .dec false, .row (c69 x31), .dec false] (by kernel_rfl) (pc (h25) <| pc (ob69 h27) <| pc (k_palingref15_Place h29) <| pc (h30) <| pc (ob69 h32) <| pc (h33) <| pn)
    · injection h with h; subst h; exact rl [1, 2] [0] [.dec false] (by kernel_rfl) (pc (h25) <| pn)
  · rcases r with _ | _ <;> exact Ex.noConfusion

theorem k_palingref15_rest_L3 {a1 : Api_Net} : LoopOK Tryz.prog UU 0 192 (subC (codeOf Tryz.f95) [1, 1, 1, 0, 1, 0, 0]) (ρ := Unit ⊕ Unit) (palingref15_rest_L3 a1)
    (fun v36 : Int => ([(1, .op 0 1 0 0), (2, .v (.bool false)), (7, .j v36)] : Fr DD)) (fun v36 : Int => ([.box 31 (c31 a1) false] : Heap DD)) (fun r => match r with | Sum.inl _ => .ret | Sum.inr _ => .exit 4) (fun r => match r with | Sum.inl _ => [(2, .v (.bool false))] | Sum.inr _ => [(1, .op 0 1 0 0), (2, .v (.bool false))]) (fun r => match r with | Sum.inl _ => [] | Sum.inr _ => [.box 31 (c31 a1) false]) := by
  refine loop_sound3 (fun s q h => ?_) (fun r => ?_)
  · replace h : palingref15_rest_L3 a1 s = some q := h; revert h; revert s; intro v36 h
    unfold palingref15_rest_L3 at h
    rcases ite_out h with ⟨h37, h⟩ | ⟨h37, h⟩
    · obtain ⟨x38, h39, h⟩ := bind_out h
      obtain ⟨r40, h41, h⟩ := bind_out h
      rcases ite_out h with ⟨h42, h⟩ | ⟨h42, h⟩
      · injection h with h; subst h; exact rl [2] [] [.dec true, .row (c72 x38), .callv (.v (.bool r40)), .dec true] (by kernel_rfl) (pc (h37) <| pc (ob72 h39) <| pc (k_palingref15_Place h41) <| pc (h42) <| pn)
      · obtain ⟨r43, h44, h⟩ := bind_out h
        rcases ite_out h with ⟨h45, h⟩ | ⟨h45, h⟩
        · injection h with h; subst h; exact rl [2] [] [.dec true, .row (c72 x38), .callv (.v (.bool r40)), .dec false, .callv (.v (.bool r43)), .dec true] (by kernel_rfl) (pc (h37) <| pc (ob72 h39) <| pc (k_palingref15_Place h41) <| pc (h42) <| pc (k_palingref15_rising h44) <| pc (h45) <| pn)
        · obtain ⟨r46, h47, h⟩ := bind_out h
          rcases ite_out h with ⟨h48, h⟩ | ⟨h48, h⟩
          · injection h with h; subst h; exact rl [2] [] [.dec true, .row (c72 x38), .callv (.v (.bool r40)), .dec false, .callv (.v (.bool r43)), .dec false, .callv (.v (.bool r46)), .dec true] (by kernel_rfl) (pc (h37) <| pc (ob72 h39) <| pc (k_palingref15_Place h41) <| pc (h42) <| pc (k_palingref15_rising h44) <| pc (h45) <| pc (k_palingref15_rising h47) <| pc (h48) <| pn)
          · injection h with h; subst h; exact rl [1, 2, 7] [0] [.dec true, .row (c72 x38), .callv (.v (.bool r40)), .dec false, .callv (.v (.bool r43)), .dec false, .callv (.v (.bool r46)), .dec false] (by kernel_rfl) (pc (h37) <| pc (ob72 h39) <| pc (k_palingref15_Place h41) <| pc (h42) <| pc (k_palingref15_rising h44) <| pc (h45) <| pc (k_palingref15_rising h47) <| pc (h48) <| pn)
    · injection h with h; subst h; exact rl [1, 2] [0] [.dec false] (by kernel_rfl) (pc (h37) <| pn)
  · rcases r with _ | _ <;> exact Ex.noConfusion

theorem k_palingref15_rest_L4 {a1 : Api_Net} : LoopOK Tryz.prog UU 0 192 (subC (codeOf Tryz.f95) [1, 1, 1, 1, 0, 1, 0, 0]) (ρ := Unit ⊕ Unit) (palingref15_rest_L4 a1)
    (fun v51 : Int => ([(1, .op 0 1 0 0), (2, .v (.bool false)), (9, .j v51)] : Fr DD)) (fun v51 : Int => ([.box 31 (c31 a1) false] : Heap DD)) (fun r => match r with | Sum.inl _ => .ret | Sum.inr _ => .exit 6) (fun r => match r with | Sum.inl _ => [(2, .v (.bool false))] | Sum.inr _ => [(2, .v (.bool false))]) (fun r => match r with | Sum.inl _ => [] | Sum.inr _ => []) := by
  refine loop_sound3 (fun s q h => ?_) (fun r => ?_)
  · replace h : palingref15_rest_L4 a1 s = some q := h; revert h; revert s; intro v51 h
    unfold palingref15_rest_L4 at h
    rcases ite_out h with ⟨h52, h⟩ | ⟨h52, h⟩
    · obtain ⟨x53, h54, h⟩ := bind_out h
      obtain ⟨r55, h56, h⟩ := bind_out h
      rcases ite_out h with ⟨h57, h⟩ | ⟨h57, h⟩
      · injection h with h; subst h; exact rl [2] [] [.dec true, .row (c101 x53), .callv (.v (.bool r55)), .dec true] (by kernel_rfl) (pc (h52) <| pc (ob101 h54) <| pc (k_palingref15_Place h56) <| pc (h57) <| pn)
      · obtain ⟨r58, h59, h⟩ := bind_out h
        rcases ite_out h with ⟨h60, h⟩ | ⟨h60, h⟩
        · injection h with h; subst h; exact rl [2] [] [.dec true, .row (c101 x53), .callv (.v (.bool r55)), .dec false, .callv (.v (.bool r58)), .dec true] (by kernel_rfl) (pc (h52) <| pc (ob101 h54) <| pc (k_palingref15_Place h56) <| pc (h57) <| pc (k_palingref15_Place h59) <| pc (h60) <| pn)
        · rcases ite_out h with ⟨h61, h⟩ | ⟨h61, h⟩
          · injection h with h; subst h; exact rl [2] [] [.dec true, .row (c101 x53), .callv (.v (.bool r55)), .dec false, .callv (.v (.bool r58)), .dec false, .dec true] (by kernel_rfl) (pc (h52) <| pc (ob101 h54) <| pc (k_palingref15_Place h56) <| pc (h57) <| pc (k_palingref15_Place h59) <| pc (h60) <| pc (h61) <| pn)
          · rcases ite_out h with ⟨h62, h⟩ | ⟨h62, h⟩
            · injection h with h; subst h; exact rl [2] [] [.dec true, .row (c101 x53), .callv (.v (.bool r55)), .dec false, .callv (.v (.bool r58)), .dec false, .dec false, .dec true] (by kernel_rfl) (pc (h52) <| pc (ob101 h54) <| pc (k_palingref15_Place h56) <| pc (h57) <| pc (k_palingref15_Place h59) <| pc (h60) <| pc (h61) <| pc (h62) <| pn)
            · obtain ⟨x63, h64, h⟩ := bind_out h
              obtain ⟨x65, h66, h⟩ := bind_out h
              rcases ite_out h with ⟨h67, h⟩ | ⟨h67, h⟩
              · injection h with h; subst h; exact rl [2] [] [.dec true, .row (c101 x53), .callv (.v (.bool r55)), .dec false, .callv (.v (.bool r58)), .dec false, .dec false, .dec false, .row (c56 x63), .row (c72 x65), .dec true] (by kernel_rfl) (pc (h52) <| pc (ob101 h54) <| pc (k_palingref15_Place h56) <| pc (h57) <| pc (k_palingref15_Place h59) <| pc (h60) <| pc (h61) <| pc (h62) <| pc (ob56 h64) <| pc (ob72 h66) <| pc (h67) <| pn)
              · obtain ⟨x68, h69, h⟩ := bind_out h
                rcases ite_out h with ⟨h70, h⟩ | ⟨h70, h⟩
                · injection h with h; subst h; exact rl [2] [] [.dec true, .row (c101 x53), .callv (.v (.bool r55)), .dec false, .callv (.v (.bool r58)), .dec false, .dec false, .dec false, .row (c56 x63), .row (c72 x65), .dec false, .row (c56 x68), .dec true] (by kernel_rfl) (pc (h52) <| pc (ob101 h54) <| pc (k_palingref15_Place h56) <| pc (h57) <| pc (k_palingref15_Place h59) <| pc (h60) <| pc (h61) <| pc (h62) <| pc (ob56 h64) <| pc (ob72 h66) <| pc (h67) <| pc (ob56 h69) <| pc (h70) <| pn)
                · injection h with h; subst h; exact rl [1, 2, 9] [0] [.dec true, .row (c101 x53), .callv (.v (.bool r55)), .dec false, .callv (.v (.bool r58)), .dec false, .dec false, .dec false, .row (c56 x63), .row (c72 x65), .dec false, .row (c56 x68), .dec false] (by kernel_rfl) (pc (h52) <| pc (ob101 h54) <| pc (k_palingref15_Place h56) <| pc (h57) <| pc (k_palingref15_Place h59) <| pc (h60) <| pc (h61) <| pc (h62) <| pc (ob56 h64) <| pc (ob72 h66) <| pc (h67) <| pc (ob56 h69) <| pc (h70) <| pn)
    · injection h with h; subst h; exact rl [2] [] [.dec false] (by kernel_rfl) (pc (h52) <| pn)
  · rcases r with _ | _ <;> exact Ex.noConfusion

theorem k_palingref15_rest {a1 : Api_Net} {r : Bool} (h : palingref15_rest a1 = some r) :
    CallsOK Tryz.prog UU 95 [.agg (c31 a1)] [] (.v (.bool r)) [] := by
  unfold palingref15_rest at h
  obtain ⟨r23, h22, h⟩ := bind_out h
  rcases r23 with _ | _
  · injection h with h; subst h; exact rf Tryz.func95 rfl none [.sum [1, 2, 3] [0] .ret [(2, .v (.bool false))] []] (by kernel_rfl) (pc (k_palingref15_rest_L1 _ _ h22) <| pn)
  · obtain ⟨r35, h34, h⟩ := bind_out h
    rcases r35 with _ | _
    · injection h with h; subst h; exact rf Tryz.func95 rfl none [.sum [1, 2, 3] [0] (.exit 0) [(1, .op 0 1 0 0), (2, .v (.bool false))] [.box 31 (c31 a1) false], .sum [1, 2, 6] [0] .ret [(2, .v (.bool false))] []] (by kernel_rfl) (pc (k_palingref15_rest_L1 _ _ h22) <| pc (k_palingref15_rest_L2 _ _ h34) <| pn)
    · obtain ⟨r50, h49, h⟩ := bind_out h
      rcases r50 with _ | _
      · injection h with h; subst h; exact rf Tryz.func95 rfl none [.sum [1, 2, 3] [0] (.exit 0) [(1, .op 0 1 0 0), (2, .v (.bool false))] [.box 31 (c31 a1) false], .sum [1, 2, 6] [0] (.exit 2) [(1, .op 0 1 0 0), (2, .v (.bool false))] [.box 31 (c31 a1) false], .sum [1, 2, 7] [0] .ret [(2, .v (.bool false))] []] (by kernel_rfl) (pc (k_palingref15_rest_L1 _ _ h22) <| pc (k_palingref15_rest_L2 _ _ h34) <| pc (k_palingref15_rest_L3 _ _ h49) <| pn)
      · obtain ⟨r72, h71, h⟩ := bind_out h
        rcases r72 with _ | _
        · injection h with h; subst h; exact rf Tryz.func95 rfl none [.sum [1, 2, 3] [0] (.exit 0) [(1, .op 0 1 0 0), (2, .v (.bool false))] [.box 31 (c31 a1) false], .sum [1, 2, 6] [0] (.exit 2) [(1, .op 0 1 0 0), (2, .v (.bool false))] [.box 31 (c31 a1) false], .sum [1, 2, 7] [0] (.exit 4) [(1, .op 0 1 0 0), (2, .v (.bool false))] [.box 31 (c31 a1) false], .sum [1, 2, 9] [0] .ret [(2, .v (.bool false))] []] (by kernel_rfl) (pc (k_palingref15_rest_L1 _ _ h22) <| pc (k_palingref15_rest_L2 _ _ h34) <| pc (k_palingref15_rest_L3 _ _ h49) <| pc (k_palingref15_rest_L4 _ _ h71) <| pn)
        · injection h with h; subst h; exact rf Tryz.func95 rfl none [.sum [1, 2, 3] [0] (.exit 0) [(1, .op 0 1 0 0), (2, .v (.bool false))] [.box 31 (c31 a1) false], .sum [1, 2, 6] [0] (.exit 2) [(1, .op 0 1 0 0), (2, .v (.bool false))] [.box 31 (c31 a1) false], .sum [1, 2, 7] [0] (.exit 4) [(1, .op 0 1 0 0), (2, .v (.bool false))] [.box 31 (c31 a1) false], .sum [1, 2, 9] [0] (.exit 6) [(2, .v (.bool false))] []] (by kernel_rfl) (pc (k_palingref15_rest_L1 _ _ h22) <| pc (k_palingref15_rest_L2 _ _ h34) <| pc (k_palingref15_rest_L3 _ _ h49) <| pc (k_palingref15_rest_L4 _ _ h71) <| pn)

theorem k_palingref15_Right {a1 : Api_Net} {r : Bool} (h : palingref15_Right a1 = some r) :
    CallsOK Tryz.prog UU 61 [.agg (c31 a1)] [] (.v (.bool r)) [] := by
  unfold palingref15_Right at h
  rcases ite_out h with ⟨h2, h⟩ | ⟨h2, h⟩
  · injection h with h; subst h; exact rf Tryz.func61 rfl none [.dec true] (by kernel_rfl) (pc (h2) <| pn)
  · rcases ite_out h with ⟨h3, h⟩ | ⟨h3, h⟩
    · injection h with h; subst h; exact rf Tryz.func61 rfl none [.dec false, .dec true] (by kernel_rfl) (pc (h2) <| pc (h3) <| pn)
    · rcases ite_out h with ⟨h4, h⟩ | ⟨h4, h⟩
      · injection h with h; subst h; exact rf Tryz.func61 rfl none [.dec false, .dec false, .dec true] (by kernel_rfl) (pc (h2) <| pc (h3) <| pc (h4) <| pn)
      · rcases ite_out h with ⟨h5, h⟩ | ⟨h5, h⟩
        · injection h with h; subst h; exact rf Tryz.func61 rfl none [.dec false, .dec false, .dec false, .dec true] (by kernel_rfl) (pc (h2) <| pc (h3) <| pc (h4) <| pc (h5) <| pn)
        · rcases ite_out h with ⟨h6, h⟩ | ⟨h6, h⟩
          · injection h with h; subst h; exact rf Tryz.func61 rfl none [.dec false, .dec false, .dec false, .dec false, .dec true] (by kernel_rfl) (pc (h2) <| pc (h3) <| pc (h4) <| pc (h5) <| pc (h6) <| pn)
          · rcases ite_out h with ⟨h7, h⟩ | ⟨h7, h⟩
            · injection h with h; subst h; exact rf Tryz.func61 rfl none [.dec false, .dec false, .dec false, .dec false, .dec false, .dec true] (by kernel_rfl) (pc (h2) <| pc (h3) <| pc (h4) <| pc (h5) <| pc (h6) <| pc (h7) <| pn)
            · rcases ite_out h with ⟨h8, h⟩ | ⟨h8, h⟩
              · injection h with h; subst h; exact rf Tryz.func61 rfl none [.dec false, .dec false, .dec false, .dec false, .dec false, .dec false, .dec true] (by kernel_rfl) (pc (h2) <| pc (h3) <| pc (h4) <| pc (h5) <| pc (h6) <| pc (h7) <| pc (h8) <| pn)
              · rcases ite_out h with ⟨h9, h⟩ | ⟨h9, h⟩
                · injection h with h; subst h; exact rf Tryz.func61 rfl none [.dec false, .dec false, .dec false, .dec false, .dec false, .dec false, .dec false, .dec true] (by kernel_rfl) (pc (h2) <| pc (h3) <| pc (h4) <| pc (h5) <| pc (h6) <| pc (h7) <| pc (h8) <| pc (h9) <| pn)
                · obtain ⟨r10, h11, h⟩ := bind_out h
                  rcases ite_out h with ⟨h12, h⟩ | ⟨h12, h⟩
                  · obtain ⟨r13, h14, h⟩ := bind_out h
                    rcases ite_out h with ⟨h15, h⟩ | ⟨h15, h⟩
                    · obtain ⟨r16, h17, h⟩ := bind_out h
                      rcases ite_out h with ⟨h18, h⟩ | ⟨h18, h⟩
                      · obtain ⟨r19, h20, h⟩ := bind_out h
                        injection h with h; subst h; exact rf Tryz.func61 rfl none [.dec false, .dec false, .dec false, .dec false, .dec false, .dec false, .dec false, .dec false, .callv (.v (.bool r10)), .dec true, .callv (.v (.bool r13)), .dec true, .callv (.v (.bool r16)), .dec true, .callv (.v (.bool r19))] (by kernel_rfl) (pc (h2) <| pc (h3) <| pc (h4) <| pc (h5) <| pc (h6) <| pc (h7) <| pc (h8) <| pc (h9) <| pc (k_palingref15_domains h11) <| pc (h12) <| pc (k_palingref15_ports h14) <| pc (h15) <| pc (k_palingref15_links h17) <| pc (h18) <| pc (k_palingref15_rest h20) <| pn)
                      · injection h with h; subst h; exact rf Tryz.func61 rfl none [.dec false, .dec false, .dec false, .dec false, .dec false, .dec false, .dec false, .dec false, .callv (.v (.bool r10)), .dec true, .callv (.v (.bool r13)), .dec true, .callv (.v (.bool r16)), .dec false] (by kernel_rfl) (pc (h2) <| pc (h3) <| pc (h4) <| pc (h5) <| pc (h6) <| pc (h7) <| pc (h8) <| pc (h9) <| pc (k_palingref15_domains h11) <| pc (h12) <| pc (k_palingref15_ports h14) <| pc (h15) <| pc (k_palingref15_links h17) <| pc (h18) <| pn)
                    · injection h with h; subst h; exact rf Tryz.func61 rfl none [.dec false, .dec false, .dec false, .dec false, .dec false, .dec false, .dec false, .dec false, .callv (.v (.bool r10)), .dec true, .callv (.v (.bool r13)), .dec false] (by kernel_rfl) (pc (h2) <| pc (h3) <| pc (h4) <| pc (h5) <| pc (h6) <| pc (h7) <| pc (h8) <| pc (h9) <| pc (k_palingref15_domains h11) <| pc (h12) <| pc (k_palingref15_ports h14) <| pc (h15) <| pn)
                  · injection h with h; subst h; exact rf Tryz.func61 rfl none [.dec false, .dec false, .dec false, .dec false, .dec false, .dec false, .dec false, .dec false, .callv (.v (.bool r10)), .dec false] (by kernel_rfl) (pc (h2) <| pc (h3) <| pc (h4) <| pc (h5) <| pc (h6) <| pc (h7) <| pc (h8) <| pc (h9) <| pc (k_palingref15_domains h11) <| pc (h12) <| pn)

theorem k_palingref16_Fits {a1 : Api_Net} {a2 : Api_Line} {a3 : Int} {r : Bool} (h : palingref16_Fits a1 a2 a3 = some r) :
    CallsOK Tryz.prog UU 18 [.agg (c31 a1), .agg (c37 a2), .j a3] [] (.v (.bool r)) [] := by
  unfold palingref16_Fits at h
  rcases ite_out h with ⟨h4, h⟩ | ⟨h4, h⟩
  · obtain ⟨r5, h6, h⟩ := bind_out h
    rcases ite_out h with ⟨h7, h⟩ | ⟨h7, h⟩
    · obtain ⟨r8, h9, h⟩ := bind_out h
      injection h with h; subst h; exact rf Tryz.func18 rfl none [.dec true, .callv (.v (.bool r5)), .dec true, .callv (.v (.bool r8))] (by kernel_rfl) (pc (h4) <| pc (k_palingref11_Right h6) <| pc (h7) <| pc (k_palingref15_Right h9) <| pn)
    · injection h with h; subst h; exact rf Tryz.func18 rfl none [.dec true, .callv (.v (.bool r5)), .dec false] (by kernel_rfl) (pc (h4) <| pc (k_palingref11_Right h6) <| pc (h7) <| pn)
  · injection h with h; subst h; exact rf Tryz.func18 rfl none [.dec false] (by kernel_rfl) (pc (h4) <| pn)

theorem k_palingref15_Device_L1 {a1 : Api_Net} {a2 : ByteArray} : LoopOK Tryz.prog UU 0 22 (subC (codeOf Tryz.f62) [1, 0, 1, 0, 0]) (ρ := Int ⊕ Unit) (palingref15_Device_L1 a1 a2)
    (fun v3 : Int => ([(1, .v (.string a2)), (2, .op 0 1 0 0), (4, .z), (5, .j v3)] : Fr DD)) (fun v3 : Int => ([.box 31 (c31 a1) false] : Heap DD)) (fun r => match r with | Sum.inl v9 => .ret | Sum.inr _ => .exit 0) (fun r => match r with | Sum.inl v9 => [(4, .j v9)] | Sum.inr _ => [(4, .z)]) (fun r => match r with | Sum.inl v9 => [] | Sum.inr _ => []) := by
  refine loop_sound3 (fun s q h => ?_) (fun r => ?_)
  · replace h : palingref15_Device_L1 a1 a2 s = some q := h; revert h; revert s; intro v3 h
    unfold palingref15_Device_L1 at h
    rcases ite_out h with ⟨h4, h⟩ | ⟨h4, h⟩
    · obtain ⟨x5, h6, h⟩ := bind_out h
      rcases ite_out h with ⟨h7, h⟩ | ⟨h7, h⟩
      · injection h with h; subst h; exact rl [4] [] [.dec true, .row (c50 x5), .dec true] (by kernel_rfl) (pc (h4) <| pc (ob50 h6) <| pc (h7) <| pn)
      · injection h with h; subst h; exact rl [1, 2, 4, 5] [0] [.dec true, .row (c50 x5), .dec false] (by kernel_rfl) (pc (h4) <| pc (ob50 h6) <| pc (h7) <| pn)
    · injection h with h; subst h; exact rl [4] [] [.dec false] (by kernel_rfl) (pc (h4) <| pn)
  · rcases r with _ | _ <;> exact Ex.noConfusion

theorem k_palingref15_Device {a1 : Api_Net} {a2 : ByteArray} {r : Int} (h : palingref15_Device a1 a2 = some r) :
    CallsOK Tryz.prog UU 62 [.agg (c31 a1), .v (.string a2)] [] (.j r) [] := by
  unfold palingref15_Device at h
  obtain ⟨r11, h10, h⟩ := bind_out h
  rcases r11 with v9 | _
  · injection h with h; subst h; exact rf Tryz.func62 rfl none [.sum [1, 2, 4, 5] [0] .ret [(4, .j v9)] []] (by kernel_rfl) (pc (k_palingref15_Device_L1 _ _ h10) <| pn)
  · injection h with h; subst h; exact rf Tryz.func62 rfl none [.sum [1, 2, 4, 5] [0] (.exit 0) [(4, .z)] []] (by kernel_rfl) (pc (k_palingref15_Device_L1 _ _ h10) <| pn)

theorem k_palingref15_Port_L1 {a1 : Api_Net} {a2 : Int} {a3 : ByteArray} : LoopOK Tryz.prog UU 0 34 (subC (codeOf Tryz.f63) [1, 0, 1, 0, 0]) (ρ := Int ⊕ Unit) (palingref15_Port_L1 a1 a2 a3)
    (fun v4 : Int => ([(1, .j a2), (2, .v (.string a3)), (3, .op 0 1 0 0), (6, .z), (7, .j v4)] : Fr DD)) (fun v4 : Int => ([.box 31 (c31 a1) false] : Heap DD)) (fun r => match r with | Sum.inl v13 => .ret | Sum.inr _ => .exit 0) (fun r => match r with | Sum.inl v13 => [(6, .j v13)] | Sum.inr _ => [(6, .z)]) (fun r => match r with | Sum.inl v13 => [] | Sum.inr _ => []) := by
  refine loop_sound3 (fun s q h => ?_) (fun r => ?_)
  · replace h : palingref15_Port_L1 a1 a2 a3 s = some q := h; revert h; revert s; intro v4 h
    unfold palingref15_Port_L1 at h
    rcases ite_out h with ⟨h5, h⟩ | ⟨h5, h⟩
    · obtain ⟨x6, h7, h⟩ := bind_out h
      rcases ite_out h with ⟨h8, h⟩ | ⟨h8, h⟩
      · obtain ⟨x9, h10, h⟩ := bind_out h
        rcases ite_out h with ⟨h11, h⟩ | ⟨h11, h⟩
        · injection h with h; subst h; exact rl [6] [] [.dec true, .row (c52 x6), .dec true, .row (c52 x9), .dec true] (by kernel_rfl) (pc (h5) <| pc (ob52 h7) <| pc (h8) <| pc (ob52 h10) <| pc (h11) <| pn)
        · injection h with h; subst h; exact rl [1, 2, 3, 6, 7] [0] [.dec true, .row (c52 x6), .dec true, .row (c52 x9), .dec false] (by kernel_rfl) (pc (h5) <| pc (ob52 h7) <| pc (h8) <| pc (ob52 h10) <| pc (h11) <| pn)
      · injection h with h; subst h; exact rl [1, 2, 3, 6, 7] [0] [.dec true, .row (c52 x6), .dec false] (by kernel_rfl) (pc (h5) <| pc (ob52 h7) <| pc (h8) <| pn)
    · injection h with h; subst h; exact rl [6] [] [.dec false] (by kernel_rfl) (pc (h5) <| pn)
  · rcases r with _ | _ <;> exact Ex.noConfusion

theorem k_palingref15_Port {a1 : Api_Net} {a2 : Int} {a3 : ByteArray} {r : Int} (h : palingref15_Port a1 a2 a3 = some r) :
    CallsOK Tryz.prog UU 63 [.agg (c31 a1), .j a2, .v (.string a3)] [] (.j r) [] := by
  unfold palingref15_Port at h
  obtain ⟨r15, h14, h⟩ := bind_out h
  rcases r15 with v13 | _
  · injection h with h; subst h; exact rf Tryz.func63 rfl none [.sum [1, 2, 3, 6, 7] [0] .ret [(6, .j v13)] []] (by kernel_rfl) (pc (k_palingref15_Port_L1 _ _ h14) <| pn)
  · injection h with h; subst h; exact rf Tryz.func63 rfl none [.sum [1, 2, 3, 6, 7] [0] (.exit 0) [(6, .z)] []] (by kernel_rfl) (pc (k_palingref15_Port_L1 _ _ h14) <| pn)

theorem k_palingref17_end {a1 : Api_Net} {a2 : ByteArray} {a3 : ByteArray} {r : Int} (h : palingref17_end a1 a2 a3 = some r) :
    CallsOK Tryz.prog UU 19 [.agg (c31 a1), .v (.string a2), .v (.string a3)] [] (.j r) [] := by
  unfold palingref17_end at h
  obtain ⟨r4, h5, h⟩ := bind_out h
  rcases ite_out h with ⟨h6, h⟩ | ⟨h6, h⟩
  · injection h with h; subst h; exact rf Tryz.func19 rfl none [.callv (.j r4), .dec true] (by kernel_rfl) (pc (k_palingref15_Device h5) <| pc (h6) <| pn)
  · obtain ⟨r7, h8, h⟩ := bind_out h
    injection h with h; subst h; exact rf Tryz.func19 rfl none [.callv (.j r4), .dec false, .callv (.j r7)] (by kernel_rfl) (pc (k_palingref15_Device h5) <| pc (h6) <| pc (k_palingref15_Port h8) <| pn)

end Go.Eng
