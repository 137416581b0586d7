/- Part of the proof of AuditTells: printed mirrors of the functions, or their contracts. No conditions. -/
import Derived.Test.YtdlaaoajcoogbaaGreatDoorMAK3
set_option linter.unusedVariables false
set_option maxRecDepth 100000
namespace Go.Eng
open Go Go.Proofs
theorem k_palingref15_At_L1 {a1 : Api_Net} {a2 : Int} {a3 : Int} : LoopOK Tryz.prog UU 0 34 (subC (codeOf Tryz.f89) [1, 0, 1, 0, 0]) (ρ := Int ⊕ Unit) (palingref15_At_L1 a1 a2 a3)
  (fun v4 : Int => ([(1, .j a2), (2, .j a3), (3, .o 0), (6, .z), (7, .j v4)] : Fr DD)) (fun v4 : Int => ([.box 31 (c31 a1) false] : Heap DD)) (fun r => match r with | Sum.inl v13 => .ret | Sum.inr _ => .exit 0) (fun r => match r with | Sum.inl v13 => [(6, .j v13)] | Sum.inr _ => [(6, .z)]) (fun r => match r with | Sum.inl v13 => [] | Sum.inr _ => []) := by
 refine loop_sound3 (fun s q h => ?_) (fun r => ?_)
 ·replace h : palingref15_At_L1 a1 a2 a3 s = some q := h; revert h; revert s; intro v4 h
  unfold palingref15_At_L1 at h
  obtain ⟨h5, h⟩|⟨h5, h⟩ := ite_out h
  ·obtain ⟨x6, h7, h⟩ := bo h
   obtain ⟨h8, h⟩|⟨h8, h⟩ := ite_out h
   ·obtain ⟨x9, h10, h⟩ := bo h
    obtain ⟨h11, h⟩|⟨h11, h⟩ := ite_out h
    ·obtain rfl := oi h; exact rl [6] [] [.t, .row (c63 x6), .t, .row (c63 x9), .t] (pc h5<|pc (ob63 h7)<|pc h8<|pc (ob63 h10)<|pc h11<|pn)
    ·obtain rfl := oi h; exact rl [1, 2, 3, 6, 7] [0] [.t, .row (c63 x6), .t, .row (c63 x9), .f] (pc h5<|pc (ob63 h7)<|pc h8<|pc (ob63 h10)<|pc h11<|pn)
   ·obtain rfl := oi h; exact rl [1, 2, 3, 6, 7] [0] [.t, .row (c63 x6), .f] (pc h5<|pc (ob63 h7)<|pc h8<|pn)
  ·obtain rfl := oi h; exact rl [6] [] [.f] (pc h5<|pn)
 ·rcases r with _ | _ <;> exact Ex.noConfusion

theorem k_palingref15_At {a1 : Api_Net} {a2 : Int} {a3 : Int} {r : Int} (h : palingref15_At a1 a2 a3 = some r) :
  CallsOK Tryz.prog UU 89 [.agg (c31 a1), .j a2, .j a3] [] (.j r) [] := by
 unfold palingref15_At at h
 obtain ⟨r15, h14, h⟩ := bo h
 rcases r15 with v13 | _
 ·obtain rfl := oi h; exact rf Tryz.func89 none [.sum [1, 2, 3, 6, 7] [0] .ret [(6, .j v13)] []] (pc (k_palingref15_At_L1 _ _ h14)<|pn)
 ·obtain rfl := oi h; exact rf Tryz.func89 none [.sum [1, 2, 3, 6, 7] [0] (.exit 0) [(6, .z)] []] (pc (k_palingref15_At_L1 _ _ h14)<|pn)

theorem k_palingref15_In_L1 {a1 : List Int} {a2 : Int} : LoopOK Tryz.prog UU 0 18 (subC (codeOf Tryz.f91) [1, 0, 1, 0, 0]) (ρ := Unit ⊕ Unit) (palingref15_In_L1 a1 a2)
  (fun v3 : Int => ([(0, .sl 3 a1), (1, .j a2), (4, .y false), (5, .j v3)] : Fr DD)) (fun v3 : Int => ([] : Heap DD)) (fun r => match r with | Sum.inl _ => .ret | Sum.inr _ => .exit 0) (fun r => match r with | Sum.inl _ => [(4, .y true)] | Sum.inr _ => [(4, .y false)]) (fun r => match r with | Sum.inl _ => [] | Sum.inr _ => []) := by
 refine loop_sound3 (fun s q h => ?_) (fun r => ?_)
 ·replace h : palingref15_In_L1 a1 a2 s = some q := h; revert h; revert s; intro v3 h
  unfold palingref15_In_L1 at h
  obtain ⟨h4, h⟩|⟨h4, h⟩ := ite_out h
  ·obtain ⟨x5, h6, h⟩ := bo h
   obtain ⟨h7, h⟩|⟨h7, h⟩ := ite_out h
   ·obtain rfl := oi h; exact rl [4] [] [.t, .row (c3 x5), .t] (pc h4<|pc (ob3 h6)<|pc h7<|pn)
   ·obtain rfl := oi h; exact rl [0, 1, 4, 5] [] [.t, .row (c3 x5), .f] (pc h4<|pc (ob3 h6)<|pc h7<|pn)
  ·obtain rfl := oi h; exact rl [4] [] [.f] (pc h4<|pn)
 ·rcases r with _ | _ <;> exact Ex.noConfusion

theorem k_palingref15_In {a1 : List Int} {a2 : Int} {r : Bool} (h : palingref15_In a1 a2 = some r) :
  CallsOK Tryz.prog UU 91 [.sl 3 a1, .j a2] [] (.y r) [] := by
 unfold palingref15_In at h
 obtain ⟨r9, h8, h⟩ := bo h
 rcases r9 with _ | _
 ·obtain rfl := oi h; exact rf Tryz.func91 none [.sum [0, 1, 4, 5] [] .ret [(4, .y true)] []] (pc (k_palingref15_In_L1 _ _ h8)<|pn)
 ·obtain rfl := oi h; exact rf Tryz.func91 none [.sum [0, 1, 4, 5] [] (.exit 0) [(4, .y false)] []] (pc (k_palingref15_In_L1 _ _ h8)<|pn)

theorem k_palingref15_peer {a1 : Api_Net} {a2 : Int} {a3 : Int} {r : Bool} (h : palingref15_peer a1 a2 a3 = some r) :
  CallsOK Tryz.prog UU 90 [.agg (c31 a1), .j a2, .j a3] [] (.y r) [] := by
 unfold palingref15_peer at h
 obtain ⟨r4, h5, h⟩ := bo h
 obtain ⟨h6, h⟩|⟨h6, h⟩ := ite_out h
 ·obtain rfl := oi h; exact rf Tryz.func90 none [.b r4, .t] (pc (k_palingref15_Place h5)<|pc h6<|pn)
 ·obtain ⟨h7, h⟩|⟨h7, h⟩ := ite_out h
  ·obtain rfl := oi h; exact rf Tryz.func90 none [.b r4, .f, .t] (pc (k_palingref15_Place h5)<|pc h6<|pc h7<|pn)
  ·obtain ⟨x8, h9, h⟩ := bo h
   obtain ⟨x10, h11, h⟩ := bo h
   obtain ⟨h12, h⟩|⟨h12, h⟩ := ite_out h
   ·obtain ⟨h13, h⟩|⟨h13, h⟩ := ite_out h
    ·obtain ⟨h14, h⟩|⟨h14, h⟩ := ite_out h
     ·obtain ⟨x15, h16, h⟩ := bo h
      obtain ⟨h17, h⟩|⟨h17, h⟩ := ite_out h
      ·obtain ⟨x18, h19, h⟩ := bo h
       obtain ⟨h20, h⟩|⟨h20, h⟩ := ite_out h
       ·obtain ⟨r21, h22, h⟩ := bo h
        obtain rfl := oi h; exact rf Tryz.func90 none [.b r4, .f, .f, .row (c63 x8), .row (c63 x10), .t, .t, .t, .row (c61 x15), .t, .row (c61 x18), .t, .b r21] (pc (k_palingref15_Place h5)<|pc h6<|pc h7<|pc (ob63 h9)<|pc (ob63 h11)<|pc h12<|pc h13<|pc h14<|pc (ob61 h16)<|pc h17<|pc (ob61 h19)<|pc h20<|pc (k_palingref15_In h22)<|pn)
       ·obtain rfl := oi h; exact rf Tryz.func90 none [.b r4, .f, .f, .row (c63 x8), .row (c63 x10), .t, .t, .t, .row (c61 x15), .t, .row (c61 x18), .f] (pc (k_palingref15_Place h5)<|pc h6<|pc h7<|pc (ob63 h9)<|pc (ob63 h11)<|pc h12<|pc h13<|pc h14<|pc (ob61 h16)<|pc h17<|pc (ob61 h19)<|pc h20<|pn)
      ·obtain rfl := oi h; exact rf Tryz.func90 none [.b r4, .f, .f, .row (c63 x8), .row (c63 x10), .t, .t, .t, .row (c61 x15), .f] (pc (k_palingref15_Place h5)<|pc h6<|pc h7<|pc (ob63 h9)<|pc (ob63 h11)<|pc h12<|pc h13<|pc h14<|pc (ob61 h16)<|pc h17<|pn)
     ·obtain rfl := oi h; exact rf Tryz.func90 none [.b r4, .f, .f, .row (c63 x8), .row (c63 x10), .t, .t, .f] (pc (k_palingref15_Place h5)<|pc h6<|pc h7<|pc (ob63 h9)<|pc (ob63 h11)<|pc h12<|pc h13<|pc h14<|pn)
    ·obtain rfl := oi h; exact rf Tryz.func90 none [.b r4, .f, .f, .row (c63 x8), .row (c63 x10), .t, .f] (pc (k_palingref15_Place h5)<|pc h6<|pc h7<|pc (ob63 h9)<|pc (ob63 h11)<|pc h12<|pc h13<|pn)
   ·obtain rfl := oi h; exact rf Tryz.func90 none [.b r4, .f, .f, .row (c63 x8), .row (c63 x10), .f] (pc (k_palingref15_Place h5)<|pc h6<|pc h7<|pc (ob63 h9)<|pc (ob63 h11)<|pc h12<|pn)

theorem k_palingref15_domains_L1 {a1 : Api_Net} : LoopOK Tryz.prog UU 0 120 (subC (codeOf Tryz.f59) [1, 0, 1, 0, 0]) (ρ := Unit ⊕ Unit) (palingref15_domains_L1 a1)
  (fun v2 : Int => ([(1, .o 0), (2, .y false), (3, .j v2)] : Fr DD)) (fun v2 : Int => ([.box 31 (c31 a1) false] : Heap DD)) (fun r => match r with | Sum.inl _ => .ret | Sum.inr _ => .exit 0) (fun r => match r with | Sum.inl _ => [(2, .y false)] | Sum.inr _ => [(1, .o 0), (2, .y false)]) (fun r => match r with | Sum.inl _ => [] | Sum.inr _ => [.box 31 (c31 a1) false]) := by
 refine loop_sound3 (fun s q h => ?_) (fun r => ?_)
 ·replace h : palingref15_domains_L1 a1 s = some q := h; revert h; revert s; intro v2 h
  unfold palingref15_domains_L1 at h
  obtain ⟨h3, h⟩|⟨h3, h⟩ := ite_out h
  ·obtain ⟨x4, h5, h⟩ := bo h
   obtain ⟨r6, h7, h⟩ := bo h
   obtain ⟨h8, h⟩|⟨h8, h⟩ := ite_out h
   ·obtain rfl := oi h; exact rl [2] [] [.t, .row (c63 x4), .b r6, .t] (pc h3<|pc (ob63 h5)<|pc (k_palingref15_Place h7)<|pc h8<|pn)
   ·obtain ⟨h9, h⟩|⟨h9, h⟩ := ite_out h
    ·obtain rfl := oi h; exact rl [2] [] [.t, .row (c63 x4), .b r6, .f, .t] (pc h3<|pc (ob63 h5)<|pc (k_palingref15_Place h7)<|pc h8<|pc h9<|pn)
    ·obtain ⟨h10, h⟩|⟨h10, h⟩ := ite_out h
     ·obtain rfl := oi h; exact rl [2] [] [.t, .row (c63 x4), .b r6, .f, .f, .t] (pc h3<|pc (ob63 h5)<|pc (k_palingref15_Place h7)<|pc h8<|pc h9<|pc h10<|pn)
     ·obtain ⟨h11, h⟩|⟨h11, h⟩ := ite_out h
      ·obtain rfl := oi h; exact rl [2] [] [.t, .row (c63 x4), .b r6, .f, .f, .f, .t] (pc h3<|pc (ob63 h5)<|pc (k_palingref15_Place h7)<|pc h8<|pc h9<|pc h10<|pc h11<|pn)
      ·obtain ⟨h12, h⟩|⟨h12, h⟩ := ite_out h
       ·obtain rfl := oi h; exact rl [2] [] [.t, .row (c63 x4), .b r6, .f, .f, .f, .f, .t] (pc h3<|pc (ob63 h5)<|pc (k_palingref15_Place h7)<|pc h8<|pc h9<|pc h10<|pc h11<|pc h12<|pn)
       ·obtain ⟨r13, h14, h⟩ := bo h
        obtain ⟨h15, h⟩|⟨h15, h⟩ := ite_out h
        ·obtain rfl := oi h; exact rl [2] [] [.t, .row (c63 x4), .b r6, .f, .f, .f, .f, .f, .callv (.j r13), .t] (pc h3<|pc (ob63 h5)<|pc (k_palingref15_Place h7)<|pc h8<|pc h9<|pc h10<|pc h11<|pc h12<|pc (k_palingref15_At h14)<|pc h15<|pn)
        ·obtain ⟨h16, h⟩|⟨h16, h⟩ := ite_out h
         ·obtain ⟨r17, h18, h⟩ := bo h
          obtain ⟨h19, h⟩|⟨h19, h⟩ := ite_out h
          ·obtain rfl := oi h; exact rl [2] [] [.t, .row (c63 x4), .b r6, .f, .f, .f, .f, .f, .callv (.j r13), .f, .t, .b r17, .t] (pc h3<|pc (ob63 h5)<|pc (k_palingref15_Place h7)<|pc h8<|pc h9<|pc h10<|pc h11<|pc h12<|pc (k_palingref15_At h14)<|pc h15<|pc h16<|pc (k_palingref15_Place h18)<|pc h19<|pn)
          ·obtain ⟨x20, h21, h⟩ := bo h
           obtain ⟨h22, h⟩|⟨h22, h⟩ := ite_out h
           ·obtain rfl := oi h; exact rl [2] [] [.t, .row (c63 x4), .b r6, .f, .f, .f, .f, .f, .callv (.j r13), .f, .t, .b r17, .f, .row (c103 x20), .t] (pc h3<|pc (ob63 h5)<|pc (k_palingref15_Place h7)<|pc h8<|pc h9<|pc h10<|pc h11<|pc h12<|pc (k_palingref15_At h14)<|pc h15<|pc h16<|pc (k_palingref15_Place h18)<|pc h19<|pc (ob103 h21)<|pc h22<|pn)
           ·obtain rfl := oi h; exact rl [1, 2, 3] [0] [.t, .row (c63 x4), .b r6, .f, .f, .f, .f, .f, .callv (.j r13), .f, .t, .b r17, .f, .row (c103 x20), .f] (pc h3<|pc (ob63 h5)<|pc (k_palingref15_Place h7)<|pc h8<|pc h9<|pc h10<|pc h11<|pc h12<|pc (k_palingref15_At h14)<|pc h15<|pc h16<|pc (k_palingref15_Place h18)<|pc h19<|pc (ob103 h21)<|pc h22<|pn)
         ·obtain rfl := oi h; exact rl [1, 2, 3] [0] [.t, .row (c63 x4), .b r6, .f, .f, .f, .f, .f, .callv (.j r13), .f, .f] (pc h3<|pc (ob63 h5)<|pc (k_palingref15_Place h7)<|pc h8<|pc h9<|pc h10<|pc h11<|pc h12<|pc (k_palingref15_At h14)<|pc h15<|pc h16<|pn)
  ·obtain rfl := oi h; exact rl [1, 2] [0] [.f] (pc h3<|pn)
 ·rcases r with _ | _ <;> exact Ex.noConfusion

theorem k_palingref15_domains_L3 {a1 : Api_Net} {v25 : Int} {x27 : Api_Domain} : LoopOK Tryz.prog UU 0 120 (subC (codeOf Tryz.f59) [1, 1, 0, 1, 0, 0, 1, 0, 0, 1, 1, 0, 0]) (ρ := Unit ⊕ Unit) (palingref15_domains_L3 a1 v25 x27)
  (fun v29 : Int => ([(1, .o 0), (2, .y false), (5, .j v25), (6, .o 1), (7, .j v29)] : Fr DD)) (fun v29 : Int => ([.box 31 (c31 a1) false, .box 63 (c63 x27) false] : Heap DD)) (fun r => match r with | Sum.inl _ => .ret | Sum.inr _ => .exit 4) (fun r => match r with | Sum.inl _ => [(2, .y false)] | Sum.inr _ => [(1, .o 0), (2, .y false), (5, .j v25)]) (fun r => match r with | Sum.inl _ => [] | Sum.inr _ => [.box 31 (c31 a1) false]) := by
 refine loop_sound3 (fun s q h => ?_) (fun r => ?_)
 ·replace h : palingref15_domains_L3 a1 v25 x27 s = some q := h; revert h; revert s; intro v29 h
  unfold palingref15_domains_L3 at h
  obtain ⟨h30, h⟩|⟨h30, h⟩ := ite_out h
  ·obtain ⟨x31, h32, h⟩ := bo h
   obtain ⟨r33, h34, h⟩ := bo h
   obtain ⟨h35, h⟩|⟨h35, h⟩ := ite_out h
   ·obtain rfl := oi h; exact rl [2] [] [.t, .row (c3 x31), .b r33, .t] (pc h30<|pc (ob3 h32)<|pc (k_palingref15_peer h34)<|pc h35<|pn)
   ·obtain ⟨h36, h⟩|⟨h36, h⟩ := ite_out h
    ·obtain ⟨x37, h38, h⟩ := bo h
     obtain ⟨r39, h40, h⟩ := bo h
     obtain ⟨h41, h⟩|⟨h41, h⟩ := ite_out h
     ·obtain rfl := oi h; exact rl [2] [] [.t, .row (c3 x31), .b r33, .f, .row (c3 x37), .b r39, .t] (pc h30<|pc (ob3 h32)<|pc (k_palingref15_peer h34)<|pc h35<|pc (sl_ob h36)<|pc (ob3 h38)<|pc (k_palingref15_In h40)<|pc h41<|pn)
     ·obtain rfl := oi h; exact rl [1, 2, 5, 6, 7] [0, 1] [.t, .row (c3 x31), .b r33, .f, .row (c3 x37), .b r39, .f] (pc h30<|pc (ob3 h32)<|pc (k_palingref15_peer h34)<|pc h35<|pc (sl_ob h36)<|pc (ob3 h38)<|pc (k_palingref15_In h40)<|pc h41<|pn)
    ·cases h
  ·obtain rfl := oi h; exact rl [1, 2, 5] [0] [.f] (pc h30<|pn)
 ·rcases r with _ | _ <;> exact Ex.noConfusion

theorem k_palingref15_domains_L2 {a1 : Api_Net} : LoopOK Tryz.prog UU 0 120 (subC (codeOf Tryz.f59) [1, 1, 0, 1, 0, 0]) (ρ := Unit ⊕ Unit) (palingref15_domains_L2 a1)
  (fun v25 : Int => ([(1, .o 0), (2, .y false), (5, .j v25)] : Fr DD)) (fun v25 : Int => ([.box 31 (c31 a1) false] : Heap DD)) (fun r => match r with | Sum.inl _ => .ret | Sum.inr _ => .exit 2) (fun r => match r with | Sum.inl _ => [(2, .y false)] | Sum.inr _ => [(2, .y false)]) (fun r => match r with | Sum.inl _ => [] | Sum.inr _ => []) := by
 refine loop_sound3 (fun s q h => ?_) (fun r => ?_)
 ·replace h : palingref15_domains_L2 a1 s = some q := h; revert h; revert s; intro v25 h
  unfold palingref15_domains_L2 at h
  obtain ⟨h26, h⟩|⟨h26, h⟩ := ite_out h
  ·obtain ⟨x27, h28, h⟩ := bo h
   obtain ⟨r43, h42, h⟩ := bo h
   rcases r43 with _ | _
   ·obtain rfl := oi h; exact rl [2] [] [.t, .row (c63 x27), .sum [1, 2, 5, 6, 7] [0, 2] .ret [(2, .y false)] []] (pc h26<|pc (ob63 h28)<|pc (k_palingref15_domains_L3 _ _ h42)<|pn)
   ·obtain rfl := oi h; exact rl [1, 2, 5] [0] [.t, .row (c63 x27), .sum [1, 2, 5, 6, 7] [0, 2] (.exit 4) [(1, .o 0), (2, .y false), (5, .j v25)] [.box 31 (c31 a1) false]] (pc h26<|pc (ob63 h28)<|pc (k_palingref15_domains_L3 _ _ h42)<|pn)
  ·obtain rfl := oi h; exact rl [2] [] [.f] (pc h26<|pn)
 ·rcases r with _ | _ <;> exact Ex.noConfusion

theorem k_palingref15_domains {a1 : Api_Net} {r : Bool} (h : palingref15_domains a1 = some r) :
  CallsOK Tryz.prog UU 59 [.agg (c31 a1)] [] (.y r) [] := by
 unfold palingref15_domains at h
 obtain ⟨r24, h23, h⟩ := bo h
 rcases r24 with _ | _
 ·obtain rfl := oi h; exact rf Tryz.func59 none [.sum [1, 2, 3] [0] .ret [(2, .y false)] []] (pc (k_palingref15_domains_L1 _ _ h23)<|pn)
 ·obtain ⟨r45, h44, h⟩ := bo h
  rcases r45 with _ | _
  ·obtain rfl := oi h; exact rf Tryz.func59 none [.sum [1, 2, 3] [0] (.exit 0) [(1, .o 0), (2, .y false)] [.box 31 (c31 a1) false], .sum [1, 2, 5] [0] .ret [(2, .y false)] []] (pc (k_palingref15_domains_L1 _ _ h23)<|pc (k_palingref15_domains_L2 _ _ h44)<|pn)
  ·obtain rfl := oi h; exact rf Tryz.func59 none [.sum [1, 2, 3] [0] (.exit 0) [(1, .o 0), (2, .y false)] [.box 31 (c31 a1) false], .sum [1, 2, 5] [0] (.exit 2) [(2, .y false)] []] (pc (k_palingref15_domains_L1 _ _ h23)<|pc (k_palingref15_domains_L2 _ _ h44)<|pn)

theorem k_palingref03_Rising_L1 {a1 : List Int} {a2 : Int} {a3 : Int} : LoopOK Tryz.prog UU 0 52 (subC (codeOf Tryz.f114) [1, 1, 0, 1, 0, 0]) (ρ := Unit ⊕ Unit) (palingref03_Rising_L1 a1 a2 a3)
  (fun v6 : Int => ([(0, .sl 3 a1), (1, .j a2), (2, .j a3), (6, .y false), (7, .j v6)] : Fr DD)) (fun v6 : Int => ([] : Heap DD)) (fun r => match r with | Sum.inl _ => .ret | Sum.inr _ => .exit 0) (fun r => match r with | Sum.inl _ => [(6, .y false)] | Sum.inr _ => [(6, .y false)]) (fun r => match r with | Sum.inl _ => [] | Sum.inr _ => []) := by
 refine loop_sound3 (fun s q h => ?_) (fun r => ?_)
 ·replace h : palingref03_Rising_L1 a1 a2 a3 s = some q := h; revert h; revert s; intro v6 h
  unfold palingref03_Rising_L1 at h
  obtain ⟨h7, h⟩|⟨h7, h⟩ := ite_out h
  ·obtain ⟨x8, h9, h⟩ := bo h
   obtain ⟨h10, h⟩|⟨h10, h⟩ := ite_out h
   ·obtain rfl := oi h; exact rl [6] [] [.t, .row (c3 x8), .t] (pc h7<|pc (ob3 h9)<|pc h10<|pn)
   ·obtain ⟨x11, h12, h⟩ := bo h
    obtain ⟨h13, h⟩|⟨h13, h⟩ := ite_out h
    ·obtain rfl := oi h; exact rl [6] [] [.t, .row (c3 x8), .f, .row (c3 x11), .t] (pc h7<|pc (ob3 h9)<|pc h10<|pc (ob3 h12)<|pc h13<|pn)
    ·obtain ⟨h14, h⟩|⟨h14, h⟩ := ite_out h
     ·obtain ⟨x15, h16, h⟩ := bo h
      obtain ⟨x17, h18, h⟩ := bo h
      obtain ⟨h19, h⟩|⟨h19, h⟩ := ite_out h
      ·obtain rfl := oi h; exact rl [6] [] [.t, .row (c3 x8), .f, .row (c3 x11), .f, .t, .row (c3 x15), .row (c3 x17), .t] (pc h7<|pc (ob3 h9)<|pc h10<|pc (ob3 h12)<|pc h13<|pc h14<|pc (ob3 h16)<|pc (ob3 h18)<|pc h19<|pn)
      ·obtain rfl := oi h; exact rl [0, 1, 2, 6, 7] [] [.t, .row (c3 x8), .f, .row (c3 x11), .f, .t, .row (c3 x15), .row (c3 x17), .f] (pc h7<|pc (ob3 h9)<|pc h10<|pc (ob3 h12)<|pc h13<|pc h14<|pc (ob3 h16)<|pc (ob3 h18)<|pc h19<|pn)
     ·obtain rfl := oi h; exact rl [0, 1, 2, 6, 7] [] [.t, .row (c3 x8), .f, .row (c3 x11), .f, .f] (pc h7<|pc (ob3 h9)<|pc h10<|pc (ob3 h12)<|pc h13<|pc h14<|pn)
  ·obtain rfl := oi h; exact rl [6] [] [.f] (pc h7<|pn)
 ·rcases r with _ | _ <;> exact Ex.noConfusion

theorem k_palingref03_Rising {a1 : List Int} {a2 : Int} {a3 : Int} {r : Bool} (h : palingref03_Rising a1 a2 a3 = some r) :
  CallsOK Tryz.prog UU 114 [.sl 3 a1, .j a2, .j a3] [] (.y r) [] := by
 unfold palingref03_Rising at h
 obtain ⟨h4, h⟩|⟨h4, h⟩ := ite_out h
 ·obtain rfl := oi h; exact rf Tryz.func114 none [.t] (pc h4<|pn)
 ·obtain ⟨h5, h⟩|⟨h5, h⟩ := ite_out h
  ·obtain rfl := oi h; exact rf Tryz.func114 none [.f, .t] (pc h4<|pc h5<|pn)
  ·obtain ⟨r21, h20, h⟩ := bo h
   rcases r21 with _ | _
   ·obtain rfl := oi h; exact rf Tryz.func114 none [.f, .f, .sum [0, 1, 2, 6, 7] [] .ret [(6, .y false)] []] (pc h4<|pc h5<|pc (k_palingref03_Rising_L1 _ _ h20)<|pn)
   ·obtain rfl := oi h; exact rf Tryz.func114 none [.f, .f, .sum [0, 1, 2, 6, 7] [] (.exit 0) [(6, .y false)] []] (pc h4<|pc h5<|pc (k_palingref03_Rising_L1 _ _ h20)<|pn)

theorem k_palingref15_rising {a1 : List Int} {a2 : Int} {r : Bool} (h : palingref15_rising a1 a2 = some r) :
  CallsOK Tryz.prog UU 92 [.sl 3 a1, .j a2] [] (.y r) [] := by
 unfold palingref15_rising at h
 obtain ⟨h3, h⟩|⟨h3, h⟩ := ite_out h
 ·obtain rfl := oi h; exact rf Tryz.func92 none [.t] (pc h3<|pn)
 ·obtain ⟨r4, h5, h⟩ := bo h
  obtain rfl := oi h; exact rf Tryz.func92 none [.f, .b r4] (pc h3<|pc (k_palingref03_Rising h5)<|pn)

theorem k_palingref15_ports_J2 {a1 : Api_Net} {v2 : Int} {x4 : Api_Port} {r : Unit ⊕ Unit} (h : palingref15_ports_J2 a1 v2 x4 = some r) :
  ExecOK Tryz.prog UU 0 120 (subC (codeOf Tryz.f60) [1, 0, 1, 0, 0, 1, 0, 0, 1, 1, 0]) [(1, .o 0), (2, .y false), (3, .j v2), (4, .o 1)] [.box 31 (c31 a1) false, .box 52 (c52 x4) false] ((fun r => match r with | Sum.inl _ => .ret | Sum.inr _ => .nor) r) ((fun r => match r with | Sum.inl _ => [(2, .y false)] | Sum.inr _ => [(1, .o 0), (2, .y false), (3, .j v2), (4, .o 1)]) r) ((fun r => match r with | Sum.inl _ => [] | Sum.inr _ => [.box 31 (c31 a1) false, .box 52 (c52 x4) false]) r) := by
 unfold palingref15_ports_J2 at h
 obtain ⟨h17, h⟩|⟨h17, h⟩ := ite_out h
 ·obtain ⟨h18, h⟩|⟨h18, h⟩ := ite_out h
  ·obtain rfl := oi h; exact rl [2] [] [.t, .t] (pc h17<|pc h18<|pn)
  ·obtain ⟨h19, h⟩|⟨h19, h⟩ := ite_out h
   ·obtain ⟨r20, h21, h⟩ := bo h
    obtain ⟨h22, h⟩|⟨h22, h⟩ := ite_out h
    ·obtain rfl := oi h; exact rl [2] [] [.t, .f, .t, .callv (.j r20), .t] (pc h17<|pc h18<|pc h19<|pc (k_palingref15_At h21)<|pc h22<|pn)
    ·obtain rfl := oi h; exact rl [1, 2, 3, 4] [0, 1] [.t, .f, .t, .callv (.j r20), .f] (pc h17<|pc h18<|pc h19<|pc (k_palingref15_At h21)<|pc h22<|pn)
   ·obtain rfl := oi h; exact rl [1, 2, 3, 4] [0, 1] [.t, .f, .f] (pc h17<|pc h18<|pc h19<|pn)
 ·obtain ⟨h23, h⟩|⟨h23, h⟩ := ite_out h
  ·obtain ⟨r24, h25, h⟩ := bo h
   obtain ⟨h26, h⟩|⟨h26, h⟩ := ite_out h
   ·obtain rfl := oi h; exact rl [2] [] [.f, .t, .callv (.j r24), .t] (pc h17<|pc h23<|pc (k_palingref15_At h25)<|pc h26<|pn)
   ·obtain rfl := oi h; exact rl [1, 2, 3, 4] [0, 1] [.f, .t, .callv (.j r24), .f] (pc h17<|pc h23<|pc (k_palingref15_At h25)<|pc h26<|pn)
  ·obtain rfl := oi h; exact rl [1, 2, 3, 4] [0, 1] [.f, .f] (pc h17<|pc h23<|pn)

theorem k_palingref15_ports_L3 {a1 : Api_Net} {v2 : Int} {x4 : Api_Port} : LoopOK Tryz.prog UU 0 120 (subC (codeOf Tryz.f60) [1, 0, 1, 0, 0, 1, 0, 0, 1, 1, 1, 0, 1, 0, 0]) (ρ := Unit ⊕ Unit) (palingref15_ports_L3 a1 v2 x4)
  (fun v29 : Int => ([(1, .o 0), (2, .y false), (3, .j v2), (4, .o 1), (5, .j v29)] : Fr DD)) (fun v29 : Int => ([.box 31 (c31 a1) false, .box 52 (c52 x4) false] : Heap DD)) (fun r => match r with | Sum.inl _ => .ret | Sum.inr _ => .exit 2) (fun r => match r with | Sum.inl _ => [(2, .y false)] | Sum.inr _ => [(1, .o 0), (2, .y false), (3, .j v2), (4, .o 1)]) (fun r => match r with | Sum.inl _ => [] | Sum.inr _ => [.box 31 (c31 a1) false, .box 52 (c52 x4) false]) := by
 refine loop_sound3 (fun s q h => ?_) (fun r => ?_)
 ·replace h : palingref15_ports_L3 a1 v2 x4 s = some q := h; revert h; revert s; intro v29 h
  unfold palingref15_ports_L3 at h
  obtain ⟨h30, h⟩|⟨h30, h⟩ := ite_out h
  ·obtain ⟨x31, h32, h⟩ := bo h
   obtain ⟨r33, h34, h⟩ := bo h
   obtain ⟨h35, h⟩|⟨h35, h⟩ := ite_out h
   ·obtain rfl := oi h; exact rl [2] [] [.t, .row (c3 x31), .callv (.j r33), .t] (pc h30<|pc (ob3 h32)<|pc (k_palingref15_At h34)<|pc h35<|pn)
   ·obtain rfl := oi h; exact rl [1, 2, 3, 4, 5] [0, 1] [.t, .row (c3 x31), .callv (.j r33), .f] (pc h30<|pc (ob3 h32)<|pc (k_palingref15_At h34)<|pc h35<|pn)
  ·obtain rfl := oi h; exact rl [1, 2, 3, 4] [0, 1] [.f] (pc h30<|pn)
 ·rcases r with _ | _ <;> exact Ex.noConfusion

theorem k_palingref15_ports_L1 {a1 : Api_Net} : LoopOK Tryz.prog UU 0 120 (subC (codeOf Tryz.f60) [1, 0, 1, 0, 0]) (ρ := Unit ⊕ Unit) (palingref15_ports_L1 a1)
  (fun v2 : Int => ([(1, .o 0), (2, .y false), (3, .j v2)] : Fr DD)) (fun v2 : Int => ([.box 31 (c31 a1) false] : Heap DD)) (fun r => match r with | Sum.inl _ => .ret | Sum.inr _ => .exit 0) (fun r => match r with | Sum.inl _ => [(2, .y false)] | Sum.inr _ => [(2, .y false)]) (fun r => match r with | Sum.inl _ => [] | Sum.inr _ => []) := by
 refine loop_sound3 (fun s q h => ?_) (fun r => ?_)
 ·replace h : palingref15_ports_L1 a1 s = some q := h; revert h; revert s; intro v2 h
  unfold palingref15_ports_L1 at h
  obtain ⟨h3, h⟩|⟨h3, h⟩ := ite_out h
  ·obtain ⟨x4, h5, h⟩ := bo h
   obtain ⟨r6, h7, h⟩ := bo h
   obtain ⟨h8, h⟩|⟨h8, h⟩ := ite_out h
   ·obtain rfl := oi h; exact rl [2] [] [.t, .row (c52 x4), .b r6, .t] (pc h3<|pc (ob52 h5)<|pc (k_palingref15_Place h7)<|pc h8<|pn)
   ·obtain ⟨h9, h⟩|⟨h9, h⟩ := ite_out h
    ·obtain rfl := oi h; exact rl [2] [] [.t, .row (c52 x4), .b r6, .f, .t] (pc h3<|pc (ob52 h5)<|pc (k_palingref15_Place h7)<|pc h8<|pc h9<|pn)
    ·obtain ⟨h10, h⟩|⟨h10, h⟩ := ite_out h
     ·obtain rfl := oi h; exact rl [2] [] [.t, .row (c52 x4), .b r6, .f, .f, .t] (pc h3<|pc (ob52 h5)<|pc (k_palingref15_Place h7)<|pc h8<|pc h9<|pc h10<|pn)
     ·obtain ⟨r11, h12, h⟩ := bo h
      obtain ⟨h13, h⟩|⟨h13, h⟩ := ite_out h
      ·obtain rfl := oi h; exact rl [2] [] [.t, .row (c52 x4), .b r6, .f, .f, .f, .b r11, .t] (pc h3<|pc (ob52 h5)<|pc (k_palingref15_Place h7)<|pc h8<|pc h9<|pc h10<|pc (k_palingref15_rising h12)<|pc h13<|pn)
      ·obtain ⟨r14, h15, h⟩ := bo h
       obtain ⟨h16, h⟩|⟨h16, h⟩ := ite_out h
       ·obtain rfl := oi h; exact rl [2] [] [.t, .row (c52 x4), .b r6, .f, .f, .f, .b r11, .f, .b r14, .t] (pc h3<|pc (ob52 h5)<|pc (k_palingref15_Place h7)<|pc h8<|pc h9<|pc h10<|pc (k_palingref15_rising h12)<|pc h13<|pc (k_palingref15_In h15)<|pc h16<|pn)
       ·obtain ⟨r28, h27, h⟩ := bo h
        rcases r28 with _ | _
        ·obtain rfl := oi h; exact rl [2] [] [.t, .row (c52 x4), .b r6, .f, .f, .f, .b r11, .f, .b r14, .f, .cut [1, 2, 3, 4] [0, 2] .ret [(2, .y false)] []] (pc h3<|pc (ob52 h5)<|pc (k_palingref15_Place h7)<|pc h8<|pc h9<|pc h10<|pc (k_palingref15_rising h12)<|pc h13<|pc (k_palingref15_In h15)<|pc h16<|pc (k_palingref15_ports_J2 h27)<|pn)
        ·obtain ⟨r37, h36, h⟩ := bo h
         rcases r37 with _ | _
         ·obtain rfl := oi h; exact rl [2] [] [.t, .row (c52 x4), .b r6, .f, .f, .f, .b r11, .f, .b r14, .f, .cut [1, 2, 3, 4] [0, 2] .nor [(1, .o 0), (2, .y false), (3, .j v2), (4, .o 1)] [.box 31 (c31 a1) false, .box 52 (c52 x4) false], .sum [1, 2, 3, 4, 5] [0, 1] .ret [(2, .y false)] []] (pc h3<|pc (ob52 h5)<|pc (k_palingref15_Place h7)<|pc h8<|pc h9<|pc h10<|pc (k_palingref15_rising h12)<|pc h13<|pc (k_palingref15_In h15)<|pc h16<|pc (k_palingref15_ports_J2 h27)<|pc (k_palingref15_ports_L3 _ _ h36)<|pn)
         ·obtain ⟨h38, h⟩|⟨h38, h⟩ := ite_out h
          ·obtain rfl := oi h; exact rl [1, 2, 3] [0] [.t, .row (c52 x4), .b r6, .f, .f, .f, .b r11, .f, .b r14, .f, .cut [1, 2, 3, 4] [0, 2] .nor [(1, .o 0), (2, .y false), (3, .j v2), (4, .o 1)] [.box 31 (c31 a1) false, .box 52 (c52 x4) false], .sum [1, 2, 3, 4, 5] [0, 1] (.exit 2) [(1, .o 0), (2, .y false), (3, .j v2), (4, .o 1)] [.box 31 (c31 a1) false, .box 52 (c52 x4) false], .t] (pc h3<|pc (ob52 h5)<|pc (k_palingref15_Place h7)<|pc h8<|pc h9<|pc h10<|pc (k_palingref15_rising h12)<|pc h13<|pc (k_palingref15_In h15)<|pc h16<|pc (k_palingref15_ports_J2 h27)<|pc (k_palingref15_ports_L3 _ _ h36)<|pc h38<|pn)
          ·obtain ⟨r39, h40, h⟩ := bo h
           obtain ⟨h41, h⟩|⟨h41, h⟩ := ite_out h
           ·obtain rfl := oi h; exact rl [2] [] [.t, .row (c52 x4), .b r6, .f, .f, .f, .b r11, .f, .b r14, .f, .cut [1, 2, 3, 4] [0, 2] .nor [(1, .o 0), (2, .y false), (3, .j v2), (4, .o 1)] [.box 31 (c31 a1) false, .box 52 (c52 x4) false], .sum [1, 2, 3, 4, 5] [0, 1] (.exit 2) [(1, .o 0), (2, .y false), (3, .j v2), (4, .o 1)] [.box 31 (c31 a1) false, .box 52 (c52 x4) false], .f, .b r39, .t] (pc h3<|pc (ob52 h5)<|pc (k_palingref15_Place h7)<|pc h8<|pc h9<|pc h10<|pc (k_palingref15_rising h12)<|pc h13<|pc (k_palingref15_In h15)<|pc h16<|pc (k_palingref15_ports_J2 h27)<|pc (k_palingref15_ports_L3 _ _ h36)<|pc h38<|pc (k_palingref15_Place h40)<|pc h41<|pn)
           ·obtain ⟨x42, h43, h⟩ := bo h
            obtain ⟨h44, h⟩|⟨h44, h⟩ := ite_out h
            ·obtain ⟨x45, h46, h⟩ := bo h
             obtain ⟨h47, h⟩|⟨h47, h⟩ := ite_out h
             ·obtain rfl := oi h; exact rl [2] [] [.t, .row (c52 x4), .b r6, .f, .f, .f, .b r11, .f, .b r14, .f, .cut [1, 2, 3, 4] [0, 2] .nor [(1, .o 0), (2, .y false), (3, .j v2), (4, .o 1)] [.box 31 (c31 a1) false, .box 52 (c52 x4) false], .sum [1, 2, 3, 4, 5] [0, 1] (.exit 2) [(1, .o 0), (2, .y false), (3, .j v2), (4, .o 1)] [.box 31 (c31 a1) false, .box 52 (c52 x4) false], .f, .b r39, .f, .row (c49 x42), .t, .row (c49 x45), .t] (pc h3<|pc (ob52 h5)<|pc (k_palingref15_Place h7)<|pc h8<|pc h9<|pc h10<|pc (k_palingref15_rising h12)<|pc h13<|pc (k_palingref15_In h15)<|pc h16<|pc (k_palingref15_ports_J2 h27)<|pc (k_palingref15_ports_L3 _ _ h36)<|pc h38<|pc (k_palingref15_Place h40)<|pc h41<|pc (ob49 h43)<|pc h44<|pc (ob49 h46)<|pc h47<|pn)
             ·obtain rfl := oi h; exact rl [1, 2, 3] [0] [.t, .row (c52 x4), .b r6, .f, .f, .f, .b r11, .f, .b r14, .f, .cut [1, 2, 3, 4] [0, 2] .nor [(1, .o 0), (2, .y false), (3, .j v2), (4, .o 1)] [.box 31 (c31 a1) false, .box 52 (c52 x4) false], .sum [1, 2, 3, 4, 5] [0, 1] (.exit 2) [(1, .o 0), (2, .y false), (3, .j v2), (4, .o 1)] [.box 31 (c31 a1) false, .box 52 (c52 x4) false], .f, .b r39, .f, .row (c49 x42), .t, .row (c49 x45), .f] (pc h3<|pc (ob52 h5)<|pc (k_palingref15_Place h7)<|pc h8<|pc h9<|pc h10<|pc (k_palingref15_rising h12)<|pc h13<|pc (k_palingref15_In h15)<|pc h16<|pc (k_palingref15_ports_J2 h27)<|pc (k_palingref15_ports_L3 _ _ h36)<|pc h38<|pc (k_palingref15_Place h40)<|pc h41<|pc (ob49 h43)<|pc h44<|pc (ob49 h46)<|pc h47<|pn)
            ·obtain rfl := oi h; exact rl [1, 2, 3] [0] [.t, .row (c52 x4), .b r6, .f, .f, .f, .b r11, .f, .b r14, .f, .cut [1, 2, 3, 4] [0, 2] .nor [(1, .o 0), (2, .y false), (3, .j v2), (4, .o 1)] [.box 31 (c31 a1) false, .box 52 (c52 x4) false], .sum [1, 2, 3, 4, 5] [0, 1] (.exit 2) [(1, .o 0), (2, .y false), (3, .j v2), (4, .o 1)] [.box 31 (c31 a1) false, .box 52 (c52 x4) false], .f, .b r39, .f, .row (c49 x42), .f] (pc h3<|pc (ob52 h5)<|pc (k_palingref15_Place h7)<|pc h8<|pc h9<|pc h10<|pc (k_palingref15_rising h12)<|pc h13<|pc (k_palingref15_In h15)<|pc h16<|pc (k_palingref15_ports_J2 h27)<|pc (k_palingref15_ports_L3 _ _ h36)<|pc h38<|pc (k_palingref15_Place h40)<|pc h41<|pc (ob49 h43)<|pc h44<|pn)
  ·obtain rfl := oi h; exact rl [2] [] [.f] (pc h3<|pn)
 ·rcases r with _ | _ <;> exact Ex.noConfusion

theorem k_palingref15_ports {a1 : Api_Net} {r : Bool} (h : palingref15_ports a1 = some r) :
  CallsOK Tryz.prog UU 60 [.agg (c31 a1)] [] (.y r) [] := by
 unfold palingref15_ports at h
 obtain ⟨r49, h48, h⟩ := bo h
 rcases r49 with _ | _
 ·obtain rfl := oi h; exact rf Tryz.func60 none [.sum [1, 2, 3] [0] .ret [(2, .y false)] []] (pc (k_palingref15_ports_L1 _ _ h48)<|pn)
 ·obtain rfl := oi h; exact rf Tryz.func60 none [.sum [1, 2, 3] [0] (.exit 0) [(2, .y false)] []] (pc (k_palingref15_ports_L1 _ _ h48)<|pn)

theorem k_palingref15_links_L1 {a1 : Api_Net} : LoopOK Tryz.prog UU 0 70 (subC (codeOf Tryz.f61) [1, 0, 1, 0, 0]) (ρ := Unit ⊕ Unit) (palingref15_links_L1 a1)
  (fun v2 : Int => ([(1, .o 0), (2, .y false), (3, .j v2)] : Fr DD)) (fun v2 : Int => ([.box 31 (c31 a1) false] : Heap DD)) (fun r => match r with | Sum.inl _ => .ret | Sum.inr _ => .exit 0) (fun r => match r with | Sum.inl _ => [(2, .y false)] | Sum.inr _ => [(2, .y false)]) (fun r => match r with | Sum.inl _ => [] | Sum.inr _ => []) := by
 refine loop_sound3 (fun s q h => ?_) (fun r => ?_)
 ·replace h : palingref15_links_L1 a1 s = some q := h; revert h; revert s; intro v2 h
  unfold palingref15_links_L1 at h
  obtain ⟨h3, h⟩|⟨h3, h⟩ := ite_out h
  ·obtain ⟨x4, h5, h⟩ := bo h
   obtain ⟨r6, h7, h⟩ := bo h
   obtain ⟨h8, h⟩|⟨h8, h⟩ := ite_out h
   ·obtain rfl := oi h; exact rl [2] [] [.t, .row (c49 x4), .b r6, .t] (pc h3<|pc (ob49 h5)<|pc (k_palingref15_Place h7)<|pc h8<|pn)
   ·obtain ⟨r9, h10, h⟩ := bo h
    obtain ⟨h11, h⟩|⟨h11, h⟩ := ite_out h
    ·obtain rfl := oi h; exact rl [2] [] [.t, .row (c49 x4), .b r6, .f, .b r9, .t] (pc h3<|pc (ob49 h5)<|pc (k_palingref15_Place h7)<|pc h8<|pc (k_palingref15_Place h10)<|pc h11<|pn)
    ·obtain ⟨x12, h13, h⟩ := bo h
     obtain ⟨x14, h15, h⟩ := bo h
     obtain ⟨h16, h⟩|⟨h16, h⟩ := ite_out h
     ·obtain rfl := oi h; exact rl [2] [] [.t, .row (c49 x4), .b r6, .f, .b r9, .f, .row (c52 x12), .row (c52 x14), .t] (pc h3<|pc (ob49 h5)<|pc (k_palingref15_Place h7)<|pc h8<|pc (k_palingref15_Place h10)<|pc h11<|pc (ob52 h13)<|pc (ob52 h15)<|pc h16<|pn)
     ·obtain ⟨x17, h18, h⟩ := bo h
      obtain ⟨h19, h⟩|⟨h19, h⟩ := ite_out h
      ·obtain rfl := oi h; exact rl [2] [] [.t, .row (c49 x4), .b r6, .f, .b r9, .f, .row (c52 x12), .row (c52 x14), .f, .row (c52 x17), .t] (pc h3<|pc (ob49 h5)<|pc (k_palingref15_Place h7)<|pc h8<|pc (k_palingref15_Place h10)<|pc h11<|pc (ob52 h13)<|pc (ob52 h15)<|pc h16<|pc (ob52 h18)<|pc h19<|pn)
      ·obtain ⟨x20, h21, h⟩ := bo h
       obtain ⟨h22, h⟩|⟨h22, h⟩ := ite_out h
       ·obtain rfl := oi h; exact rl [2] [] [.t, .row (c49 x4), .b r6, .f, .b r9, .f, .row (c52 x12), .row (c52 x14), .f, .row (c52 x17), .f, .row (c52 x20), .t] (pc h3<|pc (ob49 h5)<|pc (k_palingref15_Place h7)<|pc h8<|pc (k_palingref15_Place h10)<|pc h11<|pc (ob52 h13)<|pc (ob52 h15)<|pc h16<|pc (ob52 h18)<|pc h19<|pc (ob52 h21)<|pc h22<|pn)
       ·obtain rfl := oi h; exact rl [1, 2, 3] [0] [.t, .row (c49 x4), .b r6, .f, .b r9, .f, .row (c52 x12), .row (c52 x14), .f, .row (c52 x17), .f, .row (c52 x20), .f] (pc h3<|pc (ob49 h5)<|pc (k_palingref15_Place h7)<|pc h8<|pc (k_palingref15_Place h10)<|pc h11<|pc (ob52 h13)<|pc (ob52 h15)<|pc h16<|pc (ob52 h18)<|pc h19<|pc (ob52 h21)<|pc h22<|pn)
  ·obtain rfl := oi h; exact rl [2] [] [.f] (pc h3<|pn)
 ·rcases r with _ | _ <;> exact Ex.noConfusion

theorem k_palingref15_links {a1 : Api_Net} {r : Bool} (h : palingref15_links a1 = some r) :
  CallsOK Tryz.prog UU 61 [.agg (c31 a1)] [] (.y r) [] := by
 unfold palingref15_links at h
 obtain ⟨r24, h23, h⟩ := bo h
 rcases r24 with _ | _
 ·obtain rfl := oi h; exact rf Tryz.func61 none [.sum [1, 2, 3] [0] .ret [(2, .y false)] []] (pc (k_palingref15_links_L1 _ _ h23)<|pn)
 ·obtain rfl := oi h; exact rf Tryz.func61 none [.sum [1, 2, 3] [0] (.exit 0) [(2, .y false)] []] (pc (k_palingref15_links_L1 _ _ h23)<|pn)

theorem k_palingref15_Member {a1 : Api_Port} {a2 : Int} {r : Bool} (h : palingref15_Member a1 a2 = some r) :
  CallsOK Tryz.prog UU 93 [.agg (c52 a1), .j a2] [] (.y r) [] := by
 unfold palingref15_Member at h
 obtain ⟨h3, h⟩|⟨h3, h⟩ := ite_out h
 ·obtain ⟨h4, h⟩|⟨h4, h⟩ := ite_out h
  ·obtain rfl := oi h; exact rf Tryz.func93 none [.t, .t] (pc h3<|pc h4<|pn)
  ·obtain ⟨r5, h6, h⟩ := bo h
   obtain rfl := oi h; exact rf Tryz.func93 none [.t, .f, .b r5] (pc h3<|pc h4<|pc (k_palingref15_In h6)<|pn)
 ·obtain rfl := oi h; exact rf Tryz.func93 none [.f] (pc h3<|pn)

theorem k_palingref15_rest_L1 {a1 : Api_Net} : LoopOK Tryz.prog UU 0 192 (subC (codeOf Tryz.f62) [1, 0, 1, 0, 0]) (ρ := Unit ⊕ Unit) (palingref15_rest_L1 a1)
  (fun v2 : Int => ([(1, .o 0), (2, .y false), (3, .j v2)] : Fr DD)) (fun v2 : Int => ([.box 31 (c31 a1) false] : Heap DD)) (fun r => match r with | Sum.inl _ => .ret | Sum.inr _ => .exit 0) (fun r => match r with | Sum.inl _ => [(2, .y false)] | Sum.inr _ => [(1, .o 0), (2, .y false)]) (fun r => match r with | Sum.inl _ => [] | Sum.inr _ => [.box 31 (c31 a1) false]) := by
 refine loop_sound3 (fun s q h => ?_) (fun r => ?_)
 ·replace h : palingref15_rest_L1 a1 s = some q := h; revert h; revert s; intro v2 h
  unfold palingref15_rest_L1 at h
  obtain ⟨h3, h⟩|⟨h3, h⟩ := ite_out h
  ·obtain ⟨x4, h5, h⟩ := bo h
   obtain ⟨r6, h7, h⟩ := bo h
   obtain ⟨h8, h⟩|⟨h8, h⟩ := ite_out h
   ·obtain rfl := oi h; exact rl [2] [] [.t, .row (c92 x4), .b r6, .t] (pc h3<|pc (ob92 h5)<|pc (k_palingref15_Place h7)<|pc h8<|pn)
   ·obtain ⟨r9, h10, h⟩ := bo h
    obtain ⟨h11, h⟩|⟨h11, h⟩ := ite_out h
    ·obtain rfl := oi h; exact rl [2] [] [.t, .row (c92 x4), .b r6, .f, .b r9, .t] (pc h3<|pc (ob92 h5)<|pc (k_palingref15_Place h7)<|pc h8<|pc (k_palingref15_Place h10)<|pc h11<|pn)
    ·obtain ⟨x12, h13, h⟩ := bo h
     obtain ⟨x14, h15, h⟩ := bo h
     obtain ⟨h16, h⟩|⟨h16, h⟩ := ite_out h
     ·obtain rfl := oi h; exact rl [2] [] [.t, .row (c92 x4), .b r6, .f, .b r9, .f, .row (c63 x12), .row (c52 x14), .t] (pc h3<|pc (ob92 h5)<|pc (k_palingref15_Place h7)<|pc h8<|pc (k_palingref15_Place h10)<|pc h11<|pc (ob63 h13)<|pc (ob52 h15)<|pc h16<|pn)
     ·obtain ⟨x17, h18, h⟩ := bo h
      obtain ⟨r19, h20, h⟩ := bo h
      obtain ⟨h21, h⟩|⟨h21, h⟩ := ite_out h
      ·obtain rfl := oi h; exact rl [2] [] [.t, .row (c92 x4), .b r6, .f, .b r9, .f, .row (c63 x12), .row (c52 x14), .f, .row (c52 x17), .b r19, .t] (pc h3<|pc (ob92 h5)<|pc (k_palingref15_Place h7)<|pc h8<|pc (k_palingref15_Place h10)<|pc h11<|pc (ob63 h13)<|pc (ob52 h15)<|pc h16<|pc (ob52 h18)<|pc (k_palingref15_Member h20)<|pc h21<|pn)
      ·obtain rfl := oi h; exact rl [1, 2, 3] [0] [.t, .row (c92 x4), .b r6, .f, .b r9, .f, .row (c63 x12), .row (c52 x14), .f, .row (c52 x17), .b r19, .f] (pc h3<|pc (ob92 h5)<|pc (k_palingref15_Place h7)<|pc h8<|pc (k_palingref15_Place h10)<|pc h11<|pc (ob63 h13)<|pc (ob52 h15)<|pc h16<|pc (ob52 h18)<|pc (k_palingref15_Member h20)<|pc h21<|pn)
  ·obtain rfl := oi h; exact rl [1, 2] [0] [.f] (pc h3<|pn)
 ·rcases r with _ | _ <;> exact Ex.noConfusion

theorem k_palingref15_rest_L2 {a1 : Api_Net} : LoopOK Tryz.prog UU 0 192 (subC (codeOf Tryz.f62) [1, 1, 0, 1, 0, 0]) (ρ := Unit ⊕ Unit) (palingref15_rest_L2 a1)
  (fun v24 : Int => ([(1, .o 0), (2, .y false), (6, .j v24)] : Fr DD)) (fun v24 : Int => ([.box 31 (c31 a1) false] : Heap DD)) (fun r => match r with | Sum.inl _ => .ret | Sum.inr _ => .exit 2) (fun r => match r with | Sum.inl _ => [(2, .y false)] | Sum.inr _ => [(1, .o 0), (2, .y false)]) (fun r => match r with | Sum.inl _ => [] | Sum.inr _ => [.box 31 (c31 a1) false]) := by
 refine loop_sound3 (fun s q h => ?_) (fun r => ?_)
 ·replace h : palingref15_rest_L2 a1 s = some q := h; revert h; revert s; intro v24 h
  unfold palingref15_rest_L2 at h
  obtain ⟨h25, h⟩|⟨h25, h⟩ := ite_out h
  ·obtain ⟨x26, h27, h⟩ := bo h
   obtain ⟨r28, h29, h⟩ := bo h
   obtain ⟨h30, h⟩|⟨h30, h⟩ := ite_out h
   ·obtain rfl := oi h; exact rl [2] [] [.t, .row (c76 x26), .b r28, .t] (pc h25<|pc (ob76 h27)<|pc (k_palingref15_Place h29)<|pc h30<|pn)
   ·obtain ⟨x31, h32, h⟩ := bo h
    obtain ⟨h33, h⟩|⟨h33, h⟩ := ite_out h
    ·obtain rfl := oi h; exact rl [2] [] [.t, .row (c76 x26), .b r28, .f, .row (c76 x31), .t] (pc h25<|pc (ob76 h27)<|pc (k_palingref15_Place h29)<|pc h30<|pc (ob76 h32)<|pc h33<|pn)
    ·obtain rfl := oi h; exact rl [1, 2, 6] [0] [.t, .row (c76 x26), .b r28, .f, .row (c76 x31), .f] (pc h25<|pc (ob76 h27)<|pc (k_palingref15_Place h29)<|pc h30<|pc (ob76 h32)<|pc h33<|pn)
  ·obtain rfl := oi h; exact rl [1, 2] [0] [.f] (pc h25<|pn)
 ·rcases r with _ | _ <;> exact Ex.noConfusion

theorem k_palingref15_rest_L3 {a1 : Api_Net} : LoopOK Tryz.prog UU 0 192 (subC (codeOf Tryz.f62) [1, 1, 1, 0, 1, 0, 0]) (ρ := Unit ⊕ Unit) (palingref15_rest_L3 a1)
  (fun v36 : Int => ([(1, .o 0), (2, .y false), (7, .j v36)] : Fr DD)) (fun v36 : Int => ([.box 31 (c31 a1) false] : Heap DD)) (fun r => match r with | Sum.inl _ => .ret | Sum.inr _ => .exit 4) (fun r => match r with | Sum.inl _ => [(2, .y false)] | Sum.inr _ => [(1, .o 0), (2, .y false)]) (fun r => match r with | Sum.inl _ => [] | Sum.inr _ => [.box 31 (c31 a1) false]) := by
 refine loop_sound3 (fun s q h => ?_) (fun r => ?_)
 ·replace h : palingref15_rest_L3 a1 s = some q := h; revert h; revert s; intro v36 h
  unfold palingref15_rest_L3 at h
  obtain ⟨h37, h⟩|⟨h37, h⟩ := ite_out h
  ·obtain ⟨x38, h39, h⟩ := bo h
   obtain ⟨r40, h41, h⟩ := bo h
   obtain ⟨h42, h⟩|⟨h42, h⟩ := ite_out h
   ·obtain rfl := oi h; exact rl [2] [] [.t, .row (c78 x38), .b r40, .t] (pc h37<|pc (ob78 h39)<|pc (k_palingref15_Place h41)<|pc h42<|pn)
   ·obtain ⟨r43, h44, h⟩ := bo h
    obtain ⟨h45, h⟩|⟨h45, h⟩ := ite_out h
    ·obtain rfl := oi h; exact rl [2] [] [.t, .row (c78 x38), .b r40, .f, .b r43, .t] (pc h37<|pc (ob78 h39)<|pc (k_palingref15_Place h41)<|pc h42<|pc (k_palingref15_rising h44)<|pc h45<|pn)
    ·obtain ⟨r46, h47, h⟩ := bo h
     obtain ⟨h48, h⟩|⟨h48, h⟩ := ite_out h
     ·obtain rfl := oi h; exact rl [2] [] [.t, .row (c78 x38), .b r40, .f, .b r43, .f, .b r46, .t] (pc h37<|pc (ob78 h39)<|pc (k_palingref15_Place h41)<|pc h42<|pc (k_palingref15_rising h44)<|pc h45<|pc (k_palingref15_rising h47)<|pc h48<|pn)
     ·obtain rfl := oi h; exact rl [1, 2, 7] [0] [.t, .row (c78 x38), .b r40, .f, .b r43, .f, .b r46, .f] (pc h37<|pc (ob78 h39)<|pc (k_palingref15_Place h41)<|pc h42<|pc (k_palingref15_rising h44)<|pc h45<|pc (k_palingref15_rising h47)<|pc h48<|pn)
  ·obtain rfl := oi h; exact rl [1, 2] [0] [.f] (pc h37<|pn)
 ·rcases r with _ | _ <;> exact Ex.noConfusion

theorem k_palingref15_rest_L4 {a1 : Api_Net} : LoopOK Tryz.prog UU 0 192 (subC (codeOf Tryz.f62) [1, 1, 1, 1, 0, 1, 0, 0]) (ρ := Unit ⊕ Unit) (palingref15_rest_L4 a1)
  (fun v51 : Int => ([(1, .o 0), (2, .y false), (9, .j v51)] : Fr DD)) (fun v51 : Int => ([.box 31 (c31 a1) false] : Heap DD)) (fun r => match r with | Sum.inl _ => .ret | Sum.inr _ => .exit 6) (fun r => match r with | Sum.inl _ => [(2, .y false)] | Sum.inr _ => [(2, .y false)]) (fun r => match r with | Sum.inl _ => [] | Sum.inr _ => []) := by
 refine loop_sound3 (fun s q h => ?_) (fun r => ?_)
 ·replace h : palingref15_rest_L4 a1 s = some q := h; revert h; revert s; intro v51 h
  unfold palingref15_rest_L4 at h
  obtain ⟨h52, h⟩|⟨h52, h⟩ := ite_out h
  ·obtain ⟨x53, h54, h⟩ := bo h
   obtain ⟨r55, h56, h⟩ := bo h
   obtain ⟨h57, h⟩|⟨h57, h⟩ := ite_out h
   ·obtain rfl := oi h; exact rl [2] [] [.t, .row (c103 x53), .b r55, .t] (pc h52<|pc (ob103 h54)<|pc (k_palingref15_Place h56)<|pc h57<|pn)
   ·obtain ⟨r58, h59, h⟩ := bo h
    obtain ⟨h60, h⟩|⟨h60, h⟩ := ite_out h
    ·obtain rfl := oi h; exact rl [2] [] [.t, .row (c103 x53), .b r55, .f, .b r58, .t] (pc h52<|pc (ob103 h54)<|pc (k_palingref15_Place h56)<|pc h57<|pc (k_palingref15_Place h59)<|pc h60<|pn)
    ·obtain ⟨h61, h⟩|⟨h61, h⟩ := ite_out h
     ·obtain rfl := oi h; exact rl [2] [] [.t, .row (c103 x53), .b r55, .f, .b r58, .f, .t] (pc h52<|pc (ob103 h54)<|pc (k_palingref15_Place h56)<|pc h57<|pc (k_palingref15_Place h59)<|pc h60<|pc h61<|pn)
     ·obtain ⟨h62, h⟩|⟨h62, h⟩ := ite_out h
      ·obtain rfl := oi h; exact rl [2] [] [.t, .row (c103 x53), .b r55, .f, .b r58, .f, .f, .t] (pc h52<|pc (ob103 h54)<|pc (k_palingref15_Place h56)<|pc h57<|pc (k_palingref15_Place h59)<|pc h60<|pc h61<|pc h62<|pn)
      ·obtain ⟨x63, h64, h⟩ := bo h
       obtain ⟨x65, h66, h⟩ := bo h
       obtain ⟨h67, h⟩|⟨h67, h⟩ := ite_out h
       ·obtain rfl := oi h; exact rl [2] [] [.t, .row (c103 x53), .b r55, .f, .b r58, .f, .f, .f, .row (c63 x63), .row (c78 x65), .t] (pc h52<|pc (ob103 h54)<|pc (k_palingref15_Place h56)<|pc h57<|pc (k_palingref15_Place h59)<|pc h60<|pc h61<|pc h62<|pc (ob63 h64)<|pc (ob78 h66)<|pc h67<|pn)
       ·obtain ⟨x68, h69, h⟩ := bo h
        obtain ⟨h70, h⟩|⟨h70, h⟩ := ite_out h
        ·obtain rfl := oi h; exact rl [2] [] [.t, .row (c103 x53), .b r55, .f, .b r58, .f, .f, .f, .row (c63 x63), .row (c78 x65), .f, .row (c63 x68), .t] (pc h52<|pc (ob103 h54)<|pc (k_palingref15_Place h56)<|pc h57<|pc (k_palingref15_Place h59)<|pc h60<|pc h61<|pc h62<|pc (ob63 h64)<|pc (ob78 h66)<|pc h67<|pc (ob63 h69)<|pc h70<|pn)
        ·obtain rfl := oi h; exact rl [1, 2, 9] [0] [.t, .row (c103 x53), .b r55, .f, .b r58, .f, .f, .f, .row (c63 x63), .row (c78 x65), .f, .row (c63 x68), .f] (pc h52<|pc (ob103 h54)<|pc (k_palingref15_Place h56)<|pc h57<|pc (k_palingref15_Place h59)<|pc h60<|pc h61<|pc h62<|pc (ob63 h64)<|pc (ob78 h66)<|pc h67<|pc (ob63 h69)<|pc h70<|pn)
  ·obtain rfl := oi h; exact rl [2] [] [.f] (pc h52<|pn)
 ·rcases r with _ | _ <;> exact Ex.noConfusion

theorem k_palingref15_rest {a1 : Api_Net} {r : Bool} (h : palingref15_rest a1 = some r) :
  CallsOK Tryz.prog UU 62 [.agg (c31 a1)] [] (.y r) [] := by
 unfold palingref15_rest at h
 obtain ⟨r23, h22, h⟩ := bo h
 rcases r23 with _ | _
 ·obtain rfl := oi h; exact rf Tryz.func62 none [.sum [1, 2, 3] [0] .ret [(2, .y false)] []] (pc (k_palingref15_rest_L1 _ _ h22)<|pn)
 ·obtain ⟨r35, h34, h⟩ := bo h
  rcases r35 with _ | _
  ·obtain rfl := oi h; exact rf Tryz.func62 none [.sum [1, 2, 3] [0] (.exit 0) [(1, .o 0), (2, .y false)] [.box 31 (c31 a1) false], .sum [1, 2, 6] [0] .ret [(2, .y false)] []] (pc (k_palingref15_rest_L1 _ _ h22)<|pc (k_palingref15_rest_L2 _ _ h34)<|pn)
  ·obtain ⟨r50, h49, h⟩ := bo h
   rcases r50 with _ | _
   ·obtain rfl := oi h; exact rf Tryz.func62 none [.sum [1, 2, 3] [0] (.exit 0) [(1, .o 0), (2, .y false)] [.box 31 (c31 a1) false], .sum [1, 2, 6] [0] (.exit 2) [(1, .o 0), (2, .y false)] [.box 31 (c31 a1) false], .sum [1, 2, 7] [0] .ret [(2, .y false)] []] (pc (k_palingref15_rest_L1 _ _ h22)<|pc (k_palingref15_rest_L2 _ _ h34)<|pc (k_palingref15_rest_L3 _ _ h49)<|pn)
   ·obtain ⟨r72, h71, h⟩ := bo h
    rcases r72 with _ | _
    ·obtain rfl := oi h; exact rf Tryz.func62 none [.sum [1, 2, 3] [0] (.exit 0) [(1, .o 0), (2, .y false)] [.box 31 (c31 a1) false], .sum [1, 2, 6] [0] (.exit 2) [(1, .o 0), (2, .y false)] [.box 31 (c31 a1) false], .sum [1, 2, 7] [0] (.exit 4) [(1, .o 0), (2, .y false)] [.box 31 (c31 a1) false], .sum [1, 2, 9] [0] .ret [(2, .y false)] []] (pc (k_palingref15_rest_L1 _ _ h22)<|pc (k_palingref15_rest_L2 _ _ h34)<|pc (k_palingref15_rest_L3 _ _ h49)<|pc (k_palingref15_rest_L4 _ _ h71)<|pn)
    ·obtain rfl := oi h; exact rf Tryz.func62 none [.sum [1, 2, 3] [0] (.exit 0) [(1, .o 0), (2, .y false)] [.box 31 (c31 a1) false], .sum [1, 2, 6] [0] (.exit 2) [(1, .o 0), (2, .y false)] [.box 31 (c31 a1) false], .sum [1, 2, 7] [0] (.exit 4) [(1, .o 0), (2, .y false)] [.box 31 (c31 a1) false], .sum [1, 2, 9] [0] (.exit 6) [(2, .y false)] []] (pc (k_palingref15_rest_L1 _ _ h22)<|pc (k_palingref15_rest_L2 _ _ h34)<|pc (k_palingref15_rest_L3 _ _ h49)<|pc (k_palingref15_rest_L4 _ _ h71)<|pn)

theorem k_palingref15_Right {a1 : Api_Net} {r : Bool} (h : palingref15_Right a1 = some r) :
  CallsOK Tryz.prog UU 22 [.agg (c31 a1)] [] (.y r) [] := by
 unfold palingref15_Right at h
 obtain ⟨h2, h⟩|⟨h2, h⟩ := ite_out h
 ·obtain rfl := oi h; exact rf Tryz.func22 none [.t] (pc h2<|pn)
 ·obtain ⟨h3, h⟩|⟨h3, h⟩ := ite_out h
  ·obtain rfl := oi h; exact rf Tryz.func22 none [.f, .t] (pc h2<|pc h3<|pn)
  ·obtain ⟨h4, h⟩|⟨h4, h⟩ := ite_out h
   ·obtain rfl := oi h; exact rf Tryz.func22 none [.f, .f, .t] (pc h2<|pc h3<|pc h4<|pn)
   ·obtain ⟨h5, h⟩|⟨h5, h⟩ := ite_out h
    ·obtain rfl := oi h; exact rf Tryz.func22 none [.f, .f, .f, .t] (pc h2<|pc h3<|pc h4<|pc h5<|pn)
    ·obtain ⟨h6, h⟩|⟨h6, h⟩ := ite_out h
     ·obtain rfl := oi h; exact rf Tryz.func22 none [.f, .f, .f, .f, .t] (pc h2<|pc h3<|pc h4<|pc h5<|pc h6<|pn)
     ·obtain ⟨h7, h⟩|⟨h7, h⟩ := ite_out h
      ·obtain rfl := oi h; exact rf Tryz.func22 none [.f, .f, .f, .f, .f, .t] (pc h2<|pc h3<|pc h4<|pc h5<|pc h6<|pc h7<|pn)
      ·obtain ⟨h8, h⟩|⟨h8, h⟩ := ite_out h
       ·obtain rfl := oi h; exact rf Tryz.func22 none [.f, .f, .f, .f, .f, .f, .t] (pc h2<|pc h3<|pc h4<|pc h5<|pc h6<|pc h7<|pc h8<|pn)
       ·obtain ⟨h9, h⟩|⟨h9, h⟩ := ite_out h
        ·obtain rfl := oi h; exact rf Tryz.func22 none [.f, .f, .f, .f, .f, .f, .f, .t] (pc h2<|pc h3<|pc h4<|pc h5<|pc h6<|pc h7<|pc h8<|pc h9<|pn)
        ·obtain ⟨r10, h11, h⟩ := bo h
         obtain ⟨h12, h⟩|⟨h12, h⟩ := ite_out h
         ·obtain ⟨r13, h14, h⟩ := bo h
          obtain ⟨h15, h⟩|⟨h15, h⟩ := ite_out h
          ·obtain ⟨r16, h17, h⟩ := bo h
           obtain ⟨h18, h⟩|⟨h18, h⟩ := ite_out h
           ·obtain ⟨r19, h20, h⟩ := bo h
            obtain rfl := oi h; exact rf Tryz.func22 none [.f, .f, .f, .f, .f, .f, .f, .f, .b r10, .t, .b r13, .t, .b r16, .t, .b r19] (pc h2<|pc h3<|pc h4<|pc h5<|pc h6<|pc h7<|pc h8<|pc h9<|pc (k_palingref15_domains h11)<|pc h12<|pc (k_palingref15_ports h14)<|pc h15<|pc (k_palingref15_links h17)<|pc h18<|pc (k_palingref15_rest h20)<|pn)
           ·obtain rfl := oi h; exact rf Tryz.func22 none [.f, .f, .f, .f, .f, .f, .f, .f, .b r10, .t, .b r13, .t, .b r16, .f] (pc h2<|pc h3<|pc h4<|pc h5<|pc h6<|pc h7<|pc h8<|pc h9<|pc (k_palingref15_domains h11)<|pc h12<|pc (k_palingref15_ports h14)<|pc h15<|pc (k_palingref15_links h17)<|pc h18<|pn)
          ·obtain rfl := oi h; exact rf Tryz.func22 none [.f, .f, .f, .f, .f, .f, .f, .f, .b r10, .t, .b r13, .f] (pc h2<|pc h3<|pc h4<|pc h5<|pc h6<|pc h7<|pc h8<|pc h9<|pc (k_palingref15_domains h11)<|pc h12<|pc (k_palingref15_ports h14)<|pc h15<|pn)
         ·obtain rfl := oi h; exact rf Tryz.func22 none [.f, .f, .f, .f, .f, .f, .f, .f, .b r10, .f] (pc h2<|pc h3<|pc h4<|pc h5<|pc h6<|pc h7<|pc h8<|pc h9<|pc (k_palingref15_domains h11)<|pc h12<|pn)

theorem k_palingref47_shifted_J2 {a1 : Api_Net} {l2 : List Palingref47_Note} {v3 : Int} {x7 : Api_Port} {x11 : Api_Port} {r : Bool} (h : palingref47_shifted_J2 a1 l2 v3 x7 x11 = some r) :
  ExecOK Tryz.prog UU 0 60 (subC (codeOf Tryz.f23) [1, 1, 0, 1, 0, 0, 1, 0, 0, 1, 0]) [(1, .o 0), (2, .os 1 0), (3, .os 2 l2.length), (4, .j v3), (5, .j x7.native), (6, .j x11.native)] [.box 31 (c31 a1) false, .n 43, .w 43 l2] ((fun r => match r with | v16 => .nor) r) ((fun r => match r with | v16 => [(1, .o 0), (2, .os 1 0), (3, .os 2 l2.length), (4, .j v3), (5, .j x7.native), (46, .y v16)]) r) ((fun r => match r with | v16 => [.box 31 (c31 a1) false, .n 43, .w 43 l2]) r) := by
 unfold palingref47_shifted_J2 at h
 obtain ⟨h13, h⟩|⟨h13, h⟩ := ite_out h
 ·obtain ⟨h14, h⟩|⟨h14, h⟩ := ite_out h
  ·obtain rfl := oi h; exact rl [1, 2, 3, 4, 5, 46] [0, 1, 2] [.t, .t] (pc h13<|pc h14<|pn)
  ·obtain rfl := oi h; exact rl [1, 2, 3, 4, 5, 46] [0, 1, 2] [.t, .f] (pc h13<|pc h14<|pn)
 ·obtain rfl := oi h; exact rl [1, 2, 3, 4, 5, 46] [0, 1, 2] [.f] (pc h13<|pn)

theorem k_palingref47_shifted_L1 {a1 : Api_Net} : LoopOK Tryz.prog UU 0 60 (subC (codeOf Tryz.f23) [1, 1, 0, 1, 0, 0]) (fun s : (List Palingref47_Note) × Int => match s with | (l2, v3) => palingref47_shifted_L1 a1 l2 v3)
  (fun s : (List Palingref47_Note) × Int => (match s with | (l2, v3) => [(1, .o 0), (2, .os 1 0), (3, .os 2 l2.length), (4, .j v3)] : Fr DD)) (fun s : (List Palingref47_Note) × Int => (match s with | (l2, v3) => [.box 31 (c31 a1) false, .n 43, .w 43 l2] : Heap DD)) (fun r => match r with | l25 => .exit 0) (fun r => match r with | l25 => [(2, .os 0 0), (3, .os 1 l25.length)]) (fun r => match r with | l25 => [.n 43, .w 43 l25]) := by
 refine loop_sound3 (fun s q h => ?_) (fun r => ?_)
 ·obtain ⟨l2, v3⟩ := s; replace h : palingref47_shifted_L1 a1 l2 v3 = some q := h
  unfold palingref47_shifted_L1 at h
  obtain ⟨h4, h⟩|⟨h4, h⟩ := ite_out h
  ·obtain ⟨x5, h6, h⟩ := bo h
   obtain ⟨x7, h8, h⟩ := bo h
   obtain ⟨x9, h10, h⟩ := bo h
   obtain ⟨x11, h12, h⟩ := bo h
   obtain ⟨v16, h17, h⟩ := bo h
   obtain ⟨h19, h⟩|⟨h19, h⟩ := ite_out h
   ·obtain ⟨x20, h21, h⟩ := bo h
    obtain ⟨h22, h⟩|⟨h22, h⟩ := ite_out h
    ·obtain rfl := oi h; exact rl [1, 2, 3, 4] [0, 1, 2] [.t, .row (c49 x5), .row (c52 x7), .row (c49 x9), .row (c52 x11), .cut [1, 2, 3, 4, 5, 6] [0, 1, 2] .nor [(1, .o 0), (2, .os 1 0), (3, .os 2 l2.length), (4, .j v3), (5, .j x7.native), (46, .y v16)] [.box 31 (c31 a1) false, .n 43, .w 43 l2], .t, .row (c49 x20), .obj [] (.w 43 [(⟨1, x20.row, v3, x7.native⟩ : Palingref47_Note)]), .obj [] (.w 43 (l2 ++ [(⟨1, x20.row, v3, x7.native⟩ : Palingref47_Note)]))] (pc h4<|pc (ob49 h6)<|pc (ob52 h8)<|pc (ob49 h10)<|pc (ob52 h12)<|pc (k_palingref47_shifted_J2 h17)<|pc h19<|pc (ob49 h21)<|pc (bs_ob 43 [(⟨1, x20.row, v3, x7.native⟩ : Palingref47_Note)])<|pc (app_ob 43 (n := l2.length) (l := l2) (xs := [(⟨1, x20.row, v3, x7.native⟩ : Palingref47_Note)]) h22)<|pc (rn (List.length [(⟨1, x20.row, v3, x7.native⟩ : Palingref47_Note)]))<|pn)
    ·cases h
   ·obtain rfl := oi h; exact rl [1, 2, 3, 4] [0, 1, 2] [.t, .row (c49 x5), .row (c52 x7), .row (c49 x9), .row (c52 x11), .cut [1, 2, 3, 4, 5, 6] [0, 1, 2] .nor [(1, .o 0), (2, .os 1 0), (3, .os 2 l2.length), (4, .j v3), (5, .j x7.native), (46, .y v16)] [.box 31 (c31 a1) false, .n 43, .w 43 l2], .f] (pc h4<|pc (ob49 h6)<|pc (ob52 h8)<|pc (ob49 h10)<|pc (ob52 h12)<|pc (k_palingref47_shifted_J2 h17)<|pc h19<|pn)
  ·obtain rfl := oi h; exact rl [2, 3] [1, 2] [.f] (pc h4<|pn)
 ·exact Ex.noConfusion

theorem k_palingref47_shifted {a1 : Api_Net} {r : ((List Palingref47_Note))} (h : palingref47_shifted a1 = some r) :
  CallsOK Tryz.prog UU 23 [.agg (c31 a1)] [] ((fun r => match r with | l28 => .os 0 l28.length) r) ((fun r => match r with | l28 => [.w 43 l28]) r) := by
 unfold palingref47_shifted at h
 obtain ⟨l25, h26, h⟩ := bo h
 obtain rfl := oi h; exact rf Tryz.func23 (some [1]) [.sum [1, 2, 3, 4] [0, 1, 2] (.exit 0) [(2, .os 0 0), (3, .os 1 l25.length)] [.n 43, .w 43 l25]] (pc (k_palingref47_shifted_L1 _ _ h26)<|pn)

theorem k_palingref47_vlans {a1 : Api_Port} {r : ((List Int))} (h : palingref47_vlans a1 = some r) :
  CallsOK Tryz.prog UU 63 [.agg (c52 a1)] [] ((fun r => match r with | r4 => .sl 3 r4) r) ((fun r => match r with | r4 => []) r) := by
 unfold palingref47_vlans at h
 obtain ⟨h2, h⟩|⟨h2, h⟩ := ite_out h
 ·obtain rfl := oi h; exact runFz_sound mixedOrders Tryz.func63 rfl (ids := []) (fz := []) (π := [.t]) (hrun := by kernel_rfl) (hps := pc h2<|pn)
 ·obtain ⟨h3, h⟩|⟨h3, h⟩ := ite_out h
  ·obtain rfl := oi h; exact runFz_sound mixedOrders Tryz.func63 rfl (ids := []) (fz := [2]) (π := [.f, .obj [] (.w 3 [a1.native]), .obj [] (.w 3 ([a1.native] ++ a1.tagged))]) (hrun := by kernel_rfl) (hps := pc h2<|pc (bs_ob 3 [a1.native])<|pc (app_ob 3 (n := (List.length [a1.native])) (l := [a1.native]) (xs := a1.tagged) h3)<|pc (rn (List.length ([a1.native] ++ a1.tagged)))<|pn)
  ·cases h

theorem k_palingref17_Other_L1 {a1 : Api_Net} {a2 : Int} : LoopOK Tryz.prog UU 0 41 (subC (codeOf Tryz.f94) [1, 0, 1, 0, 0]) (ρ := Int ⊕ Unit) (palingref17_Other_L1 a1 a2)
  (fun v3 : Int => ([(1, .j a2), (2, .o 0), (4, .z), (5, .j v3)] : Fr DD)) (fun v3 : Int => ([.box 31 (c31 a1) false] : Heap DD)) (fun r => match r with | Sum.inl v16 => .ret | Sum.inr _ => .exit 0) (fun r => match r with | Sum.inl v16 => [(4, .j v16)] | Sum.inr _ => [(4, .z)]) (fun r => match r with | Sum.inl v16 => [] | Sum.inr _ => []) := by
 refine loop_sound3 (fun s q h => ?_) (fun r => ?_)
 ·replace h : palingref17_Other_L1 a1 a2 s = some q := h; revert h; revert s; intro v3 h
  unfold palingref17_Other_L1 at h
  obtain ⟨h4, h⟩|⟨h4, h⟩ := ite_out h
  ·obtain ⟨x5, h6, h⟩ := bo h
   obtain ⟨h7, h⟩|⟨h7, h⟩ := ite_out h
   ·obtain ⟨x8, h9, h⟩ := bo h
    obtain rfl := oi h; exact rl [4] [] [.t, .row (c49 x5), .t, .row (c49 x8)] (pc h4<|pc (ob49 h6)<|pc h7<|pc (ob49 h9)<|pn)
   ·obtain ⟨x10, h11, h⟩ := bo h
    obtain ⟨h12, h⟩|⟨h12, h⟩ := ite_out h
    ·obtain ⟨x13, h14, h⟩ := bo h
     obtain rfl := oi h; exact rl [4] [] [.t, .row (c49 x5), .f, .row (c49 x10), .t, .row (c49 x13)] (pc h4<|pc (ob49 h6)<|pc h7<|pc (ob49 h11)<|pc h12<|pc (ob49 h14)<|pn)
    ·obtain rfl := oi h; exact rl [1, 2, 4, 5] [0] [.t, .row (c49 x5), .f, .row (c49 x10), .f] (pc h4<|pc (ob49 h6)<|pc h7<|pc (ob49 h11)<|pc h12<|pn)
  ·obtain rfl := oi h; exact rl [4] [] [.f] (pc h4<|pn)
 ·rcases r with _ | _ <;> exact Ex.noConfusion

theorem k_palingref17_Other {a1 : Api_Net} {a2 : Int} {r : Int} (h : palingref17_Other a1 a2 = some r) :
  CallsOK Tryz.prog UU 94 [.agg (c31 a1), .j a2] [] (.j r) [] := by
 unfold palingref17_Other at h
 obtain ⟨r18, h17, h⟩ := bo h
 rcases r18 with v16 | _
 ·obtain rfl := oi h; exact rf Tryz.func94 none [.sum [1, 2, 4, 5] [0] .ret [(4, .j v16)] []] (pc (k_palingref17_Other_L1 _ _ h17)<|pn)
 ·obtain rfl := oi h; exact rf Tryz.func94 none [.sum [1, 2, 4, 5] [0] (.exit 0) [(4, .z)] []] (pc (k_palingref17_Other_L1 _ _ h17)<|pn)

theorem k_palingref17_Cross_J1 {a3 : Int} {r4 : Int} {x8 : Api_Port} {x10 : Api_Port} {r : Unit ⊕ Unit} (h : palingref17_Cross_J1 a3 r4 x8 x10 = some r) :
  ExecOK Tryz.prog UU 0 55 (subC (codeOf Tryz.f64) [1, 1, 1, 1, 0]) [(2, .j a3), (6, .z), (7, .z), (8, .y false), (9, .j r4), (10, .o 0), (11, .o 1)] [.box 52 (c52 x8) false, .box 52 (c52 x10) false] ((fun r => match r with | Sum.inl _ => .ret | Sum.inr _ => .nor) r) ((fun r => match r with | Sum.inl _ => [(6, .j r4), (7, .j x10.native), (8, .y true)] | Sum.inr _ => [(2, .j a3), (6, .z), (7, .z), (8, .y false), (9, .j r4), (10, .o 0), (11, .o 1)]) r) ((fun r => match r with | Sum.inl _ => [] | Sum.inr _ => [.box 52 (c52 x8) false, .box 52 (c52 x10) false]) r) := by
 unfold palingref17_Cross_J1 at h
 obtain ⟨h12, h⟩|⟨h12, h⟩ := ite_out h
 ·obtain ⟨h13, h⟩|⟨h13, h⟩ := ite_out h
  ·obtain rfl := oi h; exact rl [6, 7, 8] [] [.t, .t] (pc h12<|pc h13<|pn)
  ·obtain rfl := oi h; exact rl [2, 6, 7, 8, 9, 10, 11] [0, 1] [.t, .f] (pc h12<|pc h13<|pn)
 ·obtain rfl := oi h; exact rl [2, 6, 7, 8, 9, 10, 11] [0, 1] [.f] (pc h12<|pn)

theorem k_palingref17_Cross {a1 : Api_Net} {a2 : Int} {a3 : Int} {r : Int × Int × Bool} (h : palingref17_Cross a1 a2 a3 = some r) :
  CallsOK Tryz.prog UU 64 [.agg (c31 a1), .j a2, .j a3] [] (.tup [.j r.1, .j r.2.1, .y r.2.2]) [] := by
 unfold palingref17_Cross at h
 obtain ⟨r4, h5, h⟩ := bo h
 obtain ⟨h6, h⟩|⟨h6, h⟩ := ite_out h
 ·obtain rfl := oi h; exact rf Tryz.func64 none [.callv (.j r4), .t] (pc (k_palingref17_Other h5)<|pc h6<|pn)
 ·obtain ⟨h7, h⟩|⟨h7, h⟩ := ite_out h
  ·obtain rfl := oi h; exact rf Tryz.func64 none [.callv (.j r4), .f, .t] (pc (k_palingref17_Other h5)<|pc h6<|pc h7<|pn)
  ·obtain ⟨x8, h9, h⟩ := bo h
   obtain ⟨x10, h11, h⟩ := bo h
   obtain ⟨r15, h14, h⟩ := bo h
   rcases r15 with _ | _
   ·obtain rfl := oi h; exact rf Tryz.func64 none [.callv (.j r4), .f, .f, .row (c52 x8), .row (c52 x10), .cut [2, 6, 7, 8, 9, 10, 11] [1, 3] .ret [(6, .j r4), (7, .j x10.native), (8, .y true)] []] (pc (k_palingref17_Other h5)<|pc h6<|pc h7<|pc (ob52 h9)<|pc (ob52 h11)<|pc (k_palingref17_Cross_J1 h14)<|pn)
   ·obtain ⟨r16, h17, h⟩ := bo h
    obtain ⟨h18, h⟩|⟨h18, h⟩ := ite_out h
    ·obtain ⟨r19, h20, h⟩ := bo h
     obtain ⟨h21, h⟩|⟨h21, h⟩ := ite_out h
     ·obtain rfl := oi h; exact rf Tryz.func64 none [.callv (.j r4), .f, .f, .row (c52 x8), .row (c52 x10), .cut [2, 6, 7, 8, 9, 10, 11] [1, 3] .nor [(2, .j a3), (6, .z), (7, .z), (8, .y false), (9, .j r4), (10, .o 0), (11, .o 1)] [.box 52 (c52 x8) false, .box 52 (c52 x10) false], .b r16, .t, .b r19, .t] (pc (k_palingref17_Other h5)<|pc h6<|pc h7<|pc (ob52 h9)<|pc (ob52 h11)<|pc (k_palingref17_Cross_J1 h14)<|pc (k_palingref15_In h17)<|pc h18<|pc (k_palingref15_In h20)<|pc h21<|pn)
     ·obtain rfl := oi h; exact rf Tryz.func64 none [.callv (.j r4), .f, .f, .row (c52 x8), .row (c52 x10), .cut [2, 6, 7, 8, 9, 10, 11] [1, 3] .nor [(2, .j a3), (6, .z), (7, .z), (8, .y false), (9, .j r4), (10, .o 0), (11, .o 1)] [.box 52 (c52 x8) false, .box 52 (c52 x10) false], .b r16, .t, .b r19, .f] (pc (k_palingref17_Other h5)<|pc h6<|pc h7<|pc (ob52 h9)<|pc (ob52 h11)<|pc (k_palingref17_Cross_J1 h14)<|pc (k_palingref15_In h17)<|pc h18<|pc (k_palingref15_In h20)<|pc h21<|pn)
    ·obtain rfl := oi h; exact rf Tryz.func64 none [.callv (.j r4), .f, .f, .row (c52 x8), .row (c52 x10), .cut [2, 6, 7, 8, 9, 10, 11] [1, 3] .nor [(2, .j a3), (6, .z), (7, .z), (8, .y false), (9, .j r4), (10, .o 0), (11, .o 1)] [.box 52 (c52 x8) false, .box 52 (c52 x10) false], .b r16, .f] (pc (k_palingref17_Other h5)<|pc h6<|pc h7<|pc (ob52 h9)<|pc (ob52 h11)<|pc (k_palingref17_Cross_J1 h14)<|pc (k_palingref15_In h17)<|pc h18<|pn)

theorem k_palingref47_lopsided_L2 {a1 : Api_Net} {v3 : Int} {x5 : Api_Port} {r9 : List Int} : LoopOK Tryz.prog UU 0 66 (subC (codeOf Tryz.f24) [1, 1, 0, 1, 0, 0, 1, 0, 0, 1, 1, 1, 0, 0]) (fun s : (List Palingref47_Note) × Int => match s with | (l10, v11) => palingref47_lopsided_L2 a1 v3 x5 r9 l10 v11)
  (fun s : (List Palingref47_Note) × Int => (match s with | (l10, v11) => [(1, .o 0), (2, .os 1 0), (3, .os 2 l10.length), (4, .j v3), (5, .o 3), (6, .sl 3 r9), (7, .j v11)] : Fr DD)) (fun s : (List Palingref47_Note) × Int => (match s with | (l10, v11) => [.box 31 (c31 a1) false, .n 43, .w 43 l10, .box 52 (c52 x5) false] : Heap DD)) (fun r => match r with | l28 => .exit 2) (fun r => match r with | l28 => [(1, .o 0), (2, .os 1 0), (3, .os 2 l28.length), (4, .j v3)]) (fun r => match r with | l28 => [.box 31 (c31 a1) false, .n 43, .w 43 l28]) := by
 refine loop_sound3 (fun s q h => ?_) (fun r => ?_)
 ·obtain ⟨l10, v11⟩ := s; replace h : palingref47_lopsided_L2 a1 v3 x5 r9 l10 v11 = some q := h
  unfold palingref47_lopsided_L2 at h
  obtain ⟨h12, h⟩|⟨h12, h⟩ := ite_out h
  ·obtain ⟨h13, h⟩|⟨h13, h⟩ := ite_out h
   ·obtain ⟨x14, h15, h⟩ := bo h
    obtain ⟨r16, h17, h⟩ := bo h
    obtain ⟨h18, h⟩|⟨h18, h⟩ := ite_out h
    ·obtain ⟨x19, h20, h⟩ := bo h
     obtain ⟨x21, h22, h⟩ := bo h
     obtain ⟨h23, h⟩|⟨h23, h⟩ := ite_out h
     ·obtain rfl := oi h; exact rl [1, 2, 3, 4, 5, 6, 7] [0, 1, 2, 3] [.t, .t, .row (c3 x14), .callv (.tup [.j r16.1, .j r16.2.1, .y r16.2.2]), .t, .row (c49 x19), .row (c3 x21), .obj [] (.w 43 [(⟨2, x19.row, v3, x21⟩ : Palingref47_Note)]), .obj [] (.w 43 (l10 ++ [(⟨2, x19.row, v3, x21⟩ : Palingref47_Note)]))] (pc h12<|pc h13<|pc (ob3 h15)<|pc (k_palingref17_Cross h17)<|pc h18<|pc (ob49 h20)<|pc (ob3 h22)<|pc (bs_ob 43 [(⟨2, x19.row, v3, x21⟩ : Palingref47_Note)])<|pc (app_ob 43 (n := l10.length) (l := l10) (xs := [(⟨2, x19.row, v3, x21⟩ : Palingref47_Note)]) h23)<|pn)
     ·cases h
    ·obtain rfl := oi h; exact rl [1, 2, 3, 4, 5, 6, 7] [0, 1, 2, 3] [.t, .t, .row (c3 x14), .callv (.tup [.j r16.1, .j r16.2.1, .y r16.2.2]), .f] (pc h12<|pc h13<|pc (ob3 h15)<|pc (k_palingref17_Cross h17)<|pc h18<|pn)
   ·obtain rfl := oi h; exact rl [1, 2, 3, 4] [0, 1, 2] [.t, .f] (pc h12<|pc h13<|pn)
  ·obtain rfl := oi h; exact rl [1, 2, 3, 4] [0, 1, 2] [.f] (pc h12<|pn)
 ·exact Ex.noConfusion

theorem k_palingref47_lopsided_L1 {a1 : Api_Net} : LoopOK Tryz.prog UU 0 66 (subC (codeOf Tryz.f24) [1, 1, 0, 1, 0, 0]) (fun s : (List Palingref47_Note) × Int => match s with | (l2, v3) => palingref47_lopsided_L1 a1 l2 v3)
  (fun s : (List Palingref47_Note) × Int => (match s with | (l2, v3) => [(1, .o 0), (2, .os 1 0), (3, .os 2 l2.length), (4, .j v3)] : Fr DD)) (fun s : (List Palingref47_Note) × Int => (match s with | (l2, v3) => [.box 31 (c31 a1) false, .n 43, .w 43 l2] : Heap DD)) (fun r => match r with | l33 => .exit 0) (fun r => match r with | l33 => [(2, .os 0 0), (3, .os 1 l33.length)]) (fun r => match r with | l33 => [.n 43, .w 43 l33]) := by
 refine loop_sound3 (fun s q h => ?_) (fun r => ?_)
 ·obtain ⟨l2, v3⟩ := s; replace h : palingref47_lopsided_L1 a1 l2 v3 = some q := h
  unfold palingref47_lopsided_L1 at h
  obtain ⟨h4, h⟩|⟨h4, h⟩ := ite_out h
  ·obtain ⟨x5, h6, h⟩ := bo h
   obtain ⟨r9, h8, h⟩ := bo h
   obtain ⟨l28, h29, h⟩ := bo h
   obtain rfl := oi h; exact rl [1, 2, 3, 4] [0, 1, 2] [.t, .row (c52 x5), .callm [] (.sl 3 r9) [], .sum [1, 2, 3, 4, 5, 6, 7] [0, 1, 2, 4] (.exit 2) [(1, .o 0), (2, .os 1 0), (3, .os 2 l28.length), (4, .j v3)] [.box 31 (c31 a1) false, .n 43, .w 43 l28]] (pc h4<|pc (ob52 h6)<|pc (k_palingref47_vlans h8)<|pc (k_palingref47_lopsided_L2 _ _ h29)<|pn)
  ·obtain rfl := oi h; exact rl [2, 3] [1, 2] [.f] (pc h4<|pn)
 ·exact Ex.noConfusion

theorem k_palingref47_lopsided {a1 : Api_Net} {r : ((List Palingref47_Note))} (h : palingref47_lopsided a1 = some r) :
  CallsOK Tryz.prog UU 24 [.agg (c31 a1)] [] ((fun r => match r with | l36 => .os 0 l36.length) r) ((fun r => match r with | l36 => [.w 43 l36]) r) := by
 unfold palingref47_lopsided at h
 obtain ⟨l33, h34, h⟩ := bo h
 obtain rfl := oi h; exact rf Tryz.func24 (some [1]) [.sum [1, 2, 3, 4] [0, 1, 2] (.exit 0) [(2, .os 0 0), (3, .os 1 l33.length)] [.n 43, .w 43 l33]] (pc (k_palingref47_lopsided_L1 _ _ h34)<|pn)

theorem k_palingref15_Members_L1 {a1 : Api_Net} {x6 : Api_Domain} : LoopOK Tryz.prog UU 0 50 (subC (codeOf Tryz.f116) [1, 1, 1, 1, 0, 1, 0, 0]) (fun s : (List Int) × Int => match s with | (l8, v9) => palingref15_Members_L1 a1 x6 l8 v9)
  (fun s : (List Int) × Int => (match s with | (l8, v9) => [(2, .o 0), (4, .os 1 0), (5, .os 2 l8.length), (6, .o 3), (7, .j v9)] : Fr DD)) (fun s : (List Int) × Int => (match s with | (l8, v9) => [.box 31 (c31 a1) false, .n 3, .w 3 l8, .box 63 (c63 x6) false] : Heap DD)) (fun r => match r with | l22 => .exit 0) (fun r => match r with | l22 => [(4, .os 0 0), (5, .os 1 l22.length)]) (fun r => match r with | l22 => [.n 3, .w 3 l22]) := by
 refine loop_sound3 (fun s q h => ?_) (fun r => ?_)
 ·obtain ⟨l8, v9⟩ := s; replace h : palingref15_Members_L1 a1 x6 l8 v9 = some q := h
  unfold palingref15_Members_L1 at h
  obtain ⟨h10, h⟩|⟨h10, h⟩ := ite_out h
  ·obtain ⟨x11, h12, h⟩ := bo h
   obtain ⟨h13, h⟩|⟨h13, h⟩ := ite_out h
   ·obtain ⟨x14, h15, h⟩ := bo h
    obtain ⟨r16, h17, h⟩ := bo h
    obtain ⟨h18, h⟩|⟨h18, h⟩ := ite_out h
    ·obtain ⟨h19, h⟩|⟨h19, h⟩ := ite_out h
     ·obtain rfl := oi h; exact rl [2, 4, 5, 6, 7] [0, 1, 2, 3] [.t, .row (c52 x11), .t, .row (c52 x14), .b r16, .t, .obj [] (.w 3 [v9]), .obj [] (.w 3 (l8 ++ [v9]))] (pc h10<|pc (ob52 h12)<|pc h13<|pc (ob52 h15)<|pc (k_palingref15_Member h17)<|pc h18<|pc (bs_ob 3 [v9])<|pc (app_ob 3 (n := l8.length) (l := l8) (xs := [v9]) h19)<|pc (rn (List.length [v9]))<|pn)
     ·cases h
    ·obtain rfl := oi h; exact rl [2, 4, 5, 6, 7] [0, 1, 2, 3] [.t, .row (c52 x11), .t, .row (c52 x14), .b r16, .f] (pc h10<|pc (ob52 h12)<|pc h13<|pc (ob52 h15)<|pc (k_palingref15_Member h17)<|pc h18<|pn)
   ·obtain rfl := oi h; exact rl [2, 4, 5, 6, 7] [0, 1, 2, 3] [.t, .row (c52 x11), .f] (pc h10<|pc (ob52 h12)<|pc h13<|pn)
  ·obtain rfl := oi h; exact rl [4, 5] [1, 2] [.f] (pc h10<|pn)
 ·exact Ex.noConfusion

theorem k_palingref15_Members {a1 : Api_Net} {a2 : Int} {r : ((List Int))} (h : palingref15_Members a1 a2 = some r) :
  CallsOK Tryz.prog UU 116 [.agg (c31 a1), .j a2] [] ((fun r => match r with | l25 => .os 0 l25.length) r) ((fun r => match r with | l25 => [.w 3 l25]) r) := by
 unfold palingref15_Members at h
 obtain ⟨r3, h4, h⟩ := bo h
 obtain ⟨h5, h⟩|⟨h5, h⟩ := ite_out h
 ·obtain rfl := oi h; exact rf Tryz.func116 (some [3]) [.b r3, .t] (pc (k_palingref15_Place h4)<|pc h5<|pn)
 ·obtain ⟨x6, h7, h⟩ := bo h
  obtain ⟨l22, h23, h⟩ := bo h
  obtain rfl := oi h; exact rf Tryz.func116 (some [1]) [.b r3, .f, .row (c63 x6), .sum [2, 4, 5, 6, 7] [0, 1, 2, 4] (.exit 0) [(4, .os 0 0), (5, .os 1 l22.length)] [.n 3, .w 3 l22]] (pc (k_palingref15_Place h4)<|pc h5<|pc (ob63 h7)<|pc (k_palingref15_Members_L1 _ _ h23)<|pn)

theorem k_palingref17_Domain {a1 : Api_Net} {a2 : Int} {a3 : Int} {r : Int × Bool} (h : palingref17_Domain a1 a2 a3 = some r) :
  CallsOK Tryz.prog UU 131 [.agg (c31 a1), .j a2, .j a3] [] (.tup [.j r.1, .y r.2]) [] := by
 unfold palingref17_Domain at h
 obtain ⟨r4, h5, h⟩ := bo h
 obtain ⟨h6, h⟩|⟨h6, h⟩ := ite_out h
 ·obtain rfl := oi h; exact rf Tryz.func131 none [.callv (.tup [.j r4.1, .j r4.2.1, .y r4.2.2]), .t] (pc (k_palingref17_Cross h5)<|pc h6<|pn)
 ·obtain ⟨x7, h8, h⟩ := bo h
  obtain ⟨r9, h10, h⟩ := bo h
  obtain rfl := oi h; exact rf Tryz.func131 none [.callv (.tup [.j r4.1, .j r4.2.1, .y r4.2.2]), .f, .row (c52 x7), .callv (.j r9)] (pc (k_palingref17_Cross h5)<|pc h6<|pc (ob52 h8)<|pc (k_palingref15_At h10)<|pn)

theorem k_palingref35_Hops_L1 {a1 : Api_Net} {a2 : Int} {l5 : List Int} : LoopOK Tryz.prog UU 0 70 (subC (codeOf Tryz.f115) [1, 1, 1, 0, 1, 0, 0]) (fun s : (List Palingref35_Hop) × Int => match s with | (l6, v7) => palingref35_Hops_L1 a1 a2 l5 l6 v7)
  (fun s : (List Palingref35_Hop) × Int => (match s with | (l6, v7) => [(1, .j a2), (2, .o 0), (4, .os 1 0), (5, .os 2 l6.length), (6, .os 3 l5.length), (7, .j v7)] : Fr DD)) (fun s : (List Palingref35_Hop) × Int => (match s with | (l6, v7) => [.box 31 (c31 a1) false, .n 146, .w 146 l6, .w 3 l5] : Heap DD)) (fun r => match r with | l24 => .exit 0) (fun r => match r with | l24 => [(1, .j a2), (2, .o 0), (4, .os 1 0), (5, .os 2 l24.length)]) (fun r => match r with | l24 => [.box 31 (c31 a1) false, .n 146, .w 146 l24]) := by
 refine loop_sound3 (fun s q h => ?_) (fun r => ?_)
 ·obtain ⟨l6, v7⟩ := s; replace h : palingref35_Hops_L1 a1 a2 l5 l6 v7 = some q := h
  unfold palingref35_Hops_L1 at h
  obtain ⟨h8, h⟩|⟨h8, h⟩ := ite_out h
  ·obtain ⟨h9, h⟩|⟨h9, h⟩ := ite_out h
   ·obtain ⟨x10, h11, h⟩ := bo h
    obtain ⟨x12, h13, h⟩ := bo h
    obtain ⟨r14, h15, h⟩ := bo h
    obtain ⟨h16, h⟩|⟨h16, h⟩ := ite_out h
    ·obtain ⟨x17, h18, h⟩ := bo h
     obtain ⟨h19, h⟩|⟨h19, h⟩ := ite_out h
     ·obtain rfl := oi h; exact rl [1, 2, 4, 5, 6, 7] [0, 1, 2, 3] [.t, .row (c3 x10), .row (c63 x12), .callv (.tup [.j r14.1, .y r14.2]), .t, .row (c3 x17), .obj [] (.w 146 [(⟨1, x17, r14.1, 0⟩ : Palingref35_Hop)]), .obj [] (.w 146 (l6 ++ [(⟨1, x17, r14.1, 0⟩ : Palingref35_Hop)]))] (pc (rn l5.length)<|pc h8<|pc (an l5.length (lin_ob h9))<|pc (an l5.length (obn3 h11))<|pc (ob63 h13)<|pc (k_palingref17_Domain h15)<|pc h16<|pc (an l5.length (lin_ob h9))<|pc (an l5.length (obn3 h18))<|pc (bs_ob 146 [(⟨1, x17, r14.1, 0⟩ : Palingref35_Hop)])<|pc (app_ob 146 (n := l6.length) (l := l6) (xs := [(⟨1, x17, r14.1, 0⟩ : Palingref35_Hop)]) h19)<|pc (rn (List.length [(⟨1, x17, r14.1, 0⟩ : Palingref35_Hop)]))<|pn)
     ·cases h
    ·obtain rfl := oi h; exact rl [1, 2, 4, 5, 6, 7] [0, 1, 2, 3] [.t, .row (c3 x10), .row (c63 x12), .callv (.tup [.j r14.1, .y r14.2]), .f] (pc (rn l5.length)<|pc h8<|pc (an l5.length (lin_ob h9))<|pc (an l5.length (obn3 h11))<|pc (ob63 h13)<|pc (k_palingref17_Domain h15)<|pc h16<|pn)
   ·cases h
  ·obtain rfl := oi h; exact rl [1, 2, 4, 5] [0, 1, 2] [.f] (pc (rn l5.length)<|pc h8<|pn)
 ·exact Ex.noConfusion

theorem k_palingref35_Hops_L2 {a1 : Api_Net} {a2 : Int} : LoopOK Tryz.prog UU 0 70 (subC (codeOf Tryz.f115) [1, 1, 1, 1, 0, 1, 0, 0]) (fun s : (List Palingref35_Hop) × Int => match s with | (l27, v28) => palingref35_Hops_L2 a1 a2 l27 v28)
  (fun s : (List Palingref35_Hop) × Int => (match s with | (l27, v28) => [(1, .j a2), (2, .o 0), (4, .os 1 0), (5, .os 2 l27.length), (10, .j v28)] : Fr DD)) (fun s : (List Palingref35_Hop) × Int => (match s with | (l27, v28) => [.box 31 (c31 a1) false, .n 146, .w 146 l27] : Heap DD)) (fun r => match r with | l39 => .exit 2) (fun r => match r with | l39 => [(4, .os 0 0), (5, .os 1 l39.length)]) (fun r => match r with | l39 => [.n 146, .w 146 l39]) := by
 refine loop_sound3 (fun s q h => ?_) (fun r => ?_)
 ·obtain ⟨l27, v28⟩ := s; replace h : palingref35_Hops_L2 a1 a2 l27 v28 = some q := h
  unfold palingref35_Hops_L2 at h
  obtain ⟨x29, h30, h⟩ := bo h
  obtain ⟨h31, h⟩|⟨h31, h⟩ := ite_out h
  ·obtain ⟨x32, h33, h⟩ := bo h
   obtain ⟨x34, h35, h⟩ := bo h
   obtain ⟨h36, h⟩|⟨h36, h⟩ := ite_out h
   ·obtain rfl := oi h; exact rl [1, 2, 4, 5, 10] [0, 1, 2] [.row (c63 x29), .t, .row (c63 x32), .row (c3 x34), .obj [] (.w 146 [(⟨2, 0, x34, 0⟩ : Palingref35_Hop)]), .obj [] (.w 146 (l27 ++ [(⟨2, 0, x34, 0⟩ : Palingref35_Hop)]))] (pc (ob63 h30)<|pc h31<|pc (ob63 h33)<|pc (ob3 h35)<|pc (bs_ob 146 [(⟨2, 0, x34, 0⟩ : Palingref35_Hop)])<|pc (app_ob 146 (n := l27.length) (l := l27) (xs := [(⟨2, 0, x34, 0⟩ : Palingref35_Hop)]) h36)<|pc (rn (List.length [(⟨2, 0, x34, 0⟩ : Palingref35_Hop)]))<|pn)
   ·cases h
  ·obtain rfl := oi h; exact rl [4, 5] [1, 2] [.row (c63 x29), .f] (pc (ob63 h30)<|pc h31<|pn)
 ·exact Ex.noConfusion

theorem k_palingref35_Hops {a1 : Api_Net} {a2 : Int} {r : ((List Palingref35_Hop))} (h : palingref35_Hops a1 a2 = some r) :
  CallsOK Tryz.prog UU 115 [.agg (c31 a1), .j a2] [] ((fun r => match r with | l42 => .os 0 l42.length) r) ((fun r => match r with | l42 => [.w 146 l42]) r) := by
 unfold palingref35_Hops at h
 obtain ⟨l5, h4, h⟩ := bo h
 obtain ⟨l24, h25, h⟩ := bo h
 obtain ⟨l39, h40, h⟩ := bo h
 obtain rfl := oi h; exact rf Tryz.func115 (some [1]) [.callo (.os 0 l5.length) [.w 3 l5], .sum [1, 2, 4, 5, 6, 7] [0, 1, 2, 3] (.exit 0) [(1, .j a2), (2, .o 0), (4, .os 1 0), (5, .os 2 l24.length)] [.box 31 (c31 a1) false, .n 146, .w 146 l24], .sum [1, 2, 4, 5, 10] [0, 1, 2] (.exit 2) [(4, .os 0 0), (5, .os 1 l39.length)] [.n 146, .w 146 l39]] (pc (k_palingref15_Members h4)<|pc (im3 l5)<|pc (k_palingref35_Hops_L1 _ _ h25)<|pc (k_palingref35_Hops_L2 _ _ h40)<|pn)

theorem k_palingref35_Steps_L1 {a1 : Api_Net} {a2 : Int} : LoopOK Tryz.prog UU 0 86 (subC (codeOf Tryz.f95) [1, 1, 0, 1, 0, 0]) (fun s : (List Int) × Int => match s with | (l3, v4) => palingref35_Steps_L1 a1 a2 l3 v4)
  (fun s : (List Int) × Int => (match s with | (l3, v4) => [(1, .j a2), (2, .o 0), (4, .os 1 0), (5, .os 2 l3.length), (6, .j v4)] : Fr DD)) (fun s : (List Int) × Int => (match s with | (l3, v4) => [.box 31 (c31 a1) false, .n 3, .w 3 l3] : Heap DD)) (fun r => match r with | l11 => .exit 0) (fun r => match r with | l11 => [(1, .j a2), (2, .o 0), (4, .os 1 0), (5, .os 2 l11.length)]) (fun r => match r with | l11 => [.box 31 (c31 a1) false, .n 3, .w 3 l11]) := by
 refine loop_sound3 (fun s q h => ?_) (fun r => ?_)
 ·obtain ⟨l3, v4⟩ := s; replace h : palingref35_Steps_L1 a1 a2 l3 v4 = some q := h
  unfold palingref35_Steps_L1 at h
  obtain ⟨h5, h⟩|⟨h5, h⟩ := ite_out h
  ·obtain ⟨h6, h⟩|⟨h6, h⟩ := ite_out h
   ·obtain rfl := oi h; exact rl [1, 2, 4, 5, 6] [0, 1, 2] [.t, .obj [] (.w 3 [((-1) : Int)]), .obj [] (.w 3 (l3 ++ [((-1) : Int)]))] (pc h5<|pc (bs_ob 3 [((-1) : Int)])<|pc (app_ob 3 (n := l3.length) (l := l3) (xs := [((-1) : Int)]) h6)<|pc (rn (List.length [((-1) : Int)]))<|pn)
   ·cases h
  ·obtain rfl := oi h; exact rl [1, 2, 4, 5] [0, 1, 2] [.f] (pc h5<|pn)
 ·exact Ex.noConfusion

theorem k_palingref35_Steps_L4 {a1 : Api_Net} {l11 : List Int} {v18 : Int} {v21 : Int} {l25 : List Palingref35_Hop} : LoopOK Tryz.prog UU 0 86 (subC (codeOf Tryz.f95) [1, 1, 1, 1, 0, 1, 0, 0, 1, 0, 0, 1, 0, 0, 1, 0, 0, 1, 1, 0, 0]) (fun s : (List Int) × Int => match s with | (l26, v27) => palingref35_Steps_L4 a1 l11 v18 v21 l25 l26 v27)
  (fun s : (List Int) × Int => (match s with | (l26, v27) => [(2, .o 0), (4, .os 1 0), (5, .os 2 l11.length), (7, .j v18), (8, .j v21), (9, .os 3 l25.length), (10, .j v27)] : Fr DD)) (fun s : (List Int) × Int => (match s with | (l26, v27) => [.box 31 (c31 a1) false, .n 3, .arr 3 l26 l11.length false, .w 146 l25] : Heap DD)) (fun r => match r with | l58 => .exit 6) (fun r => match r with | l58 => [(2, .o 0), (4, .os 1 0), (5, .os 2 l11.length), (7, .j v18), (8, .j v21)]) (fun r => match r with | l58 => [.box 31 (c31 a1) false, .n 3, .arr 3 l58 l11.length false]) := by
 refine loop_sound3 (fun s q h => ?_) (fun r => ?_)
 ·obtain ⟨l26, v27⟩ := s; replace h : palingref35_Steps_L4 a1 l11 v18 v21 l25 l26 v27 = some q := h
  unfold palingref35_Steps_L4 at h
  obtain ⟨h28, h⟩|⟨h28, h⟩ := ite_out h
  ·obtain ⟨h29, h⟩|⟨h29, h⟩ := ite_out h
   ·obtain ⟨x30, h31, h⟩ := bo h
    obtain ⟨h32, h⟩|⟨h32, h⟩ := ite_out h
    ·obtain ⟨x33, h34, h⟩ := bo h
     obtain ⟨h35, h⟩|⟨h35, h⟩ := ite_out h
     ·obtain ⟨h36, h⟩|⟨h36, h⟩ := ite_out h
      ·obtain ⟨x37, h38, h⟩ := bo h
       obtain ⟨h39, h⟩|⟨h39, h⟩ := ite_out h
       ·obtain ⟨x40, h41, h⟩ := bo h
        obtain ⟨x42, h43, h⟩ := bo h
        obtain rfl := oi h; exact rl [2, 4, 5, 7, 8, 9, 10] [0, 1, 2, 3] [.t, .row (c146 x30), .row (c3 x33), .t, .row (c3 x37), .t, .row (c3 x40), .row (c3 x42), .obj [] (.arr 3 (List.set l26 (Int.toNat x30.domain) (wr_i64 (x40 + 1) : Int)) l11.length false)] (pc (rn l25.length)<|pc h28<|pc (an l25.length (lin_ob h29))<|pc (rn l25.length)<|pc (an l25.length (obn146 h31))<|pc (an l11.length (lin_ob h32))<|pc (an l11.length (obn3 h34))<|pc h35<|pc (an l11.length (lin_ob h36))<|pc (an l11.length (obn3 h38))<|pc h39<|pc (an l11.length (lin_ob h32))<|pc (an l11.length (obn3 h41))<|pc (an l11.length (lin_ob h36))<|pc (st_ob (e := 3) (n := l11.length) (l := l26) (i := (Int.toNat x30.domain)) (wr_i64 (x40 + 1) : Int) [.j (wr_i64 (x40 + 1))] (obn3 h43) rfl)<|pn)
       ·obtain ⟨x44, h45, h⟩ := bo h
        obtain ⟨x46, h47, h⟩ := bo h
        obtain ⟨h48, h⟩|⟨h48, h⟩ := ite_out h
        ·obtain ⟨x49, h50, h⟩ := bo h
         obtain ⟨x51, h52, h⟩ := bo h
         obtain rfl := oi h; exact rl [2, 4, 5, 7, 8, 9, 10] [0, 1, 2, 3] [.t, .row (c146 x30), .row (c3 x33), .t, .row (c3 x37), .f, .row (c3 x44), .row (c3 x46), .t, .row (c3 x49), .row (c3 x51), .obj [] (.arr 3 (List.set l26 (Int.toNat x30.domain) (wr_i64 (x49 + 1) : Int)) l11.length false)] (pc (rn l25.length)<|pc h28<|pc (an l25.length (lin_ob h29))<|pc (rn l25.length)<|pc (an l25.length (obn146 h31))<|pc (an l11.length (lin_ob h32))<|pc (an l11.length (obn3 h34))<|pc h35<|pc (an l11.length (lin_ob h36))<|pc (an l11.length (obn3 h38))<|pc h39<|pc (an l11.length (lin_ob h32))<|pc (an l11.length (obn3 h45))<|pc (an l11.length (lin_ob h36))<|pc (an l11.length (obn3 h47))<|pc h48<|pc (an l11.length (lin_ob h32))<|pc (an l11.length (obn3 h50))<|pc (an l11.length (lin_ob h36))<|pc (st_ob (e := 3) (n := l11.length) (l := l26) (i := (Int.toNat x30.domain)) (wr_i64 (x49 + 1) : Int) [.j (wr_i64 (x49 + 1))] (obn3 h52) rfl)<|pn)
        ·obtain rfl := oi h; exact rl [2, 4, 5, 7, 8, 9, 10] [0, 1, 2, 3] [.t, .row (c146 x30), .row (c3 x33), .t, .row (c3 x37), .f, .row (c3 x44), .row (c3 x46), .f] (pc (rn l25.length)<|pc h28<|pc (an l25.length (lin_ob h29))<|pc (rn l25.length)<|pc (an l25.length (obn146 h31))<|pc (an l11.length (lin_ob h32))<|pc (an l11.length (obn3 h34))<|pc h35<|pc (an l11.length (lin_ob h36))<|pc (an l11.length (obn3 h38))<|pc h39<|pc (an l11.length (lin_ob h32))<|pc (an l11.length (obn3 h45))<|pc (an l11.length (lin_ob h36))<|pc (an l11.length (obn3 h47))<|pc h48<|pn)
      ·cases h
     ·obtain rfl := oi h; exact rl [2, 4, 5, 7, 8, 9, 10] [0, 1, 2, 3] [.t, .row (c146 x30), .row (c3 x33), .f] (pc (rn l25.length)<|pc h28<|pc (an l25.length (lin_ob h29))<|pc (rn l25.length)<|pc (an l25.length (obn146 h31))<|pc (an l11.length (lin_ob h32))<|pc (an l11.length (obn3 h34))<|pc h35<|pn)
    ·cases h
   ·cases h
  ·obtain rfl := oi h; exact rl [2, 4, 5, 7, 8] [0, 1, 2] [.f] (pc (rn l25.length)<|pc h28<|pn)
 ·exact Ex.noConfusion

theorem k_palingref35_Steps_L3 {a1 : Api_Net} {l11 : List Int} {v18 : Int} : LoopOK Tryz.prog UU 0 86 (subC (codeOf Tryz.f95) [1, 1, 1, 1, 0, 1, 0, 0, 1, 0, 0, 1, 0, 0]) (fun s : (List Int) × Int => match s with | (l20, v21) => palingref35_Steps_L3 a1 l11 v18 l20 v21)
  (fun s : (List Int) × Int => (match s with | (l20, v21) => [(2, .o 0), (4, .os 1 0), (5, .os 2 l11.length), (7, .j v18), (8, .j v21)] : Fr DD)) (fun s : (List Int) × Int => (match s with | (l20, v21) => [.box 31 (c31 a1) false, .n 3, .arr 3 l20 l11.length false] : Heap DD)) (fun r => match r with | l65 => .exit 4) (fun r => match r with | l65 => [(2, .o 0), (4, .os 1 0), (5, .os 2 l11.length), (7, .j v18)]) (fun r => match r with | l65 => [.box 31 (c31 a1) false, .n 3, .arr 3 l65 l11.length false]) := by
 refine loop_sound3 (fun s q h => ?_) (fun r => ?_)
 ·obtain ⟨l20, v21⟩ := s; replace h : palingref35_Steps_L3 a1 l11 v18 l20 v21 = some q := h
  unfold palingref35_Steps_L3 at h
  obtain ⟨h22, h⟩|⟨h22, h⟩ := ite_out h
  ·obtain ⟨l25, h24, h⟩ := bo h
   obtain ⟨l58, h59, h⟩ := bo h
   obtain rfl := oi h; exact rl [2, 4, 5, 7, 8] [0, 1, 2] [.t, .callo (.os 0 l25.length) [.w 146 l25], .sum [2, 4, 5, 7, 8, 9, 10] [0, 1, 2, 3] (.exit 6) [(2, .o 0), (4, .os 1 0), (5, .os 2 l11.length), (7, .j v18), (8, .j v21)] [.box 31 (c31 a1) false, .n 3, .arr 3 l58 l11.length false]] (pc h22<|pc (k_palingref35_Hops h24)<|pc (im146 l25)<|pc (k_palingref35_Steps_L4 _ _ h59)<|pn)
  ·obtain rfl := oi h; exact rl [2, 4, 5, 7] [0, 1, 2] [.f] (pc h22<|pn)
 ·exact Ex.noConfusion

theorem k_palingref35_Steps_L2 {a1 : Api_Net} {l11 : List Int} : LoopOK Tryz.prog UU 0 86 (subC (codeOf Tryz.f95) [1, 1, 1, 1, 0, 1, 0, 0]) (fun s : (List Int) × Int => match s with | (l17, v18) => palingref35_Steps_L2 a1 l11 l17 v18)
  (fun s : (List Int) × Int => (match s with | (l17, v18) => [(2, .o 0), (4, .os 1 0), (5, .os 2 l11.length), (7, .j v18)] : Fr DD)) (fun s : (List Int) × Int => (match s with | (l17, v18) => [.box 31 (c31 a1) false, .n 3, .arr 3 l17 l11.length false] : Heap DD)) (fun r => match r with | l70 => .exit 2) (fun r => match r with | l70 => [(4, .os 0 0), (5, .os 1 l11.length)]) (fun r => match r with | l70 => [.n 3, .arr 3 l70 l11.length false]) := by
 refine loop_sound3 (fun s q h => ?_) (fun r => ?_)
 ·obtain ⟨l17, v18⟩ := s; replace h : palingref35_Steps_L2 a1 l11 l17 v18 = some q := h
  unfold palingref35_Steps_L2 at h
  obtain ⟨h19, h⟩|⟨h19, h⟩ := ite_out h
  ·obtain ⟨l65, h66, h⟩ := bo h
   obtain rfl := oi h; exact rl [2, 4, 5, 7] [0, 1, 2] [.t, .sum [2, 4, 5, 7, 8] [0, 1, 2] (.exit 4) [(2, .o 0), (4, .os 1 0), (5, .os 2 l11.length), (7, .j v18)] [.box 31 (c31 a1) false, .n 3, .arr 3 l65 l11.length false]] (pc h19<|pc (k_palingref35_Steps_L3 _ _ h66)<|pn)
  ·obtain rfl := oi h; exact rl [4, 5] [1, 2] [.f] (pc h19<|pn)
 ·exact Ex.noConfusion

theorem k_palingref35_Steps {a1 : Api_Net} {a2 : Int} {r : ((List Int) × Nat)} (h : palingref35_Steps a1 a2 = some r) :
  CallsOK Tryz.prog UU 95 [.agg (c31 a1), .j a2] [] ((fun r => match r with | (l73, n74) => .os 0 n74) r) ((fun r => match r with | (l73, n74) => [.arr 3 l73 n74 false]) r) := by
 unfold palingref35_Steps at h
 obtain ⟨l11, h12, h⟩ := bo h
 obtain ⟨h14, h⟩|⟨h14, h⟩ := ite_out h
 ·obtain ⟨x15, h16, h⟩ := bo h
  obtain ⟨l70, h71, h⟩ := bo h
  obtain rfl := oi h; exact rf Tryz.func95 (some [1]) [.sum [1, 2, 4, 5, 6] [0, 1, 2] (.exit 0) [(1, .j a2), (2, .o 0), (4, .os 1 0), (5, .os 2 l11.length)] [.box 31 (c31 a1) false, .n 3, .w 3 l11], .row (c3 x15), .obj [] (.arr 3 (List.set l11 a2.toNat (0 : Int)) l11.length false), .sum [2, 4, 5, 7] [0, 1, 2] (.exit 2) [(4, .os 0 0), (5, .os 1 l11.length)] [.n 3, .arr 3 l70 l11.length false]] (pc (k_palingref35_Steps_L1 _ _ h12)<|pc (an l11.length (lin_ob h14))<|pc (st_ob (e := 3) (n := l11.length) (l := l11) (i := a2.toNat) (0 : Int) [.z] (obn3 h16) rfl)<|pc (k_palingref35_Steps_L2 _ _ h71)<|pn)
 ·cases h

end Go.Eng
